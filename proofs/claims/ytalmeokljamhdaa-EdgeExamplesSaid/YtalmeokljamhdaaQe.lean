/- Queues: the guest that is called. -/
import Derived.Test.YtalmeokljamhdaaQd
namespace Go.Proofs.Ytalmeokljamhdaa
open Go.RowKit

def inc (g : Gst) : Gst := ⟨g.id, g.fast, g.skips + 1⟩
def callF (lim next : Int) (l : List Gst) : Int × Int × List Gst × Int × Int :=
  if chkQ lim next l = false then (0, 0, [], 0, 8) else if l.length = 0 then (0, 0, [], 0, 6)
  else (lim, next, (l.take (nextGo lim 0 l)).map inc ++ l.drop (nextGo lim 0 l + 1), ((l[nextGo lim 0 l]?).map Gst.id).getD 0, 0)

theorem qGo_skips {next : Int} : ∀ (l : List Gst) (id sk : Int), qGo next id sk l = true → sk ≤ 8 → ∀ g ∈ l, 0 ≤ g.skips ∧ g.skips ≤ 8 := by
  intro l
  induction l with
  | nil => intro id sk _ _ g hg; simp at hg
  | cons x l ih =>
    intro id sk h hs g hg
    rw [qGo] at h
    by_cases hn : x.id ≤ id ∨ next ≤ x.id ∨ inB 0 (if x.fast then 0 else sk) x.skips = false
    · rw [if_pos hn] at h; cases h
    · rw [if_neg hn] at h
      have h3 : inB 0 (if x.fast = true then 0 else sk) x.skips = true := by
        cases hb : inB 0 (if x.fast = true then 0 else sk) x.skips
        · exact absurd (Or.inr (Or.inr hb)) hn
        · rfl
      simp only [inB, decide_eq_true_eq] at h3
      have hx : 0 ≤ x.skips ∧ x.skips ≤ 8 := by split at h3 <;> omega
      rcases List.mem_cons.1 hg with rfl | hg
      · exact hx
      · exact ih _ _ h (by split <;> omega) g hg
theorem chkQ_skips {lim next : Int} {l : List Gst} (h : chkQ lim next l = true) : ∀ g ∈ l, 0 ≤ g.skips ∧ g.skips ≤ 8 := by
  simp only [chkQ, Bool.and_eq_true, inB, decide_eq_true_eq] at h
  exact qGo_skips l _ _ h.2 (by omega)
theorem idx_cases (lim : Int) : ∀ (l : List Gst) (j : Nat), (idxGo lim j l = -1 ∧ nextGo lim j l = 0) ∨ ∃ (i : Nat) (g : Gst), idxGo lim j l = ((j + i : Nat) : Int) ∧ l[i]? = some g ∧ (g.fast = true ∧ nextGo lim j l = j + i ∨ g.fast = false ∧ nextGo lim j l = 0) := by
  intro l
  induction l with
  | nil => intro j; exact .inl ⟨rfl, rfl⟩
  | cons x l ih =>
    intro j
    cases hf : x.fast
    · by_cases hs : x.skips = lim
      · exact .inr ⟨0, x, idxGo_hit rfl (by simp [hit, hs]), rfl, .inr ⟨hf, nextGo_lim rfl hf hs⟩⟩
      · have h1 : idxGo lim j (x :: l) = idxGo lim (j + 1) l := idxGo_on rfl (by simp [hit, hs, hf])
        have h2 : nextGo lim j (x :: l) = nextGo lim (j + 1) l := nextGo_on rfl hf hs
        rw [h1, h2]
        rcases ih (j + 1) with h | ⟨i, g, h1, h2, h3⟩
        · exact .inl h
        · refine .inr ⟨i + 1, g, by rw [h1]; congr 1; omega, by simpa using h2, ?_⟩
          rcases h3 with ⟨a, b⟩ | ⟨a, b⟩
          · exact .inl ⟨a, by rw [b]; omega⟩
          · exact .inr ⟨a, b⟩
    · exact .inr ⟨0, x, idxGo_hit rfl (by simp [hit, hf]), rfl, .inl ⟨hf, nextGo_fast rfl hf⟩⟩

theorem Rd.part {w : World} {A : Option Addr} {xs ys zs : List Value} (h : Rd w A xs) (he : xs = ys ++ zs) : Rd w A ys := by
  rcases h with h | ⟨b, off, h1, h3, h4⟩
  · rw [h] at he
    exact .inl (List.append_eq_nil_iff.1 he.symm).1
  · refine .inr ⟨b, off, h1, h3, fun j u hu => h4 j u ?_⟩
    rw [he, List.getElem?_append_left (List.getElem?_eq_some_iff.1 hu).1]
    exact hu
theorem Rd.take_ {α : Type} {enc : α → List Value} {w : World} {A : Option Addr} {l : List α} (h : Rd w A (flat enc l)) (n : Nat) : Rd w A (flat enc (l.take n)) :=
  h.part (zs := flat enc (l.drop n)) (by rw [← flat_append, List.take_append_drop])
theorem Rd.drop_ {α : Type} {enc : α → List Value} {sz : Nat} (hsz : ∀ x, (enc x).length = sz) {w : World} {A : Option Addr} {l : List α} (h : Rd w A (flat enc l)) (n c : Nat) (hc : l.length ≤ c) :
    Rd w (if c = n then A else A.map (·.add (n * sz))) (flat enc (l.drop n)) := by
  by_cases hn : l.length ≤ n
  · rw [List.drop_eq_nil_of_le hn]; exact .inl rfl
  rcases h with h | ⟨b, off, h1, h3, h4⟩
  · have hd := flat_drop enc sz hsz l n
    rw [h] at hd
    simp at hd
    exact .inl hd
  · rw [if_neg (by omega), h1]
    refine .inr ⟨b, off + n * sz, by simp [Addr.add_lit], h3, fun j u hu => ?_⟩
    rw [← flat_drop enc sz hsz, List.getElem?_drop] at hu
    rw [Nat.add_assoc]
    exact h4 _ u hu

theorem Ow.far {w : World} {base B' i : Nat} {A : Option Addr} {xs : List Value} (h : Ow w base A xs) (v : Value) (hne : B' < base) : Ow (w.setCell ⟨B', i, none⟩ v) base A xs := by
  rcases h with h | ⟨b, off, h1, h2, h3, h4, h5⟩
  · exact .inl h
  · refine .inr ⟨b, off, h1, h2, by simpa using h3, fun j u hu => ?_, fun o => by rw [World.frozen?_setCell]; exact h5 o⟩
    rw [World.cell?_setCell_other w _ _ v (by intro e; injection e with e _; omega)]
    exact h4 j u hu
theorem below_drew (w : World) : Below w.heap.size w w.drew := (Below.refl _ _).drew
theorem flat_set2 : ∀ (L : List Gst) (k : Nat) (g : Gst) (x : Int), L[k]? = some g → (flat genc L).set (k * 3 + 2) (.int .i64 x) = flat genc (L.set k ⟨g.id, g.fast, x⟩) := by
  intro L
  induction L with
  | nil => intro k g x h; simp at h
  | cons y L ih =>
    intro k g x h
    cases k with
    | zero =>
      simp at h
      subst h
      simp [flat_cons, genc]
    | succ k =>
      simp at h
      rw [List.set_cons_succ, flat_cons, flat_cons, ← ih k g x h, List.set_append_right _ _ (by rw [genc_len]; omega), genc_len]
      congr 2
      omega
def half (t : List Gst) (k : Nat) : List Gst := (t.take k).map inc ++ t.drop k
theorem half_get {t : List Gst} {k : Nat} {g : Gst} (h : t[k]? = some g) : (half t k)[k]? = some g := by
  have hk := (List.getElem?_eq_some_iff.1 h).1
  unfold half
  rw [List.getElem?_append_right (by simp; omega)]
  simp only [List.length_map, List.length_take, List.getElem?_drop]
  rw [Nat.min_eq_left (by omega), Nat.sub_self, Nat.add_zero]
  exact h
theorem half_set {t : List Gst} {k : Nat} {g : Gst} (h : t[k]? = some g) : (half t k).set k (inc g) = half t (k + 1) := by
  have hk := (List.getElem?_eq_some_iff.1 h).1
  unfold half
  rw [List.set_append_right _ _ (by simp; omega)]
  simp only [List.length_map, List.length_take]
  rw [Nat.min_eq_left (by omega), Nat.sub_self, List.drop_eq_getElem_cons hk, List.set_cons_zero, List.take_succ_eq_append_getElem hk]
  have hg : t[k] = g := (List.getElem?_eq_some_iff.1 h).2
  simp [hg]
theorem half_all {t : List Gst} {k : Nat} (h : t.length ≤ k) : half t k = t.map inc := by
  unfold half
  rw [List.take_of_length_le h, List.drop_eq_nil_of_le h, List.append_nil]

set_option maxRecDepth 100000 in
set_option maxHeartbeats 4000000 in
theorem call_ok (lim next : Int) (A : Option Addr) (l : List Gst) (n c : Nat) (w : World) (hr : Rd w A (flat genc l)) (hn : n = l.length) (hl : n ≤ 1000) (hcap : n ≤ c) (hv : chkQ lim next l = true) (h0 : 0 < n) :
    Calls Try.prog 22 #[.agg #[.int .i64 lim, .int .i64 next, .slice A n c]] w (QPostC (callF lim next l) w) := by
  have HR := Lib.hid hr
  have HN := Lib.hid hn
  have HV := Lib.hid hv
  clear hr hn hv
  have hn0 : ((n : Int) == 0) = false := by simp; omega
  obtain ⟨i0, hi0, hz0, hz1, hz2⟩ := info_parts info41
  have HI := Lib.hid hi0
  have HZ0 := Lib.hid hz0
  have HZ1 := Lib.hid hz1
  have HZ2 := Lib.hid hz2
  clear hi0 hz0 hz1 hz2
  obtain ⟨p, hp⟩ : ∃ p, p = nextGo lim 0 l := ⟨_, rfl⟩
  have HP := Lib.hid hp
  clear hp
  go_enter Try.func22, Try.ntmps22
  go_wp2_with fail
  refine (checkQueue_any _ _ _ l _ _ _ (HR.out.below (below_more (below_alloc _ _) _)) HN.out hl).mono ?_
  rintro e w1 ⟨rfl, hb1⟩
  rw [HV.out]
  have hx1 := ((Box.new w 24 _).alloc _).ext hb1
  have hx2 := (Box.new _ 24 _).ext hb1
  have HB := Lib.hid (below_step (below_more (below_alloc w _) _) hb1)
  obtain ⟨p0, p1, p2, pf⟩ := hx1.c3
  have HX1 := Lib.hid hx1
  have HX2 := Lib.hid hx2
  have hs1 : w.heap.size + 1 < w1.heap.size := by have := hb1.size; simp only [World.size_alloc] at this; omega
  have hs0 : w.heap.size < w1.heap.size := by omega
  have HX := Lib.hid (HR.out.below (below_step (below_more (below_alloc w _) _) hb1))
  clear hb1 hx1 hx2
  simp only [errB, if_true]
  go_wp2_with fail
  refine (indexFunc_any lim _ l _ _ _ _ HX.out HN.out hl hs0 p0).mono ?_
  rintro e w2 ⟨rfl, hb2⟩
  have hx1 := HX1.out.ext hb2
  have hx2 := HX2.out.ext hb2
  have HB2 := Lib.hid (below_step HB.out hb2)
  have HY := Lib.hid (HX.out.below hb2)
  have hs2 : w.heap.size + 1 < w2.heap.size := by have := hb2.size; omega
  clear p0 p1 p2 pf HX1 HX2 hb2 HX HB
  obtain ⟨p0, p1, p2, pf⟩ := hx1.c3
  have HX1 := Lib.hid hx1
  have HX2 := Lib.hid hx2
  clear hx1 hx2
  have hcs : (idxGo lim 0 l = -1 ∧ p = 0) ∨ ∃ (i : Nat) (g : Gst), idxGo lim 0 l = (i : Int) ∧ i < n ∧ l[i]? = some g ∧ (g.fast = true ∧ p = i ∨ g.fast = false ∧ p = 0) := by
    rw [HP.out]
    rcases idx_cases lim l 0 with h | ⟨i, g, h1, h2, h3⟩
    · exact .inl h
    · refine .inr ⟨i, g, by simpa using h1, by rw [HN.out]; exact (List.getElem?_eq_some_iff.1 h2).1, h2, by simpa using h3⟩
  have hpn : p < n := by rcases hcs with ⟨_, h⟩ | ⟨i, g, _, hi, _, ⟨_, h⟩ | ⟨_, h⟩⟩ <;> omega
  have hlt' : p < l.length := by rw [← HN.out]; exact hpn
  obtain ⟨b, off, rfl, hbs, hc0, hc1, hc2⟩ := gst_at HY.out (Below.refl _ _) hlt'
  have HG : Hid (l[p]? = some l[p]) := List.getElem?_eq_getElem hlt'
  generalize l[p] = gp at hc0 hc1 hc2 HG
  rcases gp with ⟨gi, gf, gs⟩
  simp only at hc0 hc1 hc2
  have hcs2 : Hid ((idxGo lim 0 l = -1 ∧ p = 0) ∨ ∃ (i : Nat) (f : Bool), idxGo lim 0 l = (i : Int) ∧ i < n ∧ w2.cell? ⟨b, off + i * 3 + 1, none⟩ = some (.bool f) ∧ (f = true ∧ p = i ∨ f = false ∧ p = 0)) := by
    rcases hcs with h | ⟨i, g, h1, h2, h3, h4⟩
    · exact .inl h
    · have hi' : i < l.length := by rw [← HN.out]; exact h2
      obtain ⟨b', off', hA', _, _, hi1, _⟩ := gst_at HY.out (Below.refl _ _) hi'
      injection hA' with hA'
      injection hA' with hA1 hA2
      subst hA1; subst hA2
      rw [List.getElem?_eq_getElem hi'] at h3
      injection h3 with h3
      rw [h3] at hi1
      exact .inr ⟨i, g.fast, h1, h2, hi1, h4⟩
  clear hcs
  have HLT : Hid (p = (l.take p).length) := by unfold Hid; rw [List.length_take]; omega
  generalize idxGo lim 0 l = ix at hcs2 ⊢
  rcases hcs2 with ⟨hix, hp0⟩ | ⟨i, f, hix, hi, hif, ⟨hff, hpi⟩ | ⟨hff, hp0⟩⟩
  · subst hix
    have HP0 := Lib.hid hp0
    clear hp0
    go_upto_if 37 with fail
    go_cut [6] (fun s6 wx => s6 = .int .i64 (p : Int) ∧ w2 = wx)
    case first =>
      go_wp2
      go_meet
      exact ⟨by rw [HP0.out]; rfl, rfl⟩
    case rest =>
      obtain ⟨rfl, rfl⟩ := hcut
      go_wp2_with fail
      refine (clone_any ⟨b, off, none⟩ (l.take p) p c _ (HY.out.take_ p) HLT.out (by omega)).mono ?_
      rintro e w3 ⟨A3, c3, rfl, hown3, hb3⟩
      rw [← HLT.out] at hown3 ⊢
      have HB3 := Lib.hid hb3
      have HO3 := Lib.hid hown3
      clear p0 p1 p2 pf hb3 hown3 hc0 hc1 hc2
      go_wp2
      go_loopw [51] (fun u51 wr => ∃ (k : Nat), k ≤ p ∧ u51 = .int .i64 k ∧ Hid (wr.ownsRow w2.heap.size 41 3 (.slice A3 p c3) p (flat genc (half (l.take p) k))) ∧ Below w2.heap.size w2 wr ∧ w3.heap.size ≤ wr.heap.size) (fun u51 _ => p - (intOf u51).toNat)
      case atStart => exact ⟨0, Nat.zero_le _, rfl, (by unfold Hid; simpa [half] using HO3.out), HB3.out, Nat.le_refl _⟩
      case round =>
        obtain ⟨k, hk, rfl, ho, hb, hsz⟩ := hrel
        by_cases hkp : k < p
        · have hkt : k < (l.take p).length := by rw [← HLT.out]; exact hkp
          have hge : (l.take p)[k]? = some (l.take p)[k] := List.getElem?_eq_getElem hkt
          have hsk := chkQ_skips HV.out (l.take p)[k] (List.mem_of_mem_take (List.getElem_mem hkt))
          obtain ⟨g, cap, hv, hgb, hgs⟩ := ho.out.form (by omega)
          injection hv with hv1 _ hv3
          subst hv1; subst hv3
          have hcl : wr.cell? ⟨g, k * 3 + 2, none⟩ = some (.int .i64 (l.take p)[k].skips) := by
            rw [ho.out.cellAt (k * 3 + 2) (by omega), flat_get genc 3 genc_len _ k _ 2 (half_get hge) (by omega)]
            rfl
          have hfz := ho.out.frozenAt (k * 3 + 2)
          have hst := (ho.out.stored (k * 3 + 2) (.int .i64 ((l.take p)[k].skips + 1))).1
          rw [flat_set2 _ k _ _ (half_get hge)] at hst
          have hse := half_set hge
          unfold inc at hse
          rw [hse] at hst
          have HST := Lib.hid hst
          clear hst hse hge
          generalize (l.take p)[k].skips = sk at hsk hcl HST
          go_wp2
          go_roundw
          case rel => exact ⟨k + 1, by omega, by go_num, HST.out, hb.setCell hgb _, by simpa using hsz⟩
          case measure => simp [intOf]; omega
        · have hkk : k = p := by omega
          subst hkk
          have HO := Lib.hid ho.out
          rw [half_all (by rw [← HLT.out]; omega)] at HO
          obtain ⟨p0, p1, p2, pf⟩ := (HX1.out.ext hb).c3
          have HW1 := Lib.hid (HX1.out.ext hb)
          have HW2 := Lib.hid (HX2.out.ext hb)
          have HRD := Lib.hid (HY.out.below hb)
          have hsr : w.heap.size + 1 < wr.heap.size := by have := hb.size; omega
          have hfinb := Lib.hid (below_step HB2.out hb)
          obtain ⟨A9, c9, he9, how9⟩ := rd_of_own HO.out
          injection he9 with he9 _ he9'
          subst he9; subst he9'
          have hk1 : (k : Int) + 1 ≤ n := by omega
          have e1 : IntKind.i64.wrap ((k : Int) + 1) = (k : Int) + 1 := IntWalk.i64_in _ (by omega)
          have e2 : 0 ≤ (k : Int) + 1 := by omega
          have e3 : ((k : Int) + 1).toNat = k + 1 := by omega
          have HOW := Lib.hid how9
          have hkc : k ≤ c3 := own_cap HO.out
          have HM : Hid (k + (n - (k + 1)) = n - 1) := by unfold Hid; omega
          have HL1 : Hid ((flat genc ((l.take k).map inc)).length = k * 3) := by unfold Hid; rw [flat_length genc 3 genc_len, List.length_map, ← HLT.out]
          have HL2 : Hid ((flat genc (l.drop (k + 1))).length = (n - (k + 1)) * 3) := by unfold Hid; rw [flat_length genc 3 genc_len, List.length_drop, ← HN.out]
          have HL3 : Hid (k + (n - (k + 1)) ≤ maxLen) := by unfold Hid; simp only [maxLen]; omega
          have HL4 : Hid ((k + (n - (k + 1))) * 24 ≤ 140737488355328) := by unfold Hid; omega
          have HRD2 := Lib.hid (HRD.out.drop_ genc_len (k + 1) c (by rw [← HN.out]; exact hcap))
          clear how9 ho
          go_wp2
          go_region_law (refine step_app_full _ rfl (.tmp 66) (.tmp 71) _ rfl w2.heap.size 41 i0 _ 3 24 Try.underlying22 HI.out HZ0.out HZ1.out HZ2.out rfl (by omega) A3 k (flat genc ((l.take k).map inc)) rfl _ (n - (k + 1)) (c - (k + 1)) (flat genc (l.drop (k + 1))) rfl (n - 1) (flat genc ((l.take k).map inc ++ l.drop (k + 1))) ?_ HM.out (flat_append _ _ _).symm HOW.out.rd HL1.out HRD2.out HL2.out (genc_one _) HL3.out HL4.out; intro A1 c1 w5 hfa; have HF := Lib.hid hfa; obtain ⟨s0, s1, s2, sf⟩ := (Box.ext (w := wr.drew) HW1.out hfa.1).c3; obtain ⟨r0, r1, r2, rf⟩ := (Box.ext (w := wr.drew) HW2.out hfa.1).c3; simp only [World.size_alloc] at r0 r1 r2 rf; have hs5 : w.heap.size + 1 < w5.heap.size := (by have := hfa.1.size; simp only [World.size_drew] at this; omega); clear hfa p0 p1 p2 pf)
          all_goals go_wp2
          all_goals
            refine bodyPost_ret (v := .tuple #[.agg #[.int .i64 lim, .int .i64 next, .slice A1 (n - 1) c1], .int .i64 gi, .int .i64 0]) (by simp [results, Try.results22, go_sem, r0, r1, r2]) rfl ?_
            unfold QPostC callF
            rw [if_neg (by rw [HV.out]; simp), if_neg (by rw [← HN.out]; omega), ← HP.out, HG.out]
            have hsz5 := HF.out.1.size
            simp only [World.size_drew] at hsz5
            have how := HF.out.2.1 HOW.out (by simp only [World.size_drew]; have := hb.size; omega)
            have how := ((((how.far (B' := w.heap.size) (i := 2) (.slice A1 (n - 1) c1) (by omega)).far (B' := w.heap.size + 1) (i := 0) (.int .i64 lim) (by omega)).far (B' := w.heap.size + 1) (i := 1) (.int .i64 next) (by omega)).far (B' := w.heap.size + 1) (i := 2) (.slice A1 (n - 1) c1) (by omega))
            have hfin := below_step hfinb.out (below_step (below_drew _) HF.out.1)
            refine ⟨A1, c1, ?_, ?_, how.mono (by omega), ?_⟩
            · simp only [List.length_append, List.length_map, List.length_drop, ← HLT.out, ← HN.out]
              exact Nat.le_trans (Nat.le_of_eq HM.out) HF.out.2.2.2.2
            · simp only [List.length_append, List.length_map, List.length_drop, ← HLT.out, ← HN.out]
              rw [show k + (n - (k + 1)) = n - 1 from HM.out]
              rfl
            · exact (((hfin.setCell (by simp) _).setCell (by simp) _).setCell (by simp) _).setCell (by simp) _
  · subst hff
    obtain rfl : i = p := hpi.symm
    subst hix
    have hip : (i : Int) < n := by omega
    go_upto_if 37 with fail
    go_cut [6] (fun s6 wx => s6 = .int .i64 (i : Int) ∧ w2 = wx)
    case first =>
      go_wp2
      go_meet
      exact ⟨rfl, rfl⟩
    case rest =>
      obtain ⟨rfl, rfl⟩ := hcut
      go_wp2_with fail
      refine (clone_any ⟨b, off, none⟩ (l.take i) i c _ (HY.out.take_ i) HLT.out (by omega)).mono ?_
      rintro e w3 ⟨A3, c3, rfl, hown3, hb3⟩
      rw [← HLT.out] at hown3 ⊢
      have HB3 := Lib.hid hb3
      have HO3 := Lib.hid hown3
      clear p0 p1 p2 pf hb3 hown3 hc0 hc1 hc2
      go_wp2
      go_loopw [51] (fun u51 wr => ∃ (k : Nat), k ≤ i ∧ u51 = .int .i64 k ∧ Hid (wr.ownsRow w2.heap.size 41 3 (.slice A3 i c3) i (flat genc (half (l.take i) k))) ∧ Below w2.heap.size w2 wr ∧ w3.heap.size ≤ wr.heap.size) (fun u51 _ => i - (intOf u51).toNat)
      case atStart => exact ⟨0, Nat.zero_le _, rfl, (by unfold Hid; simpa [half] using HO3.out), HB3.out, Nat.le_refl _⟩
      case round =>
        obtain ⟨k, hk, rfl, ho, hb, hsz⟩ := hrel
        by_cases hkp : k < i
        · have hkt : k < (l.take i).length := by rw [← HLT.out]; exact hkp
          have hge : (l.take i)[k]? = some (l.take i)[k] := List.getElem?_eq_getElem hkt
          have hsk := chkQ_skips HV.out (l.take i)[k] (List.mem_of_mem_take (List.getElem_mem hkt))
          obtain ⟨g, cap, hv, hgb, hgs⟩ := ho.out.form (by omega)
          injection hv with hv1 _ hv3
          subst hv1; subst hv3
          have hcl : wr.cell? ⟨g, k * 3 + 2, none⟩ = some (.int .i64 (l.take i)[k].skips) := by
            rw [ho.out.cellAt (k * 3 + 2) (by omega), flat_get genc 3 genc_len _ k _ 2 (half_get hge) (by omega)]
            rfl
          have hfz := ho.out.frozenAt (k * 3 + 2)
          have hst := (ho.out.stored (k * 3 + 2) (.int .i64 ((l.take i)[k].skips + 1))).1
          rw [flat_set2 _ k _ _ (half_get hge)] at hst
          have hse := half_set hge
          unfold inc at hse
          rw [hse] at hst
          have HST := Lib.hid hst
          clear hst hse hge
          generalize (l.take i)[k].skips = sk at hsk hcl HST
          go_wp2
          go_roundw
          case rel => exact ⟨k + 1, by omega, by go_num, HST.out, hb.setCell hgb _, by simpa using hsz⟩
          case measure => simp [intOf]; omega
        · have hkk : k = i := by omega
          subst hkk
          have HO := Lib.hid ho.out
          rw [half_all (by rw [← HLT.out]; omega)] at HO
          obtain ⟨p0, p1, p2, pf⟩ := (HX1.out.ext hb).c3
          have HW1 := Lib.hid (HX1.out.ext hb)
          have HW2 := Lib.hid (HX2.out.ext hb)
          have HRD := Lib.hid (HY.out.below hb)
          have hsr : w.heap.size + 1 < wr.heap.size := by have := hb.size; omega
          have hfinb := Lib.hid (below_step HB2.out hb)
          obtain ⟨A9, c9, he9, how9⟩ := rd_of_own HO.out
          injection he9 with he9 _ he9'
          subst he9; subst he9'
          have hk1 : (k : Int) + 1 ≤ n := by omega
          have e1 : IntKind.i64.wrap ((k : Int) + 1) = (k : Int) + 1 := IntWalk.i64_in _ (by omega)
          have e2 : 0 ≤ (k : Int) + 1 := by omega
          have e3 : ((k : Int) + 1).toNat = k + 1 := by omega
          have HOW := Lib.hid how9
          have hkc : k ≤ c3 := own_cap HO.out
          have HM : Hid (k + (n - (k + 1)) = n - 1) := by unfold Hid; omega
          have HL1 : Hid ((flat genc ((l.take k).map inc)).length = k * 3) := by unfold Hid; rw [flat_length genc 3 genc_len, List.length_map, ← HLT.out]
          have HL2 : Hid ((flat genc (l.drop (k + 1))).length = (n - (k + 1)) * 3) := by unfold Hid; rw [flat_length genc 3 genc_len, List.length_drop, ← HN.out]
          have HL3 : Hid (k + (n - (k + 1)) ≤ maxLen) := by unfold Hid; simp only [maxLen]; omega
          have HL4 : Hid ((k + (n - (k + 1))) * 24 ≤ 140737488355328) := by unfold Hid; omega
          have HRD2 := Lib.hid (HRD.out.drop_ genc_len (k + 1) c (by rw [← HN.out]; exact hcap))
          clear how9 ho
          go_wp2
          go_region_law (refine step_app_full _ rfl (.tmp 66) (.tmp 71) _ rfl w2.heap.size 41 i0 _ 3 24 Try.underlying22 HI.out HZ0.out HZ1.out HZ2.out rfl (by omega) A3 k (flat genc ((l.take k).map inc)) rfl _ (n - (k + 1)) (c - (k + 1)) (flat genc (l.drop (k + 1))) rfl (n - 1) (flat genc ((l.take k).map inc ++ l.drop (k + 1))) ?_ HM.out (flat_append _ _ _).symm HOW.out.rd HL1.out HRD2.out HL2.out (genc_one _) HL3.out HL4.out; intro A1 c1 w5 hfa; have HF := Lib.hid hfa; obtain ⟨s0, s1, s2, sf⟩ := (Box.ext (w := wr.drew) HW1.out hfa.1).c3; obtain ⟨r0, r1, r2, rf⟩ := (Box.ext (w := wr.drew) HW2.out hfa.1).c3; simp only [World.size_alloc] at r0 r1 r2 rf; have hs5 : w.heap.size + 1 < w5.heap.size := (by have := hfa.1.size; simp only [World.size_drew] at this; omega); clear hfa p0 p1 p2 pf)
          all_goals go_wp2
          all_goals
            refine bodyPost_ret (v := .tuple #[.agg #[.int .i64 lim, .int .i64 next, .slice A1 (n - 1) c1], .int .i64 gi, .int .i64 0]) (by simp [results, Try.results22, go_sem, r0, r1, r2]) rfl ?_
            unfold QPostC callF
            rw [if_neg (by rw [HV.out]; simp), if_neg (by rw [← HN.out]; omega), ← HP.out, HG.out]
            have hsz5 := HF.out.1.size
            simp only [World.size_drew] at hsz5
            have how := HF.out.2.1 HOW.out (by simp only [World.size_drew]; have := hb.size; omega)
            have how := ((((how.far (B' := w.heap.size) (i := 2) (.slice A1 (n - 1) c1) (by omega)).far (B' := w.heap.size + 1) (i := 0) (.int .i64 lim) (by omega)).far (B' := w.heap.size + 1) (i := 1) (.int .i64 next) (by omega)).far (B' := w.heap.size + 1) (i := 2) (.slice A1 (n - 1) c1) (by omega))
            have hfin := below_step hfinb.out (below_step (below_drew _) HF.out.1)
            refine ⟨A1, c1, ?_, ?_, how.mono (by omega), ?_⟩
            · simp only [List.length_append, List.length_map, List.length_drop, ← HLT.out, ← HN.out]
              exact Nat.le_trans (Nat.le_of_eq HM.out) HF.out.2.2.2.2
            · simp only [List.length_append, List.length_map, List.length_drop, ← HLT.out, ← HN.out]
              rw [show k + (n - (k + 1)) = n - 1 from HM.out]
              rfl
            · exact (((hfin.setCell (by simp) _).setCell (by simp) _).setCell (by simp) _).setCell (by simp) _
  · subst hff
    subst hix
    have HP0 := Lib.hid hp0
    clear hp0
    have hip : (i : Int) < n := by omega
    go_upto_if 37 with fail
    go_cut [6] (fun s6 wx => s6 = .int .i64 (p : Int) ∧ w2 = wx)
    case first =>
      go_wp2
      go_meet
      exact ⟨by rw [HP0.out]; rfl, rfl⟩
    case rest =>
      obtain ⟨rfl, rfl⟩ := hcut
      go_wp2_with fail
      refine (clone_any ⟨b, off, none⟩ (l.take p) p c _ (HY.out.take_ p) HLT.out (by omega)).mono ?_
      rintro e w3 ⟨A3, c3, rfl, hown3, hb3⟩
      rw [← HLT.out] at hown3 ⊢
      have HB3 := Lib.hid hb3
      have HO3 := Lib.hid hown3
      clear p0 p1 p2 pf hb3 hown3 hc0 hc1 hc2
      go_wp2
      go_loopw [51] (fun u51 wr => ∃ (k : Nat), k ≤ p ∧ u51 = .int .i64 k ∧ Hid (wr.ownsRow w2.heap.size 41 3 (.slice A3 p c3) p (flat genc (half (l.take p) k))) ∧ Below w2.heap.size w2 wr ∧ w3.heap.size ≤ wr.heap.size) (fun u51 _ => p - (intOf u51).toNat)
      case atStart => exact ⟨0, Nat.zero_le _, rfl, (by unfold Hid; simpa [half] using HO3.out), HB3.out, Nat.le_refl _⟩
      case round =>
        obtain ⟨k, hk, rfl, ho, hb, hsz⟩ := hrel
        by_cases hkp : k < p
        · have hkt : k < (l.take p).length := by rw [← HLT.out]; exact hkp
          have hge : (l.take p)[k]? = some (l.take p)[k] := List.getElem?_eq_getElem hkt
          have hsk := chkQ_skips HV.out (l.take p)[k] (List.mem_of_mem_take (List.getElem_mem hkt))
          obtain ⟨g, cap, hv, hgb, hgs⟩ := ho.out.form (by omega)
          injection hv with hv1 _ hv3
          subst hv1; subst hv3
          have hcl : wr.cell? ⟨g, k * 3 + 2, none⟩ = some (.int .i64 (l.take p)[k].skips) := by
            rw [ho.out.cellAt (k * 3 + 2) (by omega), flat_get genc 3 genc_len _ k _ 2 (half_get hge) (by omega)]
            rfl
          have hfz := ho.out.frozenAt (k * 3 + 2)
          have hst := (ho.out.stored (k * 3 + 2) (.int .i64 ((l.take p)[k].skips + 1))).1
          rw [flat_set2 _ k _ _ (half_get hge)] at hst
          have hse := half_set hge
          unfold inc at hse
          rw [hse] at hst
          have HST := Lib.hid hst
          clear hst hse hge
          generalize (l.take p)[k].skips = sk at hsk hcl HST
          go_wp2
          go_roundw
          case rel => exact ⟨k + 1, by omega, by go_num, HST.out, hb.setCell hgb _, by simpa using hsz⟩
          case measure => simp [intOf]; omega
        · have hkk : k = p := by omega
          subst hkk
          have HO := Lib.hid ho.out
          rw [half_all (by rw [← HLT.out]; omega)] at HO
          obtain ⟨p0, p1, p2, pf⟩ := (HX1.out.ext hb).c3
          have HW1 := Lib.hid (HX1.out.ext hb)
          have HW2 := Lib.hid (HX2.out.ext hb)
          have HRD := Lib.hid (HY.out.below hb)
          have hsr : w.heap.size + 1 < wr.heap.size := by have := hb.size; omega
          have hfinb := Lib.hid (below_step HB2.out hb)
          obtain ⟨A9, c9, he9, how9⟩ := rd_of_own HO.out
          injection he9 with he9 _ he9'
          subst he9; subst he9'
          have hk1 : (k : Int) + 1 ≤ n := by omega
          have e1 : IntKind.i64.wrap ((k : Int) + 1) = (k : Int) + 1 := IntWalk.i64_in _ (by omega)
          have e2 : 0 ≤ (k : Int) + 1 := by omega
          have e3 : ((k : Int) + 1).toNat = k + 1 := by omega
          have HOW := Lib.hid how9
          have hkc : k ≤ c3 := own_cap HO.out
          have HM : Hid (k + (n - (k + 1)) = n - 1) := by unfold Hid; omega
          have HL1 : Hid ((flat genc ((l.take k).map inc)).length = k * 3) := by unfold Hid; rw [flat_length genc 3 genc_len, List.length_map, ← HLT.out]
          have HL2 : Hid ((flat genc (l.drop (k + 1))).length = (n - (k + 1)) * 3) := by unfold Hid; rw [flat_length genc 3 genc_len, List.length_drop, ← HN.out]
          have HL3 : Hid (k + (n - (k + 1)) ≤ maxLen) := by unfold Hid; simp only [maxLen]; omega
          have HL4 : Hid ((k + (n - (k + 1))) * 24 ≤ 140737488355328) := by unfold Hid; omega
          have HRD2 := Lib.hid (HRD.out.drop_ genc_len (k + 1) c (by rw [← HN.out]; exact hcap))
          clear how9 ho
          go_wp2
          go_region_law (refine step_app_full _ rfl (.tmp 66) (.tmp 71) _ rfl w2.heap.size 41 i0 _ 3 24 Try.underlying22 HI.out HZ0.out HZ1.out HZ2.out rfl (by omega) A3 k (flat genc ((l.take k).map inc)) rfl _ (n - (k + 1)) (c - (k + 1)) (flat genc (l.drop (k + 1))) rfl (n - 1) (flat genc ((l.take k).map inc ++ l.drop (k + 1))) ?_ HM.out (flat_append _ _ _).symm HOW.out.rd HL1.out HRD2.out HL2.out (genc_one _) HL3.out HL4.out; intro A1 c1 w5 hfa; have HF := Lib.hid hfa; obtain ⟨s0, s1, s2, sf⟩ := (Box.ext (w := wr.drew) HW1.out hfa.1).c3; obtain ⟨r0, r1, r2, rf⟩ := (Box.ext (w := wr.drew) HW2.out hfa.1).c3; simp only [World.size_alloc] at r0 r1 r2 rf; have hs5 : w.heap.size + 1 < w5.heap.size := (by have := hfa.1.size; simp only [World.size_drew] at this; omega); clear hfa p0 p1 p2 pf)
          all_goals go_wp2
          all_goals
            refine bodyPost_ret (v := .tuple #[.agg #[.int .i64 lim, .int .i64 next, .slice A1 (n - 1) c1], .int .i64 gi, .int .i64 0]) (by simp [results, Try.results22, go_sem, r0, r1, r2]) rfl ?_
            unfold QPostC callF
            rw [if_neg (by rw [HV.out]; simp), if_neg (by rw [← HN.out]; omega), ← HP.out, HG.out]
            have hsz5 := HF.out.1.size
            simp only [World.size_drew] at hsz5
            have how := HF.out.2.1 HOW.out (by simp only [World.size_drew]; have := hb.size; omega)
            have how := ((((how.far (B' := w.heap.size) (i := 2) (.slice A1 (n - 1) c1) (by omega)).far (B' := w.heap.size + 1) (i := 0) (.int .i64 lim) (by omega)).far (B' := w.heap.size + 1) (i := 1) (.int .i64 next) (by omega)).far (B' := w.heap.size + 1) (i := 2) (.slice A1 (n - 1) c1) (by omega))
            have hfin := below_step hfinb.out (below_step (below_drew _) HF.out.1)
            refine ⟨A1, c1, ?_, ?_, how.mono (by omega), ?_⟩
            · simp only [List.length_append, List.length_map, List.length_drop, ← HLT.out, ← HN.out]
              exact Nat.le_trans (Nat.le_of_eq HM.out) HF.out.2.2.2.2
            · simp only [List.length_append, List.length_map, List.length_drop, ← HLT.out, ← HN.out]
              rw [show k + (n - (k + 1)) = n - 1 from HM.out]
              rfl
            · exact (((hfin.setCell (by simp) _).setCell (by simp) _).setCell (by simp) _).setCell (by simp) _

set_option maxRecDepth 100000 in
set_option maxHeartbeats 4000000 in
theorem call_cap (lim next : Int) (A : Option Addr) (l : List Gst) (n c : Nat) (w : World) (hr : Rd w A (flat genc l)) (hn : n = l.length) (hl : n ≤ 1000) (hcap : n ≤ c) :
    Calls Try.prog 22 #[.agg #[.int .i64 lim, .int .i64 next, .slice A n c]] w (QPostC (callF lim next l) w) := by
  cases hv : chkQ lim next l
  · have HR := Lib.hid hr
    have HN := Lib.hid hn
    have hj : Hid (callF lim next l = (0, 0, [], 0, 8)) := by unfold Hid callF; rw [if_pos hv]
    have HV := Lib.hid hv
    clear hr hn hv
    go_enter Try.func22, Try.ntmps22
    go_wp2_with fail
    refine (checkQueue_any _ _ _ l _ _ _ (HR.out.below (below_more (below_alloc _ _) _)) HN.out hl).mono ?_
    rintro e w1 ⟨rfl, hb1⟩
    rw [HV.out]
    obtain ⟨q0, q1, q2, qf⟩ := ((Box.new _ 24 _).ext hb1).c3
    simp only [World.size_alloc] at q0 q1 q2 qf
    have HB := Lib.hid (below_step (below_more (below_alloc w _) _) hb1)
    clear hb1
    simp only [errB, Bool.false_eq_true, if_false]
    go_wp2
    refine bodyPost_ret (v := .tuple #[.agg #[.int .i64 0, .int .i64 0, .slice none 0 0], .int .i64 0, .int .i64 8]) (by simp [results, Try.results22, go_sem, q0, q1, q2]) rfl ?_
    unfold QPostC
    rw [hj.out]
    exact ⟨none, 0, Nat.le_refl _, rfl, Ow.nil _ _ _, ((HB.out.setCell (by simp) _).setCell (by simp) _).setCell (by simp) _⟩
  · by_cases h0 : 0 < n
    · exact call_ok lim next A l n c w hr hn hl hcap hv h0
    · have HR := Lib.hid hr
      have HN := Lib.hid hn
      have hj : Hid (callF lim next l = (0, 0, [], 0, 6)) := by unfold Hid callF; rw [if_neg (by rw [hv]; simp), if_pos (by omega)]
      have HV := Lib.hid hv
      have hn0 : ((n : Int) == 0) = true := by simp; omega
      clear hr hn hv
      go_enter Try.func22, Try.ntmps22
      go_wp2_with fail
      refine (checkQueue_any _ _ _ l _ _ _ (HR.out.below (below_more (below_alloc _ _) _)) HN.out hl).mono ?_
      rintro e w1 ⟨rfl, hb1⟩
      rw [HV.out]
      obtain ⟨p0, p1, p2, pf⟩ := (((Box.new w 24 _).alloc _).ext hb1).c3
      obtain ⟨q0, q1, q2, qf⟩ := ((Box.new _ 24 _).ext hb1).c3
      simp only [World.size_alloc] at q0 q1 q2 qf
      have HB := Lib.hid (below_step (below_more (below_alloc w _) _) hb1)
      clear hb1
      simp only [errB, if_true]
      go_wp2
      refine bodyPost_ret (v := .tuple #[.agg #[.int .i64 0, .int .i64 0, .slice none 0 0], .int .i64 0, .int .i64 6]) (by simp [results, Try.results22, go_sem, q0, q1, q2]) rfl ?_
      unfold QPostC
      rw [hj.out]
      exact ⟨none, 0, Nat.le_refl _, rfl, Ow.nil _ _ _, ((HB.out.setCell (by simp) _).setCell (by simp) _).setCell (by simp) _⟩
theorem call_any (lim next : Int) (A : Option Addr) (l : List Gst) (n c : Nat) (w : World) (hr : Rd w A (flat genc l)) (hn : n = l.length) (hl : n ≤ 1000) (hcap : n ≤ c) :
    Calls Try.prog 22 #[.agg #[.int .i64 lim, .int .i64 next, .slice A n c]] w (QPost (callF lim next l) w) := (call_cap lim next A l n c w hr hn hl hcap).mono fun _ _ h => h.post
end Go.Proofs.Ytalmeokljamhdaa
