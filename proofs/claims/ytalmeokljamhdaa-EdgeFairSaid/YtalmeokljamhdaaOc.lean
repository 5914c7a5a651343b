/- EdgeFair: nobody is passed over too often, or waits too long. -/
import Derived.Test.YtalmeokljamhdaaOb
import Derived.Carry
namespace Go.Proofs.Ytalmeokljamhdaa
open Go.RowKit

structure Mv where
  kind : Int
  fast : Bool
def menc (m : Mv) : List Value := [.int .u8 m.kind, .bool m.fast]
theorem menc_len (m : Mv) : (menc m).length = 2 := rfl
theorem mv_at {w wr : World} {A : Option Addr} {l : List Mv} (h : Rd w A (flat menc l)) (hb : Below w.heap.size w wr) {k : Nat} (hk : k < l.length) :
    ∃ b off, A = some ⟨b, off, none⟩ ∧ b < w.heap.size ∧ wr.cell? ⟨b, off + k * 2, none⟩ = some (.int .u8 l[k].kind) ∧ wr.cell? ⟨b, off + k * 2 + 1, none⟩ = some (.bool l[k].fast) := by
  obtain ⟨b, off, hA, hs, hc⟩ := h.elem menc_len (by omega) hk
  exact ⟨b, off, hA, hs, (hb.cell (p := ⟨b, off + k * 2, none⟩) hs).trans (hc 0 _ rfl), (hb.cell (p := ⟨b, off + k * 2 + 1, none⟩) hs).trans (hc 1 _ rfl)⟩
theorem join_two {lim next : Int} {L : List Gst} (hv : chkQ lim next L = true) (fast : Bool) : joinF lim next L fast = (0, 0, [], 0, 9) ∨ (L.length ≠ 20 ∧ next ≠ 1099511627776 ∧ joinF lim next L fast = (lim, next + 1, L ++ [⟨next, fast, 0⟩], next, 0)) := by
  unfold joinF
  rw [if_neg (by rw [hv]; simp)]
  by_cases h : L.length = 20 ∨ next = 1099511627776
  · rw [if_pos h]; exact .inl rfl
  · rw [if_neg h]; exact .inr ⟨fun e => h (.inl e), fun e => h (.inr e), rfl⟩
theorem Ow.alloc {w : World} {base : Nat} {A : Option Addr} {xs : List Value} (h : Ow w base A xs) (o : Obj) : Ow (w.alloc o) base A xs := h.below (below_alloc _ _)

theorem call_three {lim next : Int} {L : List Gst} (hv : chkQ lim next L = true) : (L.length = 0 ∧ callF lim next L = (0, 0, [], 0, 6)) ∨
    ∃ p g, L[p]? = some g ∧ Takes lim L p ∧ callF lim next L = (lim, next, remL L p, g.id, 0) := by
  by_cases h0 : L.length = 0
  · exact .inl ⟨h0, by simp [callF, hv, h0]⟩
  · have ht := takes_next lim L
    have hp := takes_lt ht (by omega)
    exact .inr ⟨_, _, List.getElem?_eq_getElem hp, ht, callF_ok hv (List.getElem?_eq_getElem hp)⟩

theorem BelX.mono {B B' X : Nat} {w w' : World} (h : BelX B X w w') (hB : B' ≤ B) : BelX B' X w w' := ⟨h.os, h.tape, h.output, h.size, fun k hk hx => h.block k (by omega) hx⟩
theorem upd_step {lim next : Int} {L : List Gst} {f f' : Int → Wt} {lf ls : Int} (hF : Fair lim next L f lf ls) {p i : Nat} {x : Gst} (hx : L[i]? = some x) (hf' : ∀ (i' : Nat) (y : Gst), L[i']? = some y → f' y.id = if i' < i then newW f p i' y else f y.id) (v : Wt) (hv : v = newW f p i x) :
    ∀ (i' : Nat) (y : Gst), L[i']? = some y → upd f' x.id v y.id = if i' < i + 1 then newW f p i' y else f y.id := by
  intro i' y hy
  have q4 := hF.q.2.2.2
  unfold upd
  by_cases hii : i' = i
  · subst hii
    rw [hx] at hy
    injection hy with hy
    subst hy
    rw [if_pos rfl, if_pos (by omega), hv]
  · have hne : y.id ≠ x.id := by
      rcases Nat.lt_or_gt_of_ne hii with h | h
      · have := qGo_lt q4 i' i _ _ h hy hx; omega
      · have := qGo_lt q4 i i' _ _ h hx hy; omega
    rw [if_neg hne, hf' i' y hy]
    by_cases h1 : i' < i
    · rw [if_pos h1, if_pos (by omega)]
    · rw [if_neg h1, if_neg (by omega)]

/-- What holds at the head of a round. -/
def FairAt (w W : World) (s : Nat) (lim : Int) (k : Nat) (wr : World) : Prop :=
  ∃ (next : Int) (L : List Gst) (f : Int → Wt) (lf ls : Int) (N : Nat), Fair lim next L f lf ls ∧ QBox wr s W.heap.size lim next L ∧ WMap wr (s + 1) N f ∧ N ≤ 21 * k ∧ Box wr (s + 2) [.int .i64 lf] ∧ Box wr (s + 3) [.int .i64 ls] ∧ Below w.heap.size w wr ∧ W.heap.size ≤ wr.heap.size

set_option maxRecDepth 100000 in
set_option maxHeartbeats 8000000 in
theorem edgeFair_walk (limit : Int) (A : Option Addr) (l : List Mv) (n c : Nat) (w : World) (hr : Rd w A (flat menc l)) (hn : n = l.length) (hmv : ∀ m ∈ l, 0 ≤ m.kind ∧ m.kind ≤ 255) :
    Calls Try.prog 11 #[.int .i64 limit, .slice A n c] w fun e w' => e = .returned (.bool true) ∧ Below w.heap.size w w' := by
  have HR := Lib.hid hr
  have HN := Lib.hid hn
  have HMV := Lib.hid hmv
  clear hr hn hmv
  cases hlim : inB 0 8 limit
  · as_aux_lemma =>
    have HNF := Lib.hid (newF_no hlim)
    go_enter Try.func11, Try.ntmps11
    go_wp2_with fail
    refine (alive_any _).mono ?_
    rintro e w1 ⟨rfl, hb⟩
    have HB := Lib.hid hb
    clear hb
    go_wp2_with fail
    refine (newQueue_any limit _).mono ?_
    rintro e w2 ⟨rfl, hb⟩
    rw [HNF.out]
    go_wp2
    go_ret
    exact ⟨rfl, below_more (below_step HB.out hb) _⟩
  have HNF := Lib.hid (newF_yes hlim)
  have hlim' : 0 ≤ limit ∧ limit ≤ 8 := by simpa [inB] using hlim
  clear hlim
  by_cases h150 : 150 < n
  · as_aux_lemma =>
    have h1 : decide (150 < n) = true := by simpa using h150
    go_enter Try.func11, Try.ntmps11
    go_wp2_with fail
    refine (alive_any _).mono ?_
    rintro e w1 ⟨rfl, hb⟩
    have HB := Lib.hid hb
    clear hb
    go_wp2_with fail
    refine (newQueue_any limit _).mono ?_
    rintro e w2 ⟨rfl, hb⟩
    rw [HNF.out]
    go_wp2
    go_ret
    exact ⟨rfl, below_more (below_step HB.out hb) _⟩
  have h150' : decide (150 < n) = false := by simpa using h150
  have h150'' : decide (150 < (n : Int)) = false := by simp; omega
  have hmm := @run_makeMap Try.prog
  go_enter Try.func11, Try.ntmps11
  go_wp2_with fail
  refine (alive_any _).mono ?_
  rintro e w1 ⟨rfl, hb⟩
  have HB := Lib.hid hb
  clear hb
  go_wp2_with fail
  refine (newQueue_any limit _).mono ?_
  rintro e w2 ⟨rfl, hb⟩
  rw [HNF.out]
  replace HB := Lib.hid (below_step HB.out hb)
  clear hb
  go_wp2
  clear hmm
  have hstart : FairAt w ((((w2.alloc (.cells #[.int .i64 limit, .int .i64 0, .slice none 0 0] 24)).alloc (.map #[] 0)).alloc (.cells #[.int .i64 (-1)] 3)).alloc (.cells #[.int .i64 (-1)] 3)) w2.heap.size limit 0 ((((w2.alloc (.cells #[.int .i64 limit, .int .i64 0, .slice none 0 0] 24)).alloc (.map #[] 0)).alloc (.cells #[.int .i64 (-1)] 3)).alloc (.cells #[.int .i64 (-1)] 3)) := by
    refine ⟨0, [], _, -1, -1, 0, Fair.start hlim', ⟨none, 0, (((Box.new w2 24 #[.int .i64 limit, .int .i64 0, .slice none 0 0]).alloc _).alloc _).alloc _, Ow.nil _ _ _, Nat.le_refl _⟩, ?_, Nat.le_refl _, ?_, ?_, below_more (below_more (below_more (below_more HB.out _) _) _) _, Nat.le_refl _⟩
    · have := ((WMap.made (w2.alloc (.cells #[.int .i64 limit, .int .i64 0, .slice none 0 0] 24))).alloc (.cells #[.int .i64 (-1)] 3)).alloc (.cells #[.int .i64 (-1)] 3)
      simpa only [World.size_alloc] using this
    · have := (Box.new ((w2.alloc (.cells #[.int .i64 limit, .int .i64 0, .slice none 0 0] 24)).alloc (.map #[] 0)) 3 #[.int .i64 (-1)]).alloc (.cells #[.int .i64 (-1)] 3)
      simpa only [World.size_alloc] using this
    · have := Box.new (((w2.alloc (.cells #[.int .i64 limit, .int .i64 0, .slice none 0 0] 24)).alloc (.map #[] 0)).alloc (.cells #[.int .i64 (-1)] 3)) 3 #[.int .i64 (-1)]
      simpa only [World.size_alloc] using this
  have HST := Lib.hid hstart
  clear hstart
  have hsW : w2.heap.size + 3 < ((((w2.alloc (.cells #[.int .i64 limit, .int .i64 0, .slice none 0 0] 24)).alloc (.map #[] 0)).alloc (.cells #[.int .i64 (-1)] 3)).alloc (.cells #[.int .i64 (-1)] 3)).heap.size := by simp only [World.size_alloc]; omega
  have hsw : w.heap.size ≤ w2.heap.size := HB.out.size
  generalize (((w2.alloc (.cells #[.int .i64 limit, .int .i64 0, .slice none 0 0] 24)).alloc (.map #[] 0)).alloc (.cells #[.int .i64 (-1)] 3)).alloc (.cells #[.int .i64 (-1)] 3) = W at *
  generalize w2.heap.size = s at *
  clear HB HNF
  go_loopw [47] (fun u wr => ∃ k : Nat, k ≤ n ∧ u = .int .i64 k ∧ Hid (FairAt w W s limit k wr)) (fun u _ => n - (intOf u).toNat)
  case atStart => exact ⟨0, Nat.zero_le _, rfl, HST.out⟩
  case round =>
    obtain ⟨k, hk, rfl, hfa⟩ := hrel
    obtain ⟨next, L, f, lf, ls, N, hF, ⟨A1, c1, hq, how, hc1⟩, hm, hN, hb9, hb10, hb, hsz⟩ := hfa.out
    clear hfa
    have HF := Lib.hid hF
    have HQ := Lib.hid hq
    have HOW := Lib.hid how
    have HM := Lib.hid hm
    have HB9 := Lib.hid hb9
    have HB10 := Lib.hid hb10
    have HB := Lib.hid hb
    obtain ⟨F1, F2, F3, F4⟩ := hF.q
    have HQG := Lib.hid F4
    clear hF hq how hm hb9 hb10 hb F4
    obtain ⟨m, hmL⟩ : ∃ m, m = L.length := ⟨_, rfl⟩
    rw [← hmL] at hc1 F3 HQ
    have HML := Lib.hid hmL
    clear hmL
    by_cases hlt : k < n
    · have hlt' : k < l.length := by rw [← HN.out]; exact hlt
      obtain ⟨b, off, rfl, hbs, hc0, hc1'⟩ := mv_at HR.out HB.out hlt'
      have hkd := HMV.out l[k] (List.getElem_mem hlt')
      generalize l[k] = mv at hc0 hc1' hkd
      rcases mv with ⟨kd, fa⟩
      simp only at hc0 hc1' hkd
      have hbw : b < wr.heap.size := by have := HB.out.size; omega
      obtain ⟨q0, q1, q2, qf⟩ := HQ.out.c3
      have hsq : s < wr.heap.size := by omega
      have hkn : (k : Int) < n := by omega
      have hpar : kd % 2 = 0 ∨ kd % 2 = 1 := by omega
      rcases hpar with hpar | hpar
      · rcases join_two HF.out.chk fa with hj | ⟨j1, j2, hj⟩
        · as_aux_lemma =>
          have HJ := Lib.hid hj
          clear hj
          go_wp2_with fail
          refine (join_cap limit next A1 L m c1 fa _ (HOW.out.alloc _).rd HML.out (by omega) hc1).mono ?_
          rintro e w3 ⟨A3, c3, hc3, he, how3, hb3⟩
          rw [HJ.out] at he
          simp only [List.length_nil] at he
          subst he
          have hfin : Hid (FairAt w W s limit (k + 1) (w3.alloc (.cells #[.int .i64 0, .int .i64 0, .slice A3 0 c3] 24))) := by
            refine ⟨next, L, f, lf, ls, N, HF.out, ⟨A1, c1, ?_, ((HOW.out.alloc _).below hb3).alloc _, by rw [← HML.out]; exact hc1⟩, ((HM.out.alloc _).ext hb3).alloc _, by omega, ((HB9.out.alloc _).ext hb3).alloc _, ((HB10.out.alloc _).ext hb3).alloc _, below_more (below_step (below_more HB.out _) hb3) _, ?_⟩
            · rw [← HML.out]; exact ((HQ.out.alloc _).ext hb3).alloc _
            · have := hb3.size; simp only [World.size_alloc] at this ⊢; omega
          clear hb3 how3 hc3 q0 q1 q2 qf
          go_wp2
          go_roundw
          case rel => exact ⟨k + 1, by omega, by go_num, hfin.out⟩
          case measure => simp [intOf]; omega
        · as_aux_lemma =>
          have HJ := Lib.hid hj
          have HJF := Lib.hid (HF.out.join fa j1 j2)
          clear hj j1 j2
          go_wp2_with fail
          refine (join_cap limit next A1 L m c1 fa _ (HOW.out.alloc _).rd HML.out (by omega) hc1).mono ?_
          rintro e w3 ⟨A3, c3, hc3, he, how3, hb3⟩
          rw [HJ.out] at he hc3 how3
          simp only [List.length_append, List.length_cons, List.length_nil, ← HML.out] at he hc3 how3
          subst he
          have HQ3 := Lib.hid (((HQ.out.alloc (.cells #[.int .u8 kd, .bool fa] 88)).ext hb3).alloc (.cells #[.int .i64 limit, .int .i64 (next + 1), .slice A3 (m + 1) c3] 24))
          have HX3 := Lib.hid (Box.new w3 24 #[.int .i64 limit, .int .i64 (next + 1), .slice A3 (m + 1) c3])
          have HO3 := Lib.hid ((how3.mono (base' := W.heap.size) (by simp only [World.size_alloc]; omega)).alloc (.cells #[.int .i64 limit, .int .i64 (next + 1), .slice A3 (m + 1) c3] 24))
          have HM3 := Lib.hid (((HM.out.alloc (.cells #[.int .u8 kd, .bool fa] 88)).ext hb3).alloc (.cells #[.int .i64 limit, .int .i64 (next + 1), .slice A3 (m + 1) c3] 24))
          have HN3 := Lib.hid (((HB9.out.alloc (.cells #[.int .u8 kd, .bool fa] 88)).ext hb3).alloc (.cells #[.int .i64 limit, .int .i64 (next + 1), .slice A3 (m + 1) c3] 24))
          have HT3 := Lib.hid (((HB10.out.alloc (.cells #[.int .u8 kd, .bool fa] 88)).ext hb3).alloc (.cells #[.int .i64 limit, .int .i64 (next + 1), .slice A3 (m + 1) c3] 24))
          have HB3 := Lib.hid (below_more (below_step (below_more HB.out (.cells #[.int .u8 kd, .bool fa] 88)) hb3) (.cells #[.int .i64 limit, .int .i64 (next + 1), .slice A3 (m + 1) c3] 24))
          have hs3 : W.heap.size ≤ w3.heap.size := by have := hb3.size; simp only [World.size_alloc] at this; omega
          clear hb3 how3 q0 q1 q2 qf HQ HOW HM HB9 HB10 HB
          obtain ⟨q0, q1, q2, qf⟩ := HQ3.out.c3
          have hwf : (Lit.int .i64 next).wf = true := WalkArith.wf_i64 (by omega)
          have HWF := Lib.hid hwf
          clear hwf
          go_wp2_with (at_mapUpdate; refine wpList_upd_w _ rfl (.tmp 67) (.tmp 68) (.tmp 72) rfl (s + 1) N f next ⟨m, 0, 0⟩ rfl rfl rfl ?_ HM3.out HWF.out (by unfold maxLen; omega); intro w4 hm4 hg4; have HM4 := Lib.hid hm4; have HG4 := Lib.hid (belX_grown hg4); have hx4 := HG4.out.box HX3.out (by simp) (by omega); have hq4 := HG4.out.box HQ3.out (by simp only [World.size_alloc]; omega) (by omega); have hsx4 := hx4.2.2; have hsq4 := hq4.2.2; clear q0 q1 q2 qf; obtain ⟨q0, q1, q2, qf⟩ := hq4.c3; obtain ⟨x0, x1, x2, xf⟩ := hx4.c3; have HQ4 := Lib.hid hq4; have HX4 := Lib.hid hx4; clear hm4 hg4 hx4 hq4)
          go_roundw
          case rel =>
            refine ⟨k + 1, by omega, by go_num, next + 1, _, _, lf, ls, N + 1, HJF.out, ⟨A3, c3, ?_, ?_, ?_⟩, ?_, by omega, ?_, ?_, ?_, ?_⟩
            · rw [List.length_append, ← HML.out]
              exact ((HQ4.out.set (i := 0) _ (by simp)).set (i := 1) _ (by simp)).set (i := 2) _ (by simp)
            · exact (((HO3.out.belX HG4.out (Nat.le_refl _) (by omega)).far _ (by omega)).far _ (by omega)).far _ (by omega)
            · rw [List.length_append, ← HML.out]; exact hc3
            · rw [← HML.out]
              exact ((HM4.out.set (by omega) _).set (by omega) _).set (by omega) _
            · exact (((HG4.out.box HN3.out (by simp only [World.size_alloc]; omega) (by omega)).far _ (by omega)).far _ (by omega)).far _ (by omega)
            · exact (((HG4.out.box HT3.out (by simp only [World.size_alloc]; omega) (by omega)).far _ (by omega)).far _ (by omega)).far _ (by omega)
            · exact (((HB3.out.trans (HG4.out.below (by simp only [World.size_alloc]; omega) (by omega))).setCell (by simp; omega) _).setCell (by simp; omega) _).setCell (by simp; omega) _
            · have := HG4.out.size; simp only [World.size_alloc] at this; simp; omega
          case measure => simp [intOf]; omega
      · rcases call_three HF.out.chk with ⟨_, hcf⟩ | ⟨p, g0, hg0, ht, hcf⟩
        · as_aux_lemma =>
          have HJ := Lib.hid hcf
          clear hcf
          go_wp2_with fail
          refine (call_cap limit next A1 L m c1 _ (HOW.out.alloc _).rd HML.out (by omega) hc1).mono ?_
          rintro e w3 ⟨A3, c3, hc3, he, how3, hb3⟩
          rw [HJ.out] at he
          simp only [List.length_nil] at he
          subst he
          have hfin : Hid (FairAt w W s limit (k + 1) (w3.alloc (.cells #[.int .i64 0, .int .i64 0, .slice A3 0 c3] 24))) := by
            refine ⟨next, L, f, lf, ls, N, HF.out, ⟨A1, c1, ?_, ((HOW.out.alloc _).below hb3).alloc _, by rw [← HML.out]; exact hc1⟩, ((HM.out.alloc _).ext hb3).alloc _, by omega, ((HB9.out.alloc _).ext hb3).alloc _, ((HB10.out.alloc _).ext hb3).alloc _, below_more (below_step (below_more HB.out _) hb3) _, ?_⟩
            · rw [← HML.out]; exact ((HQ.out.alloc _).ext hb3).alloc _
            · have := hb3.size; simp only [World.size_alloc] at this ⊢; omega
          clear hb3 how3 hc3 q0 q1 q2 qf
          go_wp2
          go_roundw
          case rel => exact ⟨k + 1, by omega, by go_num, hfin.out⟩
          case measure => simp [intOf]; omega
        · as_aux_lemma =>
          have HJ := Lib.hid hcf
          have HG0 := Lib.hid hg0
          have HT := Lib.hid ht
          have hpl : p < L.length := (List.getElem?_eq_some_iff.1 hg0).1
          have HXL := Lib.hid (remL_len hpl)
          rw [← HML.out] at HXL hpl
          have HWG : Hid (∀ x ∈ L, (Lit.int .i64 x.id).wf = true) := by
            intro x hx
            have := qGo_all HQG.out x hx
            exact WalkArith.wf_i64 (by omega)
          clear hcf hg0 ht
          go_wp2_with fail
          refine (call_cap limit next A1 L m c1 _ (HOW.out.alloc _).rd HML.out (by omega) hc1).mono ?_
          rintro e w3 ⟨A3, c3, hc3, he, how3, hb3⟩
          rw [HJ.out] at he hc3 how3
          simp only at he hc3 how3
          rw [HXL.out] at he hc3
          subst he
          have HQ3 := Lib.hid (((HQ.out.alloc (.cells #[.int .u8 kd, .bool fa] 88)).ext hb3).alloc (.cells #[.int .i64 limit, .int .i64 next, .slice A3 (m - 1) c3] 24))
          have HX3 := Lib.hid (Box.new w3 24 #[.int .i64 limit, .int .i64 next, .slice A3 (m - 1) c3])
          have HO3 := Lib.hid ((how3.mono (base' := W.heap.size) (by simp only [World.size_alloc]; omega)).alloc (.cells #[.int .i64 limit, .int .i64 next, .slice A3 (m - 1) c3] 24))
          have HL3 := Lib.hid (((HOW.out.alloc (.cells #[.int .u8 kd, .bool fa] 88)).below hb3).alloc (.cells #[.int .i64 limit, .int .i64 next, .slice A3 (m - 1) c3] 24))
          have HM3 := Lib.hid (((HM.out.alloc (.cells #[.int .u8 kd, .bool fa] 88)).ext hb3).alloc (.cells #[.int .i64 limit, .int .i64 next, .slice A3 (m - 1) c3] 24))
          have HN3 := Lib.hid (((HB9.out.alloc (.cells #[.int .u8 kd, .bool fa] 88)).ext hb3).alloc (.cells #[.int .i64 limit, .int .i64 next, .slice A3 (m - 1) c3] 24))
          have HT3 := Lib.hid (((HB10.out.alloc (.cells #[.int .u8 kd, .bool fa] 88)).ext hb3).alloc (.cells #[.int .i64 limit, .int .i64 next, .slice A3 (m - 1) c3] 24))
          have HB3 := Lib.hid (below_more (below_step (below_more HB.out (.cells #[.int .u8 kd, .bool fa] 88)) hb3) (.cells #[.int .i64 limit, .int .i64 next, .slice A3 (m - 1) c3] 24))
          have hs3 : W.heap.size ≤ w3.heap.size := by have := hb3.size; simp only [World.size_alloc] at this; omega
          clear hb3 how3 q0 q1 q2 qf HQ HOW HM HB9 HB10 HB
          obtain ⟨q0, q1, q2, qf⟩ := HQ3.out.c3
          go_wp2
          clear q0 q1 q2 qf
          generalize w3.alloc (.cells #[.int .i64 limit, .int .i64 next, .slice A3 (m - 1) c3] 24) = V at *
          have hsV := HX3.out.2.2
          obtain ⟨r3, hr3⟩ : ∃ r, r = w3.heap.size := ⟨_, rfl⟩
          rw [← hr3] at HX3 hs3 hsV ⊢
          clear hr3
          go_loopw [19, 85] (fun u19 u85 wr => ∃ j : Nat, j ≤ m ∧ u85 = .int .i64 j ∧ Hid (u19 = .int .i64 (if j ≤ p then -1 else p)) ∧ Hid (Below V.heap.size V wr)) (fun _ u85 _ => m - (intOf u85).toNat)
          case atStart => exact ⟨0, Nat.zero_le _, rfl, rfl, Below.refl _ _⟩
          case round =>
            obtain ⟨j, hj, rfl, h19, hb⟩ := hrel
            have h19' := h19.out
            subst h19'
            by_cases hjm : j < m
            · as_aux_lemma =>
              have hjl : j < L.length := by rw [← HML.out]; exact hjm
              obtain ⟨b2, off2, rfl, hbs2, hd0, hd1, hd2⟩ := gst_at HL3.out.rd hb.out hjl
              have hge : L[j]? = some L[j] := List.getElem?_eq_getElem hjl
              have hid : j ≠ p → (L[j].id == g0.id) = false := by
                intro hne
                rw [beq_eq_false_iff_ne]
                rcases Nat.lt_or_gt_of_ne hne with h | h
                · have := qGo_lt HQG.out j p _ _ h hge HG0.out; omega
                · have := qGo_lt HQG.out p j _ _ h HG0.out hge; omega
              have hid2 : j = p → L[j].id = g0.id := by
                intro h
                subst h
                rw [hge] at HG0
                have := HG0.out
                injection this with this
                rw [this]
              have HID := Lib.hid hid
              have HID2 := Lib.hid hid2
              clear hid hid2 hge
              generalize L[j] = x at hd0 hd1 hd2 HID HID2
              rcases x with ⟨xi, xf, xs⟩
              simp only at hd0 hd1 hd2 HID HID2
              have hjm' : (j : Int) < m := by omega
              rcases Nat.lt_trichotomy j p with h | h | h
              · have h1 := HID.out (by omega)
                rw [if_pos (by omega)]
                go_wp2
                go_roundw
                case rel => exact ⟨j + 1, by omega, by go_num, (by unfold Hid; rw [if_pos (by omega)]), hb.out.alloc hb.out.size _⟩
                case measure => simp [intOf]; omega
              · have h1 := HID2.out h
                subst h
                subst h1
                rw [if_pos (by omega)]
                go_wp2
                go_roundw
                case rel => exact ⟨j + 1, by omega, by go_num, (by unfold Hid; rw [if_neg (by omega)]), hb.out.alloc hb.out.size _⟩
                case measure => simp [intOf]; omega
              · have h1 := HID.out (by omega)
                rw [if_neg (by omega)]
                go_wp2
                go_roundw
                case rel => exact ⟨j + 1, by omega, by go_num, (by unfold Hid; rw [if_neg (by omega)]), hb.out.alloc hb.out.size _⟩
                case measure => simp [intOf]; omega
            · rw [if_neg (by omega)]
              obtain ⟨X, hX⟩ : ∃ X : World, X = wr := ⟨_, rfl⟩
              subst hX
              replace HQ3 := Lib.hid (HQ3.out.ext hb.out)
              replace HX3 := Lib.hid (HX3.out.ext hb.out)
              replace HO3 := Lib.hid (HO3.out.below hb.out)
              replace HL3 := Lib.hid (HL3.out.below hb.out)
              replace HM3 := Lib.hid (HM3.out.ext hb.out)
              replace HN3 := Lib.hid (HN3.out.ext hb.out)
              replace HT3 := Lib.hid (HT3.out.ext hb.out)
              replace HB3 := Lib.hid (below_step HB3.out hb.out)
              have hsX : V.heap.size ≤ X.heap.size := hb.out.size
              clear hb h19
              have hp0 : decide ((p : Int) < 0) = false := by simp
              obtain ⟨q0, q1, q2, qf⟩ := HQ3.out.c3
              go_wp2
              clear q0 q1 q2 qf
              go_loopw [105] (fun u105 wr => ∃ (i : Nat) (f' : Int → Wt), i ≤ m ∧ u105 = .int .i64 i ∧ Hid (WMap wr (s + 1) (N + i) f') ∧ Hid (∀ (i' : Nat) (x : Gst), L[i']? = some x → f' x.id = if i' < i then newW f p i' x else f x.id) ∧ Hid (BelX X.heap.size (s + 1) X wr)) (fun u105 _ => m - (intOf u105).toNat)
              case atStart => exact ⟨0, f, Nat.zero_le _, rfl, HM3.out, fun i' x _ => by rw [if_neg (by omega)], belX_of (Below.refl _ _) _⟩
              case round =>
                obtain ⟨i, f', hi, rfl, hm', hf', hbx⟩ := hrel
                by_cases him : i < m
                · as_aux_lemma =>
                  have hil : i < L.length := by rw [← HML.out]; exact him
                  have hLr := (HL3.out.belX hbx.out (Nat.le_refl _) (by omega)).rd
                  obtain ⟨b2, off2, rfl, hbs2, hd0, hd1, hd2⟩ := gst_at hLr (Below.refl _ _) hil
                  have hge : L[i]? = some L[i] := List.getElem?_eq_getElem hil
                  have HGE := Lib.hid hge
                  have hwf := HWG.out L[i] (List.getElem_mem hil)
                  obtain ⟨z1, z2, z3, z4⟩ := HF.out.wt i _ hge
                  obtain ⟨o1, o2⟩ := HF.out.ok HT.out hge
                  have hfx := hf'.out i _ hge
                  rw [if_neg (by omega)] at hfx
                  have hsk := qGo_sk HQG.out (Int.le_refl _) F1.1 L[i] (List.getElem_mem hil)
                  have hUS := fun v hv => upd_step HF.out (p := p) hge hf'.out v hv
                  have HUS := Lib.hid hUS
                  have hnw : newW f p i L[i] = ⟨(f L[i].id).before, (f L[i].id).calls + 1, (f L[i].id).passed + if i < p then 1 else 0⟩ := rfl
                  rw [hnw] at o1 o2
                  have HNW := Lib.hid hnw
                  have HFX := Lib.hid hfx
                  have HWF := Lib.hid hwf
                  clear hge hfx hUS hwf hLr hnw
                  generalize newW f p i L[i] = nw at HUS HNW
                  generalize f L[i].id = y at z1 z2 z3 z4 o1 o2 HFX HNW
                  generalize L[i] = x at hd0 hd1 hd2 HGE HWF HFX HUS hsk z1 z2
                  rcases x with ⟨xi, xf, xs⟩
                  rcases y with ⟨bb, cc, pp⟩
                  simp only at hd0 hd1 hd2 HGE HWF HFX HUS hsk z1 z2 z3 z4 o1 o2 HNW
                  have hb2w : b2 < wr.heap.size := hbs2
                  have himi : (i : Int) < m := by omega
                  have hcc1 : -30 ≤ cc := by omega
                  have hcc2 : cc ≤ 40 := by omega
                  have hpp1 : 0 ≤ pp := by omega
                  have hpp2 : pp ≤ 8 := by omega
                  have t1 : decide (bb + limit + 1 < cc + 1) = false := by simp; omega
                  have t4 : decide (bb + limit < cc) = false := by simp; omega
                  clear z1 z2
                  have hN' : N + i < maxLen := by unfold maxLen; omega
                  by_cases hip : i < p
                  · rw [if_pos hip] at o2 HNW
                    have t2 : decide (limit < pp + 1) = false := by simp; omega
                    have t3 : decide ((i : Int) < (p : Int)) = true := by simpa using hip
                    have t3' : decide (i < p) = true := by simpa using hip
                    go_wp2_with (first | (at_lookup; refine wpList_look_w _ rfl (.tmp 110) (.tmp 112) rfl (s + 1) (N + i) f' xi rfl rfl ?_ (hm'.out.alloc _) HWF.out; rw [HFX.out]; simp only [wtV]) | (at_mapUpdate; refine wpList_upd_w _ rfl (.tmp 139) (.tmp 141) (.tmp 142) rfl (s + 1) (N + i) f' xi ⟨bb, cc + 1, pp + 1⟩ rfl rfl rfl ?_ ((hm'.out.alloc _).alloc _) HWF.out hN'; intro w4 hm4 hg4; have HM4 := Lib.hid hm4; have HG4 := Lib.hid (belX_grown hg4); clear hm4 hg4))
                    go_roundw
                    case rel =>
                      refine ⟨i + 1, _, by omega, by go_num, HM4.out, HUS.out _ HNW.out.symm, ?_⟩
                      have hz := hbx.out.size
                      exact (hbx.out.trans (belX_of (((Below.refl _ _).alloc hz _).alloc (by simp only [World.size_alloc]; omega) _) _)).trans (HG4.out.mono (by simp only [World.size_alloc]; omega))
                    case measure => simp [intOf]; omega
                  · rw [if_neg hip] at o2 HNW
                    rw [Int.add_zero] at o2 HNW
                    have t2 : decide (limit < pp) = false := by simp; omega
                    have t3 : decide ((i : Int) < (p : Int)) = false := by simp; omega
                    have t3' : decide (i < p) = false := by simp; omega
                    go_wp2_with (first | (at_lookup; refine wpList_look_w _ rfl (.tmp 110) (.tmp 112) rfl (s + 1) (N + i) f' xi rfl rfl ?_ (hm'.out.alloc _) HWF.out; rw [HFX.out]; simp only [wtV]) | (at_mapUpdate; refine wpList_upd_w _ rfl (.tmp 139) (.tmp 141) (.tmp 142) rfl (s + 1) (N + i) f' xi ⟨bb, cc + 1, pp⟩ rfl rfl rfl ?_ ((hm'.out.alloc _).alloc _) HWF.out hN'; intro w4 hm4 hg4; have HM4 := Lib.hid hm4; have HG4 := Lib.hid (belX_grown hg4); clear hm4 hg4))
                    go_roundw
                    case rel =>
                      refine ⟨i + 1, _, by omega, by go_num, HM4.out, HUS.out _ HNW.out.symm, ?_⟩
                      have hz := hbx.out.size
                      exact (hbx.out.trans (belX_of (((Below.refl _ _).alloc hz _).alloc (by simp only [World.size_alloc]; omega) _) _)).trans (HG4.out.mono (by simp only [World.size_alloc]; omega))
                    case measure => simp [intOf]; omega
                · as_aux_lemma =>
                  have hpL : p < L.length := by rw [← HML.out]; exact hpl
                  have hLr := (HL3.out.belX hbx.out (Nat.le_refl _) (by omega)).rd
                  obtain ⟨b2, off2, rfl, hbs2, hd0, hd1, hd2⟩ := gst_at hLr (Below.refl _ _) hpL
                  have HG0P := Lib.hid HG0.out
                  rw [List.getElem?_eq_getElem hpL] at HG0
                  have hg0' := HG0.out
                  injection hg0' with hg0'
                  rw [hg0'] at hd0 hd1 hd2
                  have hFN := HF.out.call HT.out HG0P.out (f' := f') (fun i' x hx => by
                    have hlt := (List.getElem?_eq_some_iff.1 hx).1
                    rw [hf'.out i' x hx, if_pos (by rw [← HML.out] at hlt; omega)])
                  have HFN := Lib.hid hFN
                  have hlf : g0.fast = true → lf < g0.id := fun h => HF.out.fast g0 (by rw [← hg0']; exact List.getElem_mem hpL) h
                  have hls : g0.fast = false → ls < g0.id := fun h => HF.out.slow g0 (by rw [← hg0']; exact List.getElem_mem hpL) h
                  have HLF := Lib.hid hlf
                  have HLS := Lib.hid hls
                  clear hFN hlf hls hg0' hLr
                  have HQ4 := Lib.hid (hbx.out.box HQ3.out (by omega) (by omega))
                  have HX4 := Lib.hid (hbx.out.box HX3.out (by omega) (by omega))
                  have HN4 := Lib.hid (hbx.out.box HN3.out (by omega) (by omega))
                  have HT4 := Lib.hid (hbx.out.box HT3.out (by omega) (by omega))
                  have HO4 := Lib.hid (HO3.out.belX hbx.out (Nat.le_refl _) (by omega))
                  have HB4 := Lib.hid (HB3.out.trans (hbx.out.below (b := w.heap.size) (by omega) (by omega)))
                  have hsr := hbx.out.size
                  obtain ⟨q0, q1, q2, qf⟩ := HQ4.out.c3
                  obtain ⟨x0, x1, x2, xf⟩ := HX4.out.c3
                  obtain ⟨y0, yf⟩ := HN4.out.c1
                  obtain ⟨z0, zf⟩ := HT4.out.c1
                  have hpm : (p : Int) < m := by omega
                  have hsq4 : s < wr.heap.size := by omega
                  have hr34 : r3 < wr.heap.size := by omega
                  have hs24 : s + 2 < wr.heap.size := by omega
                  have hs34 : s + 3 < wr.heap.size := by omega
                  rcases g0 with ⟨gi, gf, gs⟩
                  simp only at hd0 hd1 hd2 HFN HLF HLS
                  cases gf
                  · have h1 : ls < gi := HLS.out rfl
                    have h2 : decide (gi ≤ ls) = false := by simpa using h1
                    simp only [Bool.false_eq_true, if_false] at HFN
                    go_wp2
                    go_roundw
                    case rel =>
                      refine ⟨k + 1, by omega, by go_num, next, _, _, lf, gi, N + i, HFN.out, ⟨A3, c3, ?_, ?_, ?_⟩, ?_, by omega, ?_, ?_, ?_, ?_⟩
                      · rw [HXL.out]
                        exact (((HQ4.out.far _ (by omega)).set (i := 0) _ (by simp)).set (i := 1) _ (by simp)).set (i := 2) _ (by simp)
                      · exact ((((HO4.out.far _ (by omega)).far _ (by omega)).far _ (by omega)).far _ (by omega))
                      · rw [HXL.out]; exact hc3
                      · exact (((hm'.out.set (by omega) _).set (by omega) _).set (by omega) _).set (by omega) _
                      · exact (((HN4.out.far _ (by omega)).far _ (by omega)).far _ (by omega)).far _ (by omega)
                      · exact (((HT4.out.set (i := 0) _ (by simp)).far _ (by omega)).far _ (by omega)).far _ (by omega)
                      · exact (((HB4.out.setCell (by simp; omega) _).setCell (by simp; omega) _).setCell (by simp; omega) _).setCell (by simp; omega) _
                      · simp; omega
                    case measure => simp [intOf]; omega
                  · have h1 : lf < gi := HLF.out rfl
                    have h2 : decide (gi ≤ lf) = false := by simpa using h1
                    simp only [if_true] at HFN
                    go_wp2
                    go_roundw
                    case rel =>
                      refine ⟨k + 1, by omega, by go_num, next, _, _, gi, ls, N + i, HFN.out, ⟨A3, c3, ?_, ?_, ?_⟩, ?_, by omega, ?_, ?_, ?_, ?_⟩
                      · rw [HXL.out]
                        exact (((HQ4.out.far _ (by omega)).set (i := 0) _ (by simp)).set (i := 1) _ (by simp)).set (i := 2) _ (by simp)
                      · exact ((((HO4.out.far _ (by omega)).far _ (by omega)).far _ (by omega)).far _ (by omega))
                      · rw [HXL.out]; exact hc3
                      · exact (((hm'.out.set (by omega) _).set (by omega) _).set (by omega) _).set (by omega) _
                      · exact (((HN4.out.set (i := 0) _ (by simp)).far _ (by omega)).far _ (by omega)).far _ (by omega)
                      · exact (((HT4.out.far _ (by omega)).far _ (by omega)).far _ (by omega)).far _ (by omega)
                      · exact (((HB4.out.setCell (by simp; omega) _).setCell (by simp; omega) _).setCell (by simp; omega) _).setCell (by simp; omega) _
                      · simp; omega
                    case measure => simp [intOf]; omega
    · as_aux_lemma =>
      go_wp2
      go_ret
      exact ⟨rfl, HB.out⟩
end Go.Proofs.Ytalmeokljamhdaa
