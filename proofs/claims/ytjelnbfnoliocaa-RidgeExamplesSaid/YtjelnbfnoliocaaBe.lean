/- Ridge: offsets of a sample, of the program and of the reference. No condition. -/
import Derived.Test.YtjelnbfnoliocaaBd
import Derived.BigRegion
import Derived.Deep.OwnRows
namespace Go.Proofs.Ytjelnbfnoliocaa
open Go.RowKit

def off1 (v d l : Int) : Int := 2 * v - d - l
/-- Two times each value less the sum of the device's values. -/
def offs : List Int → List Int → List Int → List Int
  | v :: vs, d :: ds, l :: ls => off1 v d l :: offs vs ds ls
  | _, _, _ => []
theorem offs_len : ∀ (p d l : List Int), d.length = p.length → l.length = p.length → (offs p d l).length = p.length := by
  intro p
  induction p with
  | nil => intro d l _ _; rfl
  | cons v p ih =>
    intro d l hd hl
    cases d with
    | nil => simp at hd
    | cons x d => cases l with
      | nil => simp at hl
      | cons y l => simp only [offs, List.length_cons]; rw [ih d l (by simpa using hd) (by simpa using hl)]
theorem offs_get : ∀ (p d l : List Int) (k : Nat) (hp : k < p.length) (hd : k < d.length) (hl : k < l.length), (offs p d l)[k]? = some (off1 p[k] d[k] l[k]) := by
  intro p
  induction p with
  | nil => intro d l k hp; simp at hp
  | cons v p ih =>
    intro d l k hp hd hl
    cases d with
    | nil => simp at hd
    | cons x d => cases l with
      | nil => simp at hl
      | cons y l =>
        cases k with
        | zero => simp [offs]
        | succ k =>
          simp only [offs, List.getElem?_cons_succ, List.getElem_cons_succ]
          exact ih d l k (by simpa using hp) (by simpa using hd) (by simpa using hl)
theorem device_len {W H : Int} {d l : List Int} (h : deviceB W H d l = true) : d.length = l.length ∧ (d.length : Int) = W * H ∧ d.length ≤ 400 := by
  simp only [deviceB, Bool.and_eq_true] at h
  obtain ⟨h1, h2⟩ := sized2_eq h.1
  have := h.1
  simp only [sized2B, Bool.and_eq_true, decide_eq_true_eq] at this
  exact ⟨h1, this.2.1, h2⟩
theorem seen_len {W H W' H' : Int} {np : Nat} {d l : List Int} (h : seenF W H np W' H' d l = 0) : d.length = np ∧ l.length = np ∧ np ≤ 400 ∧ 1 ≤ np ∧ sized1B W H np = true ∧ deviceB W' H' d l = true ∧ W' = W ∧ H' = H := by
  unfold seenF at h
  split at h
  · rename_i h1
    split at h
    · rename_i h2
      simp only [Bool.and_eq_true, decide_eq_true_eq] at h2
      obtain ⟨g1, g2, g3⟩ := h2
      obtain ⟨d1, d2, d3⟩ := device_len g1
      have h1' := h1
      simp only [sized1B, Bool.and_eq_true, decide_eq_true_eq] at h1
      subst g2; subst g3
      obtain ⟨hW, hH⟩ := sides_bd h1.1
      have : 1 * 1 ≤ W' * H' := Int.mul_le_mul hW.1 hH.1 (by omega) (by omega)
      exact ⟨by omega, by omega, by omega, by omega, h1', g1, rfl, rfl⟩
    · cases h
  · cases h
set_option maxRecDepth 100000 in
set_option maxHeartbeats 1000000 in
theorem off_any (W H W' H' I : Int) (P A A' : Option Addr) (pix dark light : List Int) (np cp n c n' c' i : Nat) (w : World) (hI : I = i) (hp : Rd w P (u8s pix)) (hr : Rd w A (u8s dark)) (hr' : Rd w A' (u8s light))
    (i0 : i < pix.length) (i1 : i < dark.length) (i2 : i < light.length) (j0 : i < np) (j1 : i < n) (j2 : i < n') (u0 : U8 pix) (u1 : U8 dark) (u2 : U8 light) :
    Calls Try.prog 57 #[.agg #[.int .i64 W, .int .i64 H, .slice P np cp], .agg #[.int .i64 W', .int .i64 H', .slice A n c, .slice A' n' c'], .int .i64 I] w fun e w' => e = .returned (.int .i64 (off1 pix[i] dark[i] light[i])) ∧ Below w.heap.size w w' := by
  subst hI
  have hb0 : Below w.heap.size w ((w.alloc (.cells #[.int .i64 W, .int .i64 H, .slice P np cp] 24)).alloc (.cells #[.int .i64 W', .int .i64 H', .slice A n c, .slice A' n' c'] 26)) := below_more (below_alloc _ _) _
  obtain ⟨b, o, rfl, hbs, hc⟩ := (hp.below hb0).at_ (u8s_get i0)
  obtain ⟨b1, o1, rfl, hbs1, hc1⟩ := (hr.below hb0).at_ (u8s_get i1)
  obtain ⟨b2, o2, rfl, hbs2, hc2⟩ := (hr'.below hb0).at_ (u8s_get i2)
  have k0 := hc i _ (u8s_get i0)
  have k1 := hc1 i _ (u8s_get i1)
  have k2 := hc2 i _ (u8s_get i2)
  have v0 := u0.at_ i0
  have v1 := u1.at_ i1
  have v2 := u2.at_ i2
  clear hp hr hr' hc hc1 hc2 hbs hbs1 hbs2
  have q1 : (i : Int) < (np : Int) := by omega
  have q2 : (i : Int) < (n : Int) := by omega
  have q3 : (i : Int) < (n' : Int) := by omega
  have q4 : (0 : Int) ≤ (i : Int) := by omega
  generalize pix[i] = x at *
  generalize dark[i] = y at *
  generalize light[i] = z at *
  go_enter Try.func57, Try.ntmps57
  go_wp2_with fail
  go_quiet (fail)
  go_wp2_with fail
  go_ret
  exact ⟨rfl, below_drewN hb0 _⟩

/-- A block known whole: made with n zeros. -/
theorem underlying85 : Try.prog.underlying 85 = some (.slice 3) := Try.underlying85
theorem info3 : (Try.prog.info? 3).map (fun i => (i.zero, i.size, i.bytes)) = some (some (.int .i64 0), 1, 8) := by kernel_rfl
theorem box_made (w : World) (z : Value) (n : Nat) (t : TypeId) : Box (w.alloc (.cells (madeCells #[z] n) t)) w.heap.size (List.replicate n z) := by
  have h := Box.new w t (madeCells #[z] n)
  rwa [toList_madeCells_one] at h
def OffPost (l : List Int) (e0 : Int) (w : World) (e : Ending) (w' : World) : Prop :=
  ∃ A, e = .returned (.tuple #[.slice A l.length l.length, .int .i64 e0]) ∧ Rd w' A (ints l) ∧ Below w.heap.size w w'
theorem zeros_at {xs : List Value} {k n : Nat} (hx : xs.length = k) (hk : k < n) (z : Value) : (xs ++ List.replicate (n - k) z)[k]? = some z := by
  rw [List.getElem?_append_right (by omega), hx, Nat.sub_self, List.getElem?_replicate, if_pos (by omega)]
theorem offs_step {p d l : List Int} {k : Nat} {n : Nat} (hp : k < p.length) (hd : k < d.length) (hl : k < l.length) (hlo : (offs p d l).length = p.length) (hn : n = p.length) :
    (ints ((offs p d l).take k) ++ List.replicate (n - k) (Value.int .i64 0)).set k (.int .i64 (off1 p[k] d[k] l[k])) = ints ((offs p d l).take (k + 1)) ++ List.replicate (n - (k + 1)) (Value.int .i64 0) := by
  have hlen : (ints ((offs p d l).take k)).length = k := by simp [ints, hlo]; omega
  obtain ⟨m, hm⟩ : ∃ m, n - k = m + 1 := ⟨n - k - 1, by omega⟩
  rw [List.set_append_right _ _ (by omega), hlen, Nat.sub_self, hm, List.replicate_succ, List.set_cons_zero, show n - (k + 1) = m from by omega]
  rw [List.take_add_one, offs_get p d l k hp hd hl]
  simp [ints]
set_option maxRecDepth 100000 in
set_option maxHeartbeats 800000 in
theorem offsets_any (W H W' H' : Int) (P A A' : Option Addr) (pix dark light : List Int) (np cp n c n' c' : Nat) (w : World) (hp : Rd w P (u8s pix)) (hr : Rd w A (u8s dark)) (hr' : Rd w A' (u8s light))
    (hnp : np = pix.length) (hn : n = dark.length) (hn' : n' = light.length) (u0 : U8 pix) (u1 : U8 dark) (u2 : U8 light) (s0 : Int) (hs : seenF W H np W' H' dark light = s0) :
    Calls Try.prog 56 #[.agg #[.int .i64 W, .int .i64 H, .slice P np cp], .agg #[.int .i64 W', .int .i64 H', .slice A n c, .slice A' n' c']] w (OffPost (if s0 = 0 then offs pix dark light else []) s0 w) := by
  have hb0 : Below w.heap.size w ((w.alloc (.cells #[.int .i64 W, .int .i64 H, .slice P np cp] 24)).alloc (.cells #[.int .i64 W', .int .i64 H', .slice A n c, .slice A' n' c'] 26)) := below_more (below_alloc _ _) _
  have B1 := Lib.hid ((Box.new w 24 #[.int .i64 W, .int .i64 H, .slice P np cp]).alloc (.cells #[.int .i64 W', .int .i64 H', .slice A n c, .slice A' n' c'] 26))
  have B2 := Lib.hid (Box.new (w.alloc (.cells #[.int .i64 W, .int .i64 H, .slice P np cp] 24)) 26 #[.int .i64 W', .int .i64 H', .slice A n c, .slice A' n' c'])
  have HB0 := Lib.hid hb0
  have HD := Lib.hid (fun W1 (hb : Below w.heap.size w W1) => checkDevice_any W' H' A A' dark light n c n' c' W1 (hr.below hb) hn (hr'.below hb) hn')
  have HNP := Lib.hid hnp
  have HN := Lib.hid hn
  have HN' := Lib.hid hn'
  have HP := Lib.hid hp
  have HR := Lib.hid hr
  have HR' := Lib.hid hr'
  clear hnp hn hn' hp hr hr' hb0
  by_cases h1 : sized1B W H np = true
  case neg =>
    have h1' : sized1B W H np = false := by simpa using h1
    obtain rfl : s0 = 10 := by rw [← hs]; simp [seenF, h1']
    have H1 := Lib.hid (show errS (sized1B W H np) 10 = 10 by rw [h1']; rfl)
    clear h1 h1' hs HD
    rw [if_neg (by omega)]
    go_enter Try.func56, Try.ntmps56
    go_wp2_with fail
    refine (checkSample_any W H P np cp _).mono ?_
    rintro e w1 ⟨rfl, hb1⟩
    rw [H1.out]
    go_wp2_with fail
    go_ret2
    exact ⟨none, rfl, .inl rfl, below_step HB0.out hb1⟩
  have H1 := Lib.hid (show errS (sized1B W H np) 10 = 0 by rw [h1]; rfl)
  by_cases h2 : deviceB W' H' dark light = true
  case neg =>
    have h2' : deviceB W' H' dark light = false := by simpa using h2
    obtain rfl : s0 = 11 := by rw [← hs]; simp [seenF, h1, h2']
    have H2 := Lib.hid (show errS (deviceB W' H' dark light) 11 = 11 by rw [h2']; rfl)
    clear h1 h2 h2' hs
    rw [if_neg (by omega)]
    go_enter Try.func56, Try.ntmps56
    go_wp2_with fail
    refine (checkSample_any W H P np cp _).mono ?_
    rintro e w1 ⟨rfl, hb1⟩
    rw [H1.out]
    obtain ⟨c0, c1, c2, c3, _⟩ := (B2.out.ext hb1).c4
    simp only [World.size_alloc] at c0 c1 c2 c3
    go_wp2_with fail
    refine (HD.out _ (below_step HB0.out hb1)).mono ?_
    rintro e w2 ⟨rfl, hb2⟩
    rw [H2.out]
    clear c0 c1 c2 c3
    obtain ⟨c0, c1, c2, c3, _⟩ := ((B2.out.ext hb1).ext hb2).c4
    obtain ⟨a0, a1, a2, _⟩ := ((B1.out.ext hb1).ext hb2).c3
    simp only [World.size_alloc] at c0 c1 c2 c3
    go_wp2_with fail
    go_ret2
    exact ⟨none, rfl, .inl rfl, below_step (below_step HB0.out hb1) hb2⟩
  have H2 := Lib.hid (show errS (deviceB W' H' dark light) 11 = 0 by rw [h2]; rfl)
  by_cases hw : W' = W
  case neg =>
    obtain rfl : s0 = 11 := by rw [← hs]; simp [seenF, h1, h2, hw]
    have g1 : (W' != W) = true := by simpa using hw
    clear h1 h2 hs hw
    rw [if_neg (by omega)]
    go_enter Try.func56, Try.ntmps56
    go_wp2_with fail
    refine (checkSample_any W H P np cp _).mono ?_
    rintro e w1 ⟨rfl, hb1⟩
    rw [H1.out]
    obtain ⟨c0, c1, c2, c3, _⟩ := (B2.out.ext hb1).c4
    simp only [World.size_alloc] at c0 c1 c2 c3
    go_wp2_with fail
    refine (HD.out _ (below_step HB0.out hb1)).mono ?_
    rintro e w2 ⟨rfl, hb2⟩
    rw [H2.out]
    clear c0 c1 c2 c3
    obtain ⟨c0, c1, c2, c3, _⟩ := ((B2.out.ext hb1).ext hb2).c4
    obtain ⟨a0, a1, a2, _⟩ := ((B1.out.ext hb1).ext hb2).c3
    simp only [World.size_alloc] at c0 c1 c2 c3
    go_wp2_with fail
    go_ret2
    exact ⟨none, rfl, .inl rfl, below_step (below_step HB0.out hb1) hb2⟩
  have g1 : (W' != W) = false := by simpa using hw
  by_cases hh : H' = H
  case neg =>
    obtain rfl : s0 = 11 := by rw [← hs]; simp [seenF, h1, h2, hh]
    have g2 : (H' != H) = true := by simpa using hh
    clear h1 h2 hs hw hh
    rw [if_neg (by omega)]
    go_enter Try.func56, Try.ntmps56
    go_wp2_with fail
    refine (checkSample_any W H P np cp _).mono ?_
    rintro e w1 ⟨rfl, hb1⟩
    rw [H1.out]
    obtain ⟨c0, c1, c2, c3, _⟩ := (B2.out.ext hb1).c4
    simp only [World.size_alloc] at c0 c1 c2 c3
    go_wp2_with fail
    refine (HD.out _ (below_step HB0.out hb1)).mono ?_
    rintro e w2 ⟨rfl, hb2⟩
    rw [H2.out]
    clear c0 c1 c2 c3
    obtain ⟨c0, c1, c2, c3, _⟩ := ((B2.out.ext hb1).ext hb2).c4
    obtain ⟨a0, a1, a2, _⟩ := ((B1.out.ext hb1).ext hb2).c3
    simp only [World.size_alloc] at c0 c1 c2 c3
    go_wp2_with fail
    go_ret2
    exact ⟨none, rfl, .inl rfl, below_step (below_step HB0.out hb1) hb2⟩
  · have hw := hw.symm
    have hh := hh.symm
    subst hw
    subst hh
    clear g1
    obtain rfl : s0 = 0 := by rw [← hs, seenF, h1, h2, if_pos rfl]; simp
    obtain ⟨ln, ln', hle, _⟩ := seen_len hs
    have LN : dark.length = pix.length := by rw [ln, HNP.out]
    have LN' : light.length = pix.length := by rw [ln', HNP.out]
    have HNN := Lib.hid (show n = np by rw [HN.out, ln])
    have HNN' := Lib.hid (show n' = np by rw [HN'.out, ln'])
    have HLO := Lib.hid (offs_len pix dark light LN LN')
    have HLN := Lib.hid LN
    have HLN' := Lib.hid LN'
    clear h1 h2 hs ln ln' LN LN'
    rw [if_pos rfl]
    have hmk := fun W => run_make_row' (P := Try.prog) 85 3 (.int .i64 0) 8 Try.underlying85 info3 rfl .i64 .i64 np (by omega) (by omega) W
    go_enter Try.func56, Try.ntmps56
    go_wp2_with fail
    refine (checkSample_any W H P np cp _).mono ?_
    rintro e w1 ⟨rfl, hb1⟩
    rw [H1.out]
    obtain ⟨c0, c1, c2, c3, _⟩ := (B2.out.ext hb1).c4
    simp only [World.size_alloc] at c0 c1 c2 c3
    go_wp2_with fail
    refine (HD.out _ (below_step HB0.out hb1)).mono ?_
    rintro e w2 ⟨rfl, hb2⟩
    rw [H2.out]
    clear c0 c1 c2 c3
    obtain ⟨c0, c1, c2, c3, _⟩ := ((B2.out.ext hb1).ext hb2).c4
    obtain ⟨a0, a1, a2, _⟩ := ((B1.out.ext hb1).ext hb2).c3
    simp only [World.size_alloc] at c0 c1 c2 c3
    have hall := Lib.hid (below_step (below_step HB0.out hb1) hb2)
    have B2' := Lib.hid ((B2.out.ext hb1).ext hb2)
    have hs2 : w.heap.size + 1 < w2.heap.size := by have := hb1.size; have := hb2.size; simp at *; omega
    have hs1 : w.heap.size < w2.heap.size := by omega
    clear hb1 hb2
    go_wp2_with fail
    clear hmk c0 c1 c2 c3 a0 a1 a2
    have hx := Lib.hid (box_made w2 (.int .i64 0) np 3)
    have hbx := Lib.hid (hall.out.alloc hall.out.size (.cells (madeCells #[.int .i64 0] np) 3))
    obtain ⟨D0, D1, D2, D3, DF⟩ := (B2'.out.alloc (.cells (madeCells #[.int .i64 0] np) 3)).c4
    simp only [World.size_alloc] at D0 D1 D2 D3 DF
    have HRP := Lib.hid (HP.out.below hbx.out)
    have HRA := Lib.hid (HR.out.below hbx.out)
    have HRB := Lib.hid (HR'.out.below hbx.out)
    generalize w2.alloc (.cells (madeCells #[.int .i64 0] np) 3) = W2 at *
    go_loopw [8, 9, 39] (fun _ _ u39 wr => ∃ k : Nat, k ≤ np ∧ u39 = .int .i64 k ∧ Hid (Box wr w2.heap.size (ints ((offs pix dark light).take k) ++ List.replicate (np - k) (Value.int .i64 0))) ∧ Below w2.heap.size W2 wr) (fun _ _ u39 _ => np - (intOf u39).toNat)
    case atStart => exact ⟨0, Nat.zero_le _, rfl, by show Box _ _ _; simpa [ints] using hx.out, Below.refl _ _⟩
    case round =>
      obtain ⟨k, hk, rfl, hq, hb⟩ := hrel
      have hall2 := Lib.hid (hbx.out.trans (hb.mono (by omega)))
      by_cases hlt : k < np
      · have h0 : k < pix.length := by rw [← HNP.out]; exact hlt
        have h1 : k < dark.length := by rw [HLN.out]; exact h0
        have h2 : k < light.length := by rw [HLN'.out]; exact h0
        have j1 : k < n := by rw [HNN.out]; exact hlt
        have j2 : k < n' := by rw [HNN'.out]; exact hlt
        obtain ⟨b, o, rfl, hbs, hc⟩ := (HP.out.below hall2.out).at_ (u8s_get h0)
        obtain ⟨b1, o1, rfl, hbs1, hc1⟩ := (HR.out.below hall2.out).at_ (u8s_get h1)
        obtain ⟨b2, o2, rfl, hbs2, hc2⟩ := (HR'.out.below hall2.out).at_ (u8s_get h2)
        have k0 := hc k _ (u8s_get h0)
        have k1 := hc1 k _ (u8s_get h1)
        have k2 := hc2 k _ (u8s_get h2)
        have v0 := u0.at_ h0
        have v1 := u1.at_ h1
        have v2 := u2.at_ h2
        clear hc hc1 hc2 hbs hbs1 hbs2
        have g0 := (hb.cell (p := ⟨w.heap.size + 1, 2, none⟩) hs2).trans D2
        have g1 := (hb.cell (p := ⟨w.heap.size + 1, 3, none⟩) hs2).trans D3
        have hlen : (ints ((offs pix dark light).take k)).length = k := by simp [ints, HLO.out, ← HNP.out]; omega
        have g2 := hq.out.1 k (.int .i64 0) (zeros_at hlen hlt _)
        clear hlen
        have g3 := hq.out.2.1
        have hst := Lib.hid (hq.out.set (.int .i64 (off1 pix[k] dark[k] light[k])) (show k < (ints ((offs pix dark light).take k) ++ List.replicate (np - k) (Value.int .i64 0)).length by simp [ints, HLO.out, ← HNP.out]; omega))
        have hst2 := hst.out
        rw [offs_step h0 h1 h2 HLO.out HNP.out] at hst2
        have HST := Lib.hid hst2
        clear hst hst2
        have q1 : (k : Int) < (np : Int) := by omega
        have q2 : (k : Int) < (n : Int) := by omega
        have q3 : (k : Int) < (n' : Int) := by omega
        have q4 : (0 : Int) ≤ (k : Int) := by omega
        have HOF := Lib.hid (show off1 pix[k] dark[k] light[k] = 2 * pix[k] - dark[k] - light[k] from rfl)
        generalize off1 pix[k] dark[k] light[k] = z at *
        generalize pix[k] = x0 at *
        generalize dark[k] = x1 at *
        generalize light[k] = x2 at *
        go_wp2_with fail
        go_region
        go_wp2_with fail
        go_roundw
        case rel => exact ⟨k + 1, by omega, by go_num, by rw [← HOF.out]; exact HST.out, (hb.drew).setCell (Nat.le_refl _) _⟩
        case measure => simp [intOf]; omega
      · obtain rfl : k = np := by omega
        go_wp2_with fail
        go_ret2
        refine ⟨some ⟨w2.heap.size, 0, none⟩, ?_, .inr ⟨_, _, rfl, hq.out.2.2, fun j u hu => ?_⟩, hall2.out⟩
        · rw [HLO.out, ← HNP.out]; rfl
        · rw [Nat.zero_add]
          refine hq.out.1 j u ?_
          rw [List.take_of_length_le (by rw [HLO.out, ← HNP.out]; exact Nat.le_refl _), List.getElem?_append_left (List.getElem?_eq_some_iff.1 hu).1]
          exact hu

end Go.Proofs.Ytjelnbfnoliocaa
