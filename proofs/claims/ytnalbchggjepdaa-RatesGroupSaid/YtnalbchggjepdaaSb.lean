/- The comparison of points; two parts of a row exchanged. No condition. -/
import Derived.Test.YtnalbchggjepdaaSa
namespace Go.Proofs.Ytnalbchggjepdaa
open Go.RowKit Go.Shelf
attribute [local go_sem] Oper.semAt_some

def cmpI (x y : Int) : Int := if x < y then -1 else if y < x then 1 else 0
def cf (p q : Pt) : Int := if cmpI p.acc q.acc = 0 then cmpI p.ref q.ref else cmpI p.acc q.acc
def ltP (p q : Pt) : Bool := decide (cf p q < 0)
theorem ltP_iff (p q : Pt) : ltP p q = true ↔ (p.acc < q.acc ∨ p.acc = q.acc ∧ p.ref < q.ref) := by
  unfold ltP cf cmpI
  rw [decide_eq_true_iff]
  by_cases h1 : p.acc < q.acc <;> by_cases h2 : q.acc < p.acc <;> by_cases h3 : p.ref < q.ref <;> by_cases h4 : q.ref < p.ref <;> simp [h1, h2, h3, h4] <;> omega
theorem swoP : Swo ltP where
  asym x y h := by
    have h := (ltP_iff _ _).1 h
    rw [Bool.eq_false_iff]
    intro k
    have k := (ltP_iff _ _).1 k
    omega
  co x y z h := by
    have h := (ltP_iff _ _).1 h
    rw [ltP_iff, ltP_iff]
    omega
theorem nan_any (x : Int) (w : World) : Calls Try.prog 85 #[.int .i64 x] w fun e w' => e = .returned (.bool false) ∧ w = w' := by
  go_enter Try.func85, Try.ntmps85
  go_wp2_with fail
  go_ret
  exact ⟨by simp, rfl⟩
set_option maxRecDepth 100000 in
theorem compare_any (x y : Int) (w : World) : Calls Try.prog 73 #[.int .i64 x, .int .i64 y] w fun e w' => e = .returned (.int .i64 (cmpI x y)) ∧ w = w' := by
  have K := Lib.hid (fun x W => nan_any x W)
  obtain ⟨v, hv⟩ : ∃ v, v = cmpI x y := ⟨_, rfl⟩
  rw [← hv]
  replace hv := Lib.hid hv
  by_cases h1 : x < y
  · have HV := Lib.hid (show v = -1 by rw [hv.out, cmpI, if_pos h1])
    go_enter Try.func73, Try.ntmps73
    go_wp2_with fail
    refine (K.out _ _).mono ?_
    rintro e w1 ⟨rfl, rfl⟩
    go_wp2_with fail
    refine (K.out _ _).mono ?_
    rintro e w1 ⟨rfl, rfl⟩
    go_wp2_with fail
    go_ret
    exact ⟨by rw [HV.out]; rfl, rfl⟩
  · by_cases h2 : y < x
    · have HV := Lib.hid (show v = 1 by rw [hv.out, cmpI, if_neg h1, if_pos h2])
      go_enter Try.func73, Try.ntmps73
      go_wp2_with fail
      refine (K.out _ _).mono ?_
      rintro e w1 ⟨rfl, rfl⟩
      go_wp2_with fail
      refine (K.out _ _).mono ?_
      rintro e w1 ⟨rfl, rfl⟩
      go_wp2_with fail
      go_ret
      exact ⟨by rw [HV.out]; rfl, rfl⟩
    · have HV := Lib.hid (show v = 0 by rw [hv.out, cmpI, if_neg h1, if_neg h2])
      go_enter Try.func73, Try.ntmps73
      go_wp2_with fail
      refine (K.out _ _).mono ?_
      rintro e w1 ⟨rfl, rfl⟩
      go_wp2_with fail
      refine (K.out _ _).mono ?_
      rintro e w1 ⟨rfl, rfl⟩
      go_wp2_with fail
      go_ret
      exact ⟨by rw [HV.out]; rfl, rfl⟩
set_option maxRecDepth 100000 in
theorem or_any (x y : Int) (A : Option Addr) (w : World) (hr : Rd w A [.int .i64 x, .int .i64 y]) : Calls Try.prog 72 #[.slice A 2 2] w fun e w' => e = .returned (.int .i64 (if x = 0 then y else x)) ∧ w = w' := by
  obtain ⟨v, hv⟩ : ∃ v, v = (if x = 0 then y else x) := ⟨_, rfl⟩
  rw [← hv]
  replace hv := Lib.hid hv
  obtain ⟨b, off, rfl, hb, hc⟩ := hr.at_ (j := 0) rfl
  have c0 : w.cell? ⟨b, off, none⟩ = some (.int .i64 x) := hc 0 _ rfl
  have c1 := hc 1 _ rfl
  clear hc hr
  go_enter Try.func72, Try.ntmps72
  go_wp2_with fail
  go_loopg [5, 8] 2 (fun q u5 u8 wr => ∃ i : Nat, i ≤ 2 ∧ u8 = .int .i64 (i : Nat) ∧ Hid (i + q = 2 ∧ wr = w ∧ (0 < i → x = 0) ∧ (1 < i → y = 0)))
  case atStart => exact ⟨0, by omega, rfl, by omega, rfl, by omega, by omega⟩
  case round =>
    obtain ⟨i, hi, rfl, hI⟩ := hrel
    have I1 := Lib.hid hI.out.1
    have hwr := hI.out.2.1
    have I3 := Lib.hid hI.out.2.2.1
    have I4 := Lib.hid hI.out.2.2.2
    clear hI
    subst hwr
    rcases (show i = 0 ∨ i = 1 ∨ i = 2 by omega) with hi0 | hi0 | hi0
    · subst hi0
      by_cases hx : x = 0
      · as_aux_lemma =>
        go_wp2_with fail
        go_roundg 1
        case measure => have := I1.out; omega
        case rel => exact ⟨1, by omega, rfl, by omega, rfl, fun _ => hx, by omega⟩
      · as_aux_lemma =>
        have HV := Lib.hid (show v = x by rw [hv.out, if_neg hx])
        go_wp2_with fail
        go_ret
        exact ⟨by rw [HV.out]; rfl, rfl⟩
    · subst hi0
      by_cases hx : y = 0
      · as_aux_lemma =>
        go_wp2_with fail
        go_roundg 0
        case measure => have := I1.out; omega
        case rel => exact ⟨2, by omega, rfl, by omega, rfl, fun _ => I3.out (by omega), fun _ => hx⟩
      · as_aux_lemma =>
        have HV := Lib.hid (show v = y by rw [hv.out, if_pos (I3.out (by omega))])
        go_wp2_with fail
        go_ret
        exact ⟨by rw [HV.out]; rfl, rfl⟩
    · subst hi0
      as_aux_lemma =>
      have HV := Lib.hid (show v = 0 by rw [hv.out, if_pos (I3.out (by omega)), I4.out (by omega)])
      go_wp2_with fail
      go_ret
      exact ⟨by rw [HV.out]; rfl, rfl⟩
set_option maxRecDepth 100000 in
set_option maxHeartbeats 4000000 in
theorem cmp_any (p q : Pt) (w : World) : Calls Try.prog 71 #[aggP p, aggP q] w fun e w' => e = .returned (.int .i64 (cf p q)) ∧ Below w.heap.size w w' := by
  unfold aggP
  go_enter Try.func71, Try.ntmps71
  go_upto_region 1 with fail
  have S := Lib.hid (((Own.start w).new' 68 #[.int .i64 p.a, .int .i64 p.b, .int .i64 p.acc, .int .i64 p.ref] (B := w.heap.size) rfl).new' 68 #[.int .i64 q.a, .int .i64 q.b, .int .i64 q.acc, .int .i64 q.ref] (B := w.heap.size + 1) (by simp))
  generalize ((w.alloc _).alloc _) = W at *
  obtain ⟨B1, hB1⟩ : ∃ B, B = w.heap.size := ⟨_, rfl⟩
  obtain ⟨B2, hB2⟩ : ∃ B, B = w.heap.size + 1 := ⟨_, rfl⟩
  rw [← hB2, ← hB1] at S ⊢
  replace hB1 := Lib.hid hB1
  replace hB2 := Lib.hid hB2
  refine wp_region_table 17 [(5, .is (.pointer (some ⟨B1, 2, none⟩))), (6, .is (.int .i64 (p.acc))), (7, .is (.pointer (some ⟨B2, 2, none⟩))), (8, .is (.int .i64 (q.acc))), (9, .is (.int .i64 (cmpI p.acc q.acc))), (10, .is (.pointer (some ⟨B1, 3, none⟩))), (11, .is (.int .i64 (p.ref))), (12, .is (.pointer (some ⟨B2, 3, none⟩))), (13, .is (.int .i64 (q.ref))), (14, .is (.int .i64 (cmpI p.ref q.ref))), (15, .rd (fun A _ => .slice A 2 2) [.int .i64 (cmpI p.acc q.acc), .int .i64 (cmpI p.ref q.ref)]), (16, .is (.int .i64 (cf p q))), (4, .is (.int .i64 (cf p q)))] (S.out) (by kernel_rfl) (by kernel_rfl) [5, 6, 7, 8, 9, 10, 11, 12, 13, 14, 15, 16, 4] (by kernel_rfl) rfl (by kernel_rfl) ?_ ?_
  · refine ⟨StepT.of [] (by kernel_rfl) ?_, ?_⟩
    · intro v hO
      exact StepG.val 5 (by kernel_rfl) (by go_simp) rfl (by simp) rfl (Below.refl _ _) rfl
    refine ⟨StepT.of [5] (by kernel_rfl) ?_, ?_⟩
    · intro v hO x5 h5
      obtain rfl : x5 = (.pointer (some ⟨B1, 2, none⟩)) := h5
      obtain ⟨t0, t1, t2, t3, _⟩ := (hO.bx 1 rfl).c4
      have tl := (hO.bx 1 rfl).2.2
      exact StepG.val 6 (by kernel_rfl) (by go_simp) rfl (by simp [Act.put]) rfl (Below.refl _ _) rfl
    refine ⟨StepT.of [] (by kernel_rfl) ?_, ?_⟩
    · intro v hO
      exact StepG.val 7 (by kernel_rfl) (by go_simp) rfl (by simp) rfl (Below.refl _ _) rfl
    refine ⟨StepT.of [7] (by kernel_rfl) ?_, ?_⟩
    · intro v hO x7 h7
      obtain rfl : x7 = (.pointer (some ⟨B2, 2, none⟩)) := h7
      obtain ⟨t0, t1, t2, t3, _⟩ := (hO.bx 0 rfl).c4
      have tl := (hO.bx 0 rfl).2.2
      exact StepG.val 8 (by kernel_rfl) (by go_simp) rfl (by simp [Act.put]) rfl (Below.refl _ _) rfl
    refine ⟨StepT.of [6, 8] (by kernel_rfl) ?_, ?_⟩
    · intro v hO x6 h6 x8 h8
      obtain rfl : x6 = (.int .i64 (p.acc)) := h6
      obtain rfl : x8 = (.int .i64 (q.acc)) := h8
      refine StepG.call 9 (by kernel_rfl) (by kernel_rfl) rfl (by simp [Act.put]) rfl ((compare_any p.acc q.acc v).mono ?_)
      rintro e w2 ⟨rfl, rfl⟩
      exact ⟨_, rfl, Below.refl _ _, rfl⟩
    refine ⟨StepT.of [] (by kernel_rfl) ?_, ?_⟩
    · intro v hO
      exact StepG.val 10 (by kernel_rfl) (by go_simp) rfl (by simp) rfl (Below.refl _ _) rfl
    refine ⟨StepT.of [10] (by kernel_rfl) ?_, ?_⟩
    · intro v hO x10 h10
      obtain rfl : x10 = (.pointer (some ⟨B1, 3, none⟩)) := h10
      obtain ⟨t0, t1, t2, t3, _⟩ := (hO.bx 1 rfl).c4
      have tl := (hO.bx 1 rfl).2.2
      exact StepG.val 11 (by kernel_rfl) (by go_simp) rfl (by simp [Act.put]) rfl (Below.refl _ _) rfl
    refine ⟨StepT.of [] (by kernel_rfl) ?_, ?_⟩
    · intro v hO
      exact StepG.val 12 (by kernel_rfl) (by go_simp) rfl (by simp) rfl (Below.refl _ _) rfl
    refine ⟨StepT.of [12] (by kernel_rfl) ?_, ?_⟩
    · intro v hO x12 h12
      obtain rfl : x12 = (.pointer (some ⟨B2, 3, none⟩)) := h12
      obtain ⟨t0, t1, t2, t3, _⟩ := (hO.bx 0 rfl).c4
      have tl := (hO.bx 0 rfl).2.2
      exact StepG.val 13 (by kernel_rfl) (by go_simp) rfl (by simp [Act.put]) rfl (Below.refl _ _) rfl
    refine ⟨StepT.of [11, 13] (by kernel_rfl) ?_, ?_⟩
    · intro v hO x11 h11 x13 h13
      obtain rfl : x11 = (.int .i64 (p.ref)) := h11
      obtain rfl : x13 = (.int .i64 (q.ref)) := h13
      refine StepG.call 14 (by kernel_rfl) (by kernel_rfl) rfl (by simp [Act.put]) rfl ((compare_any p.ref q.ref v).mono ?_)
      rintro e w2 ⟨rfl, rfl⟩
      exact ⟨_, rfl, Below.refl _ _, rfl⟩
    refine ⟨StepT.of [9, 14] (by kernel_rfl) ?_, ?_⟩
    · intro v hO x9 h9 x14 h14
      obtain rfl : x9 = (.int .i64 (cmpI p.acc q.acc)) := h9
      obtain rfl : x14 = (.int .i64 (cmpI p.ref q.ref)) := h14
      exact StepG.val 15 (v := .slice (some ⟨v.heap.size, 0, none⟩) 2 2) (w' := v.alloc (.cells #[.int .i64 (cmpI p.acc q.acc), .int .i64 (cmpI p.ref q.ref)] 3)) (by kernel_rfl) (by kernel_rfl) rfl (by simp [Act.put]) rfl (below_alloc _ _) ⟨_, 0, rfl, Rd.new _ _ _⟩
    refine ⟨StepT.of [15] (by kernel_rfl) ?_, ?_⟩
    · intro v hO x15 h15
      obtain ⟨A15, c15, rfl, r15⟩ := h15
      refine StepG.call 16 (by kernel_rfl) (by kernel_rfl) rfl (by simp [Act.put]) rfl ((or_any _ _ A15 v r15).mono ?_)
      rintro e w2 ⟨rfl, rfl⟩
      exact ⟨_, rfl, Below.refl _ _, rfl⟩
    refine ⟨StepT.of [16] (by kernel_rfl) ?_, ?_⟩
    · intro v hO x16 h16
      obtain rfl : x16 = (.int .i64 (cf p q)) := h16
      exact StepG.val 4 (by kernel_rfl) (by kernel_rfl) rfl (by simp [Act.put]) rfl (Below.refl _ _) rfl
    exact trivial
  · intro v hO x5 h5 x6 h6 x7 h7 x8 h8 x9 h9 x10 h10 x11 h11 x12 h12 x13 h13 x14 h14 x15 h15 x16 h16 x4 h4
    obtain rfl : x5 = (.pointer (some ⟨B1, 2, none⟩)) := h5
    obtain rfl : x6 = (.int .i64 (p.acc)) := h6
    obtain rfl : x7 = (.pointer (some ⟨B2, 2, none⟩)) := h7
    obtain rfl : x8 = (.int .i64 (q.acc)) := h8
    obtain rfl : x9 = (.int .i64 (cmpI p.acc q.acc)) := h9
    obtain rfl : x10 = (.pointer (some ⟨B1, 3, none⟩)) := h10
    obtain rfl : x11 = (.int .i64 (p.ref)) := h11
    obtain rfl : x12 = (.pointer (some ⟨B2, 3, none⟩)) := h12
    obtain rfl : x13 = (.int .i64 (q.ref)) := h13
    obtain rfl : x14 = (.int .i64 (cmpI p.ref q.ref)) := h14
    obtain ⟨A15, c15, rfl, r15⟩ := h15
    obtain rfl : x16 = (.int .i64 (cf p q)) := h16
    obtain rfl : x4 = (.int .i64 (cf p q)) := h4
    have S9 := Lib.hid hO
    simp only [stepFor, Act.put, List.setIfInBounds_toArray, List.set_cons_zero, List.set_cons_succ]
    clear hO S r15
    go_wp2_with fail
    go_ret
    exact ⟨rfl, S9.out.bel⟩
set_option maxRecDepth 100000 in
set_option maxHeartbeats 4000000 in
theorem rotate_any (w0 : World) (ps : List Piece) (g n c : Nat) (P X Y Q : List Pt) (W : World) (hO : Own w0 W (dat g n c (P ++ X ++ Y ++ Q) :: ps)) (a m b : Nat)
    (ha : P.length = a) (hm : P.length + X.length = m) (hb : P.length + X.length + Y.length = b) (hx : 0 < X.length) (hy : 0 < Y.length) (hn : (P ++ X ++ Y ++ Q).length = n) (hn2 : n ≤ 1000000) :
    Calls Try.prog 108 #[.slice (some ⟨g, 0, none⟩) n c, .int .i64 (a : Nat), .int .i64 (m : Nat), .int .i64 (b : Nat), .func (.func 71) #[] #[]] W fun e w' => e = .returned (.tuple #[]) ∧ Own w0 w' (dat g n c (P ++ Y ++ X ++ Q) :: ps) := by
  obtain ⟨R, hR⟩ : ∃ R, R = P ++ Y ++ X ++ Q := ⟨_, rfl⟩
  rw [← hR]
  obtain ⟨i0, hi0⟩ : ∃ i, i = X.length := ⟨_, rfl⟩
  obtain ⟨j0, hj0⟩ : ∃ j, j = Y.length := ⟨_, rfl⟩
  have bd : m = a + i0 ∧ b = m + j0 ∧ b ≤ n ∧ 0 < i0 ∧ 0 < j0 := by simp only [List.length_append] at hn; omega
  have z1 : IntKind.i64.wrap ((m : Int) - (a : Int)) = (i0 : Int) := by rw [show (m : Int) - (a : Int) = (i0 : Int) by omega]; exact IntWalk.i64_in _ (by omega)
  have z2 : IntKind.i64.wrap ((b : Int) - (m : Int)) = (j0 : Int) := by rw [show (b : Int) - (m : Int) = (j0 : Int) by omega]; exact IntWalk.i64_in _ (by omega)
  have ST := Lib.hid (show ∃ P' X' Y' Q', P' ++ X' ++ Y' ++ Q' = P ++ X ++ Y ++ Q ∧ P'.length + i0 = m ∧ X'.length = i0 ∧ Y'.length = j0 ∧ P' ++ Y' ++ X' ++ Q' = R ∧ Own w0 W (dat g n c (P' ++ X' ++ Y' ++ Q') :: ps) from ⟨P, X, Y, Q, rfl, by omega, hi0.symm, hj0.symm, hR.symm, hO⟩)
  have HN := Lib.hid hn
  have bm : m ≤ 1000000 ∧ 0 < i0 ∧ 0 < j0 ∧ i0 ≤ m ∧ m + j0 ≤ n := by omega
  clear hR hO ha hm hb hx hy hn hi0 hj0 bd
  go_enter Try.func108, Try.ntmps108
  go_wp2_with fail
  go_loopg [10, 11] (i0 + j0) (fun q u10 u11 wr => ∃ i j : Nat, (0 < i ∧ 0 < j ∧ i ≤ m ∧ m + j ≤ n) ∧ u10 = .int .i64 (i : Nat) ∧ u11 = .int .i64 (j : Nat) ∧ Hid (i + j ≤ q ∧ ∃ P' X' Y' Q', (P' ++ X' ++ Y' ++ Q').length = n ∧ P'.length + i = m ∧ X'.length = i ∧ Y'.length = j ∧ P' ++ Y' ++ X' ++ Q' = R ∧ Own w0 wr (dat g n c (P' ++ X' ++ Y' ++ Q') :: ps)))
  case atStart =>
    obtain ⟨P', X', Y', Q', h1, h2, h3, h4, h5, h6⟩ := ST.out
    exact ⟨i0, j0, by omega, rfl, rfl, Nat.le_refl _, P', X', Y', Q', by rw [h1]; exact HN.out, h2, h3, h4, h5, h6⟩
  case round =>
    obtain ⟨i, j, ⟨hi, hj, him, hjn⟩, rfl, rfl, hI⟩ := hrel
    have I1 := Lib.hid hI.out.1
    obtain ⟨P', X', Y', Q', h1, h2, h3, h4, h5, h6⟩ := hI.out.2
    obtain ⟨p', hp'⟩ : ∃ p, p = P'.length := ⟨_, rfl⟩
    have bp : p' + i = m := by omega
    have z3 : IntKind.i64.wrap ((m : Int) - (i : Int)) = (p' : Int) := by rw [show (m : Int) - (i : Int) = (p' : Int) by omega]; exact IntWalk.i64_in _ (by omega)
    clear ST hI z1 z2
    rcases Nat.lt_trichotomy i j with hij | hij | hij
    · as_aux_lemma =>
      have d1 : ¬ (i : Int) = (j : Int) := by omega
      have d2 : ¬ (j : Int) < (i : Int) := by omega
      have e4 : Y' = Y'.take (j - i) ++ Y'.drop (j - i) := (List.take_append_drop _ _).symm
      have l1 : (Y'.take (j - i)).length = j - i := by rw [List.length_take]; omega
      have l2 : (Y'.drop (j - i)).length = i := by rw [List.length_drop]; omega
      generalize Y'.take (j - i) = Y1 at *
      generalize Y'.drop (j - i) = Y2 at *
      subst e4
      obtain ⟨m2, hm2⟩ : ∃ k, k = m + j := ⟨_, rfl⟩
      obtain ⟨m3, hm3⟩ : ∃ k, k = m + j - i := ⟨_, rfl⟩
      obtain ⟨j2, hj2⟩ : ∃ k, k = j - i := ⟨_, rfl⟩
      have z4 : IntKind.i64.wrap ((m : Int) + (j : Int)) = (m2 : Int) := by rw [show (m : Int) + (j : Int) = (m2 : Int) by omega]; exact IntWalk.i64_in _ (by omega)
      have z5 : IntKind.i64.wrap ((m2 : Int) - (i : Int)) = (m3 : Int) := by rw [show (m2 : Int) - (i : Int) = (m3 : Int) by omega]; exact IntWalk.i64_in _ (by omega)
      have z6 : IntKind.i64.wrap ((j : Int) - (i : Int)) = (j2 : Int) := by rw [show (j : Int) - (i : Int) = (j2 : Int) by omega]; exact IntWalk.i64_in _ (by omega)
      have K := Lib.hid (swapRange_any w0 ps g n c P' X' Y1 Y2 Q' wr (by rw [← List.append_assoc] at h6; simpa using h6) p' m3 i hp'.symm (by omega) h3 l2 (by simpa using h1) hn2)
      have HR := Lib.hid (show P' ++ Y1 ++ Y2 ++ (X' ++ Q') = R by rw [← h5]; simp)
      have HL := Lib.hid (show P'.length + i = m ∧ Y2.length = i ∧ Y1.length = j2 ∧ (P' ++ Y2 ++ Y1 ++ (X' ++ Q')).length = n by
        refine ⟨h2, l2, by omega, ?_⟩
        rw [← h1]; simp; omega)
      have HJ := Lib.hid (show 0 < j2 ∧ m + j2 ≤ n ∧ i + j2 < i + j by omega)
      clear h1 h2 h3 h4 h5 h6 l1 l2 hp' bp hm2 hm3 hj2
      go_wp2_with fail
      refine K.out.mono ?_
      rintro e w5 ⟨rfl, hO5⟩
      replace hO5 := Lib.hid hO5
      go_wp2_with fail
      go_roundg (i + j2)
      case measure => have := I1.out; have := HJ.out; omega
      case rel => exact ⟨i, j2, by have := HJ.out; omega, rfl, rfl, Nat.le_refl _, P', Y2, Y1, X' ++ Q', HL.out.2.2.2, HL.out.1, HL.out.2.1, HL.out.2.2.1, HR.out, by simpa using hO5.out⟩
    · as_aux_lemma =>
      have K := Lib.hid (swapRange_any w0 ps g n c P' X' [] Y' Q' wr (by simpa using h6) p' m i hp'.symm (by simp; omega) h3 (by omega) (by simpa using h1) hn2)
      subst hij
      have HR := Lib.hid (show P' ++ Y' ++ [] ++ X' ++ Q' = R by rw [← h5]; simp)
      rw [HR.out] at K
      clear h1 h2 h3 h4 h5 h6 hp' bp
      go_wp2_with fail
      refine K.out.mono ?_
      rintro e w5 ⟨rfl, hO5⟩
      replace hO5 := Lib.hid hO5
      go_wp2_with fail
      go_end0
      exact ⟨rfl, hO5.out⟩
    · as_aux_lemma =>
      have d1 : ¬ (i : Int) = (j : Int) := by omega
      have d2 : (j : Int) < (i : Int) := by omega
      have e4 : X' = X'.take j ++ X'.drop j := (List.take_append_drop _ _).symm
      have l1 : (X'.take j).length = j := by rw [List.length_take]; omega
      have l2 : (X'.drop j).length = i - j := by rw [List.length_drop]; omega
      generalize X'.take j = X1 at *
      generalize X'.drop j = X2 at *
      subst e4
      obtain ⟨i2, hi2⟩ : ∃ k, k = i - j := ⟨_, rfl⟩
      have z6 : IntKind.i64.wrap ((i : Int) - (j : Int)) = (i2 : Int) := by rw [show (i : Int) - (j : Int) = (i2 : Int) by omega]; exact IntWalk.i64_in _ (by omega)
      have K := Lib.hid (swapRange_any w0 ps g n c P' X1 X2 Y' Q' wr (by simpa using h6) p' m j hp'.symm (by omega) l1 h4 (by simpa using h1) hn2)
      have HR := Lib.hid (show P' ++ Y' ++ X1 ++ X2 ++ Q' = R by rw [← h5]; simp)
      have HL := Lib.hid (show (P' ++ Y').length + i2 = m ∧ X2.length = i2 ∧ X1.length = j ∧ (P' ++ Y' ++ X2 ++ X1 ++ Q').length = n by
        refine ⟨by rw [List.length_append]; omega, by omega, l1, ?_⟩
        rw [← h1]; simp; omega)
      have HJ := Lib.hid (show 0 < i2 ∧ i2 ≤ m ∧ i2 + j < i + j by omega)
      clear h1 h2 h3 h4 h5 h6 l1 l2 hp' bp hi2
      go_wp2_with fail
      refine K.out.mono ?_
      rintro e w5 ⟨rfl, hO5⟩
      replace hO5 := Lib.hid hO5
      go_wp2_with fail
      go_roundg (i2 + j)
      case measure => have := I1.out; have := HJ.out; omega
      case rel => exact ⟨i2, j, by have := HJ.out; omega, rfl, rfl, Nat.le_refl _, P' ++ Y', X2, X1, Q', HL.out.2.2.2, HL.out.1, HL.out.2.1, HL.out.2.2.1, HR.out, hO5.out⟩
end Go.Proofs.Ytnalbchggjepdaa
