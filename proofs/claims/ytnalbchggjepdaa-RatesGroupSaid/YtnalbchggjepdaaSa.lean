/- Points in a row: their cells, the exchange of two, of two parts. No condition. -/
import Derived.Test.YtnalbchggjepdaaRows
import Derived.Test.YtnalbchggjepdaaSt
import Derived.Test.YtnalbchggjepdaaSs
import Derived.BigQuiet
import Derived.Deep.RegionHeld3
import Derived.Lib.Hide
import Derived.IntWalk
namespace Go.Proofs.Ytnalbchggjepdaa
open Go.RowKit Go.Shelf
attribute [local go_sem] Oper.semAt_some

structure Pt where
  a : Int
  b : Int
  acc : Int
  ref : Int
def encP (p : Pt) : List Value := [.int .i64 p.a, .int .i64 p.b, .int .i64 p.acc, .int .i64 p.ref]
def aggP (p : Pt) : Value := .agg #[.int .i64 p.a, .int .i64 p.b, .int .i64 p.acc, .int .i64 p.ref]
theorem encP_len (p : Pt) : (encP p).length = 4 := rfl
theorem flatP_set : ∀ (l : List Pt) (k : Nat) (p : Pt), k < l.length →
    ((((flat encP l).set (k * 4) (.int .i64 p.a)).set (k * 4 + 1) (.int .i64 p.b)).set (k * 4 + 2) (.int .i64 p.acc)).set (k * 4 + 3) (.int .i64 p.ref) = flat encP (l.set k p)
  | [], _, _, h => by simp at h
  | x :: l, 0, p, _ => by rw [flat_cons, List.set_cons_zero, flat_cons]; rfl
  | x :: l, k + 1, p, h => by
    rw [flat_cons, List.set_cons_succ, flat_cons, ← flatP_set l k p (by simpa using h)]
    rw [show (k + 1) * 4 = k * 4 + 1 + 1 + 1 + 1 by omega, show k * 4 + 1 + 1 + 1 + 1 + 1 = k * 4 + 1 + 1 + 1 + 1 + 1 from rfl,
      show k * 4 + 1 + 1 + 1 + 1 + 2 = k * 4 + 2 + 1 + 1 + 1 + 1 by omega, show k * 4 + 1 + 1 + 1 + 1 + 3 = k * 4 + 3 + 1 + 1 + 1 + 1 by omega]
    rfl
/-- The data of a sort: a row of points of the call's own. -/
def dat (g n c : Nat) (l : List Pt) : Piece := row 68 4 (.slice (some ⟨g, 0, none⟩) n c) n (flat encP l)
theorem Own.setPt {w0 w : World} {ps : List Piece} {g n c : Nat} {l : List Pt} (h : Own w0 w (dat g n c l :: ps)) (k : Nat) (hk : k < l.length) (p : Pt) :
    Own w0 ((((w.setCell ⟨g, k * 4, none⟩ (.int .i64 p.a)).setCell ⟨g, k * 4 + 1, none⟩ (.int .i64 p.b)).setCell ⟨g, k * 4 + 2, none⟩ (.int .i64 p.acc)).setCell ⟨g, k * 4 + 3, none⟩ (.int .i64 p.ref)) (dat g n c (l.set k p) :: ps) := by
  have h1 := h.setRow 0 rfl (k * 4) (.int .i64 p.a)
  have h2 := h1.setRow 0 rfl (k * 4 + 1) (.int .i64 p.b)
  have h3 := h2.setRow 0 rfl (k * 4 + 2) (.int .i64 p.acc)
  have h4 := h3.setRow 0 rfl (k * 4 + 3) (.int .i64 p.ref)
  refine h4.cast ?_
  show (row 68 4 _ n _ :: ps) = _
  rw [flatP_set l k p hk]
  rfl
theorem Own.ptAt {w0 w : World} {ps : List Piece} {g n c : Nat} {l : List Pt} (h : Own w0 w (dat g n c l :: ps)) {k : Nat} {p : Pt} (hk : l[k]? = some p) :
    w.cell? ⟨g, k * 4, none⟩ = some (.int .i64 p.a) ∧ w.cell? ⟨g, k * 4 + 1, none⟩ = some (.int .i64 p.b) ∧ w.cell? ⟨g, k * 4 + 2, none⟩ = some (.int .i64 p.acc) ∧ w.cell? ⟨g, k * 4 + 3, none⟩ = some (.int .i64 p.ref) := by
  have F := fun j (hj : j < 4) => flat_get encP 4 encP_len l k p j hk hj
  exact ⟨h.rowAt 0 rfl (by rw [← Nat.add_zero (k * 4), F 0 (by omega)]; rfl), h.rowAt 0 rfl (by rw [F 1 (by omega)]; rfl), h.rowAt 0 rfl (by rw [F 2 (by omega)]; rfl), h.rowAt 0 rfl (by rw [F 3 (by omega)]; rfl)⟩
theorem two_set {α : Type} (A : List α) (x : α) (B : List α) (y : α) (D : List α) : ((A ++ x :: (B ++ y :: D)).set A.length y).set (A.length + 1 + B.length) x = A ++ y :: (B ++ x :: D) := by
  rw [List.set_append_right _ _ (Nat.le_refl _), Nat.sub_self, List.set_cons_zero, List.set_append_right _ _ (by omega), show A.length + 1 + B.length - A.length = B.length + 1 by omega, List.set_cons_succ, List.set_append_right _ _ (Nat.le_refl _), Nat.sub_self, List.set_cons_zero]
set_option maxRecDepth 100000 in
set_option maxHeartbeats 4000000 in
theorem swapRange_any (w0 : World) (ps : List Piece) (g n c : Nat) (P X M Y Q : List Pt) (W : World) (hO : Own w0 W (dat g n c (P ++ X ++ M ++ Y ++ Q) :: ps)) (a b m : Nat)
    (ha : P.length = a) (hb : P.length + X.length + M.length = b) (hm : X.length = m) (hy : Y.length = m) (hn : (P ++ X ++ M ++ Y ++ Q).length = n) (hn2 : n ≤ 1000000) :
    Calls Try.prog 114 #[.slice (some ⟨g, 0, none⟩) n c, .int .i64 (a : Nat), .int .i64 (b : Nat), .int .i64 (m : Nat), .func (.func 71) #[] #[]] W fun e w' => e = .returned (.tuple #[]) ∧ Own w0 w' (dat g n c (P ++ Y ++ M ++ X ++ Q) :: ps) := by
  have HA := Lib.hid ha
  have HB := Lib.hid hb
  have HM := Lib.hid hm
  have HY := Lib.hid hy
  have HN := Lib.hid hn
  have S0 := Lib.hid hO
  have bd : a + m ≤ b ∧ b + m ≤ n := by simp only [List.length_append] at hn; omega
  obtain ⟨R, hR⟩ : ∃ R, R = P ++ Y ++ M ++ X ++ Q := ⟨_, rfl⟩
  rw [← hR]
  replace hR := Lib.hid hR
  clear ha hb hm hy hn hO
  go_enter Try.func114, Try.ntmps114
  go_wp2_with fail
  go_loopg [10] m (fun q u10 wr => ∃ i : Nat, i ≤ m ∧ u10 = .int .i64 (i : Nat) ∧ Hid (∃ X1 X2 Y1 Y2, X = X1 ++ X2 ∧ Y = Y1 ++ Y2 ∧ X1.length = i ∧ Y1.length = i ∧ i + q = m ∧ Own w0 wr (dat g n c (P ++ Y1 ++ X2 ++ M ++ X1 ++ Y2 ++ Q) :: ps)))
  case atStart => exact ⟨0, by omega, rfl, [], X, [], Y, rfl, rfl, rfl, rfl, by omega, by simpa using S0.out⟩
  case round =>
    obtain ⟨i, hi, rfl, hI⟩ := hrel
    replace hI := hI.out
    obtain ⟨X1, X2, Y1, Y2, hX, hY, h1, h2, h3, I2⟩ := hI
    replace I2 := Lib.hid I2
    have I1 := Lib.hid h3
    have L1 := Lib.hid h1
    have L2 := Lib.hid h2
    clear S0 h3 h1 h2
    by_cases hlt : i < m
    case neg => as_aux_lemma =>
      have hni : ¬ (i : Int) < (m : Int) := by omega
      have HE := Lib.hid (show P ++ Y1 ++ X2 ++ M ++ X1 ++ Y2 ++ Q = R by
        rw [hR.out]
        have e1 : X2 = [] := List.eq_nil_of_length_eq_zero (by have := HM.out; rw [hX, List.length_append, L1.out] at this; omega)
        have e2 : Y2 = [] := List.eq_nil_of_length_eq_zero (by have := HY.out; rw [hY, List.length_append, L2.out] at this; omega)
        rw [hX, hY, e1, e2]; simp)
      clear hX hY
      go_wp2_with fail
      go_end0
      exact ⟨rfl, by rw [← HE.out]; exact I2.out⟩
    have hx0 : X2 ≠ [] := fun e => by have := HM.out; rw [hX, e, List.append_nil, L1.out] at this; omega
    have hy0 : Y2 ≠ [] := fun e => by have := HY.out; rw [hY, e, List.append_nil, L2.out] at this; omega
    obtain ⟨x, X2', rfl⟩ := List.exists_cons_of_ne_nil hx0
    obtain ⟨y, Y2', rfl⟩ := List.exists_cons_of_ne_nil hy0
    clear hx0 hy0
    obtain ⟨A', hA'⟩ : ∃ A', A' = P ++ Y1 := ⟨_, rfl⟩
    obtain ⟨B', hB'⟩ : ∃ B', B' = X2' ++ M ++ X1 := ⟨_, rfl⟩
    obtain ⟨D', hD'⟩ : ∃ D', D' = Y2' ++ Q := ⟨_, rfl⟩
    have e1 : A'.length = a + i := by rw [hA', List.length_append, HA.out, L2.out]
    have e2 : A'.length + 1 + B'.length = b + i := by
      rw [e1, hB', List.length_append, List.length_append]
      have k1 := HB.out; have k2 := HA.out; have k3 := L1.out
      rw [hX, List.length_append, List.length_cons] at k1
      omega
    obtain ⟨l, hl⟩ : ∃ l, l = A' ++ x :: (B' ++ y :: D') := ⟨_, rfl⟩
    have E1 : P ++ Y1 ++ x :: X2' ++ M ++ X1 ++ y :: Y2' ++ Q = l := by rw [hl, hA', hB', hD']; simp
    have E2 : P ++ (Y1 ++ [y]) ++ X2' ++ M ++ (X1 ++ [x]) ++ Y2' ++ Q = A' ++ y :: (B' ++ x :: D') := by rw [hA', hB', hD']; simp
    have E3 : (l.set (a + i) y).set (b + i) x = P ++ (Y1 ++ [y]) ++ X2' ++ M ++ (X1 ++ [x]) ++ Y2' ++ Q := by rw [E2, hl, ← e1, ← e2]; exact two_set A' x B' y D'
    have HX := Lib.hid (show l[a + i]? = some x by rw [hl, ← e1, List.getElem?_append_right (Nat.le_refl _), Nat.sub_self]; rfl)
    have HYY := Lib.hid (show l[b + i]? = some y by
      rw [hl, ← e2, List.getElem?_append_right (by omega), show A'.length + 1 + B'.length - A'.length = B'.length + 1 by omega, List.getElem?_cons_succ, List.getElem?_append_right (Nat.le_refl _), Nat.sub_self]; rfl)
    have HLL := Lib.hid (show l.length = n by
      rw [← HN.out, hX, hY, hl, hA', hB', hD']; simp; omega)
    replace I2 := Lib.hid (show Own w0 wr (dat g n c l :: ps) by rw [← E1]; exact I2.out)
    replace E3 := Lib.hid E3
    have HX1 := Lib.hid (show X = (X1 ++ [x]) ++ X2' by rw [hX]; simp)
    have HY1 := Lib.hid (show Y = (Y1 ++ [y]) ++ Y2' by rw [hY]; simp)
    clear hX hY hA' hB' hD' e1 e2 hl E1 E2
    obtain ⟨k1, hk1⟩ : ∃ k, k = a + i := ⟨_, rfl⟩
    obtain ⟨k2, hk2⟩ : ∃ k, k = b + i := ⟨_, rfl⟩
    rw [← hk1] at HX E3
    rw [← hk2] at HYY E3
    have b1 : k1 < n ∧ k2 < n ∧ k1 ≠ k2 := by omega
    have z1 : IntKind.i64.wrap ((a : Int) + (i : Int)) = (k1 : Int) := by rw [hk1, Int.natCast_add]; exact IntWalk.i64_in _ (by omega)
    have z2 : IntKind.i64.wrap ((b : Int) + (i : Int)) = (k2 : Int) := by rw [hk2, Int.natCast_add]; exact IntWalk.i64_in _ (by omega)
    have bm : m ≤ 1000000 := by omega
    clear hk1 hk2 bd
    as_aux_lemma =>
    go_upto_region 3 with fail
    refine wp_region_state 38 [(16, .slice (some ⟨g, 0, none⟩) n c), (17, .int .i64 (a : Nat)), (18, .int .i64 (i : Nat)), (19, .int .i64 (k1 : Nat)), (20, .slice (some ⟨g, 0, none⟩) n c), (21, .int .i64 (b : Nat)), (22, .int .i64 (i : Nat)), (23, .int .i64 (k2 : Nat)), (24, .slice (some ⟨g, 0, none⟩) n c), (25, .int .i64 (b : Nat)), (26, .int .i64 (i : Nat)), (27, .int .i64 (k2 : Nat)), (28, .pointer (some ⟨g, k2 * 4, none⟩)), (29, aggP y), (30, .slice (some ⟨g, 0, none⟩) n c), (31, .int .i64 (a : Nat)), (32, .int .i64 (i : Nat)), (33, .int .i64 (k1 : Nat)), (34, .pointer (some ⟨g, k1 * 4, none⟩)), (35, aggP x), (36, .pointer (some ⟨g, k1 * 4, none⟩)), (37, .pointer (some ⟨g, k2 * 4, none⟩))] (fun L vs w' => Own w0 w' (dat g n c (cond (L 21) (cond (L 23) ((l.set k1 y).set k2 x) (l.set k1 y)) (cond (L 23) (l.set k2 x) l)) :: ps)) (by kernel_rfl) (by kernel_rfl) [16, 17, 18, 19, 20, 21, 22, 23, 24, 25, 26, 27, 28, 29, 30, 31, 32, 33, 34, 35, 36, 37] (by kernel_rfl) rfl (by kernel_rfl) 24 rfl ?_ ?_ ?_
    · exact fun L hL => (I2.out.ext (Below.refl _ _).drew).cast (by simp [hL 21 (by decide), hL 23 (by decide)])
    · refine ⟨StepS.of [] (by kernel_rfl) ?_, ?_⟩
      · intro L vs wq hL hA hC hJ
        unfold forAll
        exact StepV.val 16 (by kernel_rfl) (by kernel_rfl) rfl (by simp) rfl rfl hJ
      refine ⟨StepS.of [] (by kernel_rfl) ?_, ?_⟩
      · intro L vs wq hL hA hC hJ
        unfold forAll
        exact StepV.val 17 (by kernel_rfl) (by kernel_rfl) rfl (by simp) rfl rfl hJ
      refine ⟨StepS.of [] (by kernel_rfl) ?_, ?_⟩
      · intro L vs wq hL hA hC hJ
        unfold forAll
        exact StepV.val 18 (by kernel_rfl) (by kernel_rfl) rfl (by simp) rfl rfl hJ
      refine ⟨StepS.of [17, 18] (by kernel_rfl) ?_, ?_⟩
      · intro L vs wq hL hA hC hJ h17 h18
        rw [(show vs 17 = .int .i64 (a : Nat) from h17), (show vs 18 = .int .i64 (i : Nat) from h18)]
        unfold forAll
        exact StepV.val 19 (by kernel_rfl) (by go_simp) rfl (by simp [Act.put]) rfl rfl hJ
      refine ⟨StepS.of [] (by kernel_rfl) ?_, ?_⟩
      · intro L vs wq hL hA hC hJ
        unfold forAll
        exact StepV.val 20 (by kernel_rfl) (by kernel_rfl) rfl (by simp) rfl rfl hJ
      refine ⟨StepS.of [] (by kernel_rfl) ?_, ?_⟩
      · intro L vs wq hL hA hC hJ
        unfold forAll
        exact StepV.val 21 (by kernel_rfl) (by kernel_rfl) rfl (by simp) rfl rfl hJ
      refine ⟨StepS.of [] (by kernel_rfl) ?_, ?_⟩
      · intro L vs wq hL hA hC hJ
        unfold forAll
        exact StepV.val 22 (by kernel_rfl) (by kernel_rfl) rfl (by simp) rfl rfl hJ
      refine ⟨StepS.of [21, 22] (by kernel_rfl) ?_, ?_⟩
      · intro L vs wq hL hA hC hJ h21 h22
        rw [(show vs 21 = .int .i64 (b : Nat) from h21), (show vs 22 = .int .i64 (i : Nat) from h22)]
        unfold forAll
        exact StepV.val 23 (by kernel_rfl) (by go_simp) rfl (by simp [Act.put]) rfl rfl hJ
      refine ⟨StepS.of [] (by kernel_rfl) ?_, ?_⟩
      · intro L vs wq hL hA hC hJ
        unfold forAll
        exact StepV.val 24 (by kernel_rfl) (by kernel_rfl) rfl (by simp) rfl rfl hJ
      refine ⟨StepS.of [] (by kernel_rfl) ?_, ?_⟩
      · intro L vs wq hL hA hC hJ
        unfold forAll
        exact StepV.val 25 (by kernel_rfl) (by kernel_rfl) rfl (by simp) rfl rfl hJ
      refine ⟨StepS.of [] (by kernel_rfl) ?_, ?_⟩
      · intro L vs wq hL hA hC hJ
        unfold forAll
        exact StepV.val 26 (by kernel_rfl) (by kernel_rfl) rfl (by simp) rfl rfl hJ
      refine ⟨StepS.of [25, 26] (by kernel_rfl) ?_, ?_⟩
      · intro L vs wq hL hA hC hJ h25 h26
        rw [(show vs 25 = .int .i64 (b : Nat) from h25), (show vs 26 = .int .i64 (i : Nat) from h26)]
        unfold forAll
        exact StepV.val 27 (by kernel_rfl) (by go_simp) rfl (by simp [Act.put]) rfl rfl hJ
      refine ⟨StepS.of [24, 27] (by kernel_rfl) ?_, ?_⟩
      · intro L vs wq hL hA hC hJ h24 h27
        rw [(show vs 24 = .slice (some ⟨g, 0, none⟩) n c from h24), (show vs 27 = .int .i64 (k2 : Nat) from h27)]
        unfold forAll
        exact StepV.val 28 (by kernel_rfl) (by go_simp) rfl (by simp [Act.put]) rfl rfl hJ
      refine ⟨StepS.of [28] (by kernel_rfl) ?_, ?_⟩
      · intro L vs wq hL hA hC hJ h28
        rw [(show vs 28 = .pointer (some ⟨g, k2 * 4, none⟩) from h28)]
        unfold forAll
        have q1 := hC.no (j := 21) (i := 13) (by kernel_rfl) hL
        have q2 := hC.no (j := 23) (i := 13) (by kernel_rfl) hL
        have K := Own.cast (qs := dat g n c l :: ps) hJ (by simp [q1, q2])
        obtain ⟨t0, t1, t2, t3⟩ := K.ptAt HYY.out
        have tl := (K.rowLt 0 rfl).1
        unfold aggP
        exact StepV.val 29 (by kernel_rfl) (by go_simp) rfl (by simp [Act.put]) rfl rfl hJ
      refine ⟨StepS.of [] (by kernel_rfl) ?_, ?_⟩
      · intro L vs wq hL hA hC hJ
        unfold forAll
        exact StepV.val 30 (by kernel_rfl) (by kernel_rfl) rfl (by simp) rfl rfl hJ
      refine ⟨StepS.of [] (by kernel_rfl) ?_, ?_⟩
      · intro L vs wq hL hA hC hJ
        unfold forAll
        exact StepV.val 31 (by kernel_rfl) (by kernel_rfl) rfl (by simp) rfl rfl hJ
      refine ⟨StepS.of [] (by kernel_rfl) ?_, ?_⟩
      · intro L vs wq hL hA hC hJ
        unfold forAll
        exact StepV.val 32 (by kernel_rfl) (by kernel_rfl) rfl (by simp) rfl rfl hJ
      refine ⟨StepS.of [31, 32] (by kernel_rfl) ?_, ?_⟩
      · intro L vs wq hL hA hC hJ h31 h32
        rw [(show vs 31 = .int .i64 (a : Nat) from h31), (show vs 32 = .int .i64 (i : Nat) from h32)]
        unfold forAll
        exact StepV.val 33 (by kernel_rfl) (by go_simp) rfl (by simp [Act.put]) rfl rfl hJ
      refine ⟨StepS.of [30, 33] (by kernel_rfl) ?_, ?_⟩
      · intro L vs wq hL hA hC hJ h30 h33
        rw [(show vs 30 = .slice (some ⟨g, 0, none⟩) n c from h30), (show vs 33 = .int .i64 (k1 : Nat) from h33)]
        unfold forAll
        exact StepV.val 34 (by kernel_rfl) (by go_simp) rfl (by simp [Act.put]) rfl rfl hJ
      refine ⟨StepS.of [34] (by kernel_rfl) ?_, ?_⟩
      · intro L vs wq hL hA hC hJ h34
        rw [(show vs 34 = .pointer (some ⟨g, k1 * 4, none⟩) from h34)]
        unfold forAll
        have q1 := hC.no (j := 21) (i := 19) (by kernel_rfl) hL
        have q2 := hC.no (j := 23) (i := 19) (by kernel_rfl) hL
        have K := Own.cast (qs := dat g n c l :: ps) hJ (by simp [q1, q2])
        obtain ⟨t0, t1, t2, t3⟩ := K.ptAt HX.out
        have tl := (K.rowLt 0 rfl).1
        unfold aggP
        exact StepV.val 35 (by kernel_rfl) (by go_simp) rfl (by simp [Act.put]) rfl rfl hJ
      refine ⟨StepS.of [16, 19] (by kernel_rfl) ?_, ?_⟩
      · intro L vs wq hL hA hC hJ h16 h19
        rw [(show vs 16 = .slice (some ⟨g, 0, none⟩) n c from h16), (show vs 19 = .int .i64 (k1 : Nat) from h19)]
        unfold forAll
        exact StepV.val 36 (by kernel_rfl) (by go_simp) rfl (by simp [Act.put]) rfl rfl hJ
      refine ⟨StepS.of [36, 29] (by kernel_rfl) ?_, ?_⟩
      · intro L vs wq hL hA hC hJ h36 h29
        rw [(show vs 36 = .pointer (some ⟨g, k1 * 4, none⟩) from h36), (show vs 29 = aggP y from h29)]
        unfold forAll
        unfold aggP
        cases q : L 23
        · have K := Own.cast (qs := dat g n c l :: ps) hJ (by simp [hL, q])
          have tl := (K.rowLt 0 rfl).1; have tf := (K.rowLt 0 rfl).2
          obtain ⟨t0, t1, t2, t3⟩ := K.ptAt HX.out
          exact StepV.skip (by kernel_rfl) (by go_simp) rfl rfl ((K.setPt k1 (by rw [HLL.out]; omega) y).cast (by simp [upd, q]))
        · have K := Own.cast (qs := dat g n c (l.set k2 x) :: ps) hJ (by simp [hL, q])
          have tl := (K.rowLt 0 rfl).1; have tf := (K.rowLt 0 rfl).2
          have hq := HX.out
          obtain ⟨t0, t1, t2, t3⟩ := K.ptAt (k := k1) (by rw [List.getElem?_set_ne (by omega)]; exact hq)
          exact StepV.skip (by kernel_rfl) (by go_simp) rfl rfl ((K.setPt k1 (by rw [List.length_set, HLL.out]; omega) y).cast (by simp [upd, q, List.set_comm _ _ (show k2 ≠ k1 by omega)]))
      refine ⟨StepS.of [20, 23] (by kernel_rfl) ?_, ?_⟩
      · intro L vs wq hL hA hC hJ h20 h23
        rw [(show vs 20 = .slice (some ⟨g, 0, none⟩) n c from h20), (show vs 23 = .int .i64 (k2 : Nat) from h23)]
        unfold forAll
        exact StepV.val 37 (by kernel_rfl) (by go_simp) rfl (by simp [Act.put]) rfl rfl hJ
      refine ⟨StepS.of [37, 35] (by kernel_rfl) ?_, ?_⟩
      · intro L vs wq hL hA hC hJ h37 h35
        rw [(show vs 37 = .pointer (some ⟨g, k2 * 4, none⟩) from h37), (show vs 35 = aggP x from h35)]
        unfold forAll
        unfold aggP
        cases q : L 21
        · have K := Own.cast (qs := dat g n c l :: ps) hJ (by simp [hL, q])
          have tl := (K.rowLt 0 rfl).1; have tf := (K.rowLt 0 rfl).2
          obtain ⟨t0, t1, t2, t3⟩ := K.ptAt HYY.out
          exact StepV.skip (by kernel_rfl) (by go_simp) rfl rfl ((K.setPt k2 (by rw [HLL.out]; omega) x).cast (by simp [upd, q]))
        · have K := Own.cast (qs := dat g n c (l.set k1 y) :: ps) hJ (by simp [hL, q])
          have tl := (K.rowLt 0 rfl).1; have tf := (K.rowLt 0 rfl).2
          have hq := HYY.out
          obtain ⟨t0, t1, t2, t3⟩ := K.ptAt (k := k2) (by rw [List.getElem?_set_ne (by omega)]; exact hq)
          exact StepV.skip (by kernel_rfl) (by go_simp) rfl rfl ((K.setPt k2 (by rw [List.length_set, HLL.out]; omega) x).cast (by simp [upd, q]))
      exact trivial
    · intro vs w9 hJ h16 h17 h18 h19 h20 h21 h22 h23 h24 h25 h26 h27 h28 h29 h30 h31 h32 h33 h34 h35 h36 h37
      have S9 := Lib.hid (show Own w0 w9 (dat g n c ((l.set k1 y).set k2 x) :: ps) from hJ)
      rw [(show vs 16 = .slice (some ⟨g, 0, none⟩) n c from h16), (show vs 17 = .int .i64 (a : Nat) from h17), (show vs 18 = .int .i64 (i : Nat) from h18), (show vs 19 = .int .i64 (k1 : Nat) from h19), (show vs 20 = .slice (some ⟨g, 0, none⟩) n c from h20), (show vs 21 = .int .i64 (b : Nat) from h21), (show vs 22 = .int .i64 (i : Nat) from h22), (show vs 23 = .int .i64 (k2 : Nat) from h23), (show vs 24 = .slice (some ⟨g, 0, none⟩) n c from h24), (show vs 25 = .int .i64 (b : Nat) from h25), (show vs 26 = .int .i64 (i : Nat) from h26), (show vs 27 = .int .i64 (k2 : Nat) from h27), (show vs 28 = .pointer (some ⟨g, k2 * 4, none⟩) from h28), (show vs 29 = aggP y from h29), (show vs 30 = .slice (some ⟨g, 0, none⟩) n c from h30), (show vs 31 = .int .i64 (a : Nat) from h31), (show vs 32 = .int .i64 (i : Nat) from h32), (show vs 33 = .int .i64 (k1 : Nat) from h33), (show vs 34 = .pointer (some ⟨g, k1 * 4, none⟩) from h34), (show vs 35 = aggP x from h35), (show vs 36 = .pointer (some ⟨g, k1 * 4, none⟩) from h36), (show vs 37 = .pointer (some ⟨g, k2 * 4, none⟩) from h37)]
      clear h16 h17 h18 h19 h20 h21 h22 h23 h24 h25 h26 h27 h28 h29 h30 h31 h32 h33 h34 h35 h36 h37
      clear hJ
      unfold forAll
      simp only [Act.put, List.setIfInBounds_toArray, List.set_cons_zero, List.set_cons_succ]
      rw [E3.out] at S9
      go_wp2_with fail
      go_roundg (gk - 1)
      case measure => have := I1.out; omega
      case rel => exact ⟨i + 1, by omega, by go_num, X1 ++ [x], X2', Y1 ++ [y], Y2', HX1.out, HY1.out, by rw [List.length_append, L1.out]; rfl, by rw [List.length_append, L2.out]; rfl, by have := I1.out; omega, S9.out⟩
end Go.Proofs.Ytnalbchggjepdaa
