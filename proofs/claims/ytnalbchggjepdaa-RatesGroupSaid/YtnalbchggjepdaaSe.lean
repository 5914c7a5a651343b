/- Merging where the second part has one element. No condition. -/
import Derived.Test.YtnalbchggjepdaaSd
namespace Go.Proofs.Ytnalbchggjepdaa
open Go.RowKit Go.Shelf
attribute [local go_sem] Oper.semAt_some

set_option maxRecDepth 100000 in
set_option maxHeartbeats 4000000 in
theorem symB_any (w0 : World) (ps : List Piece) (g n c : Nat) (P X : List Pt) (y : Pt) (Q : List Pt) (W : World) (hO : Own w0 W (dat g n c (P ++ X ++ [y] ++ Q) :: ps)) (a m b : Nat)
    (ha : P.length = a) (hm : a + X.length = m) (hb : m + 1 = b) (hx2 : 2 ≤ X.length) (hn : (P ++ X ++ [y] ++ Q).length = n) (hn2 : n ≤ 1000000) (hX : Srt ltP X) :
    Calls Try.prog 95 #[.slice (some ⟨g, 0, none⟩) n c, .int .i64 (a : Nat), .int .i64 (m : Nat), .int .i64 (b : Nat), .func (.func 71) #[] #[]] W fun e w' => e = .returned (.tuple #[]) ∧ ∃ S', Srt ltP S' ∧ Stb ltP (X ++ [y]) S' ∧ Own w0 w' (dat g n c (P ++ S' ++ Q) :: ps) := by
  have HA := Lib.hid ha
  have HX := Lib.hid hX
  have HM := Lib.hid hm
  obtain ⟨l, hl⟩ : ∃ l, l = P ++ X ++ [y] ++ Q := ⟨_, rfl⟩
  rw [← hl] at hO hn
  have HL := Lib.hid hl
  have HN := Lib.hid hn
  have S0 := Lib.hid hO
  have HYM := Lib.hid (show l[m]? = some y by
    rw [hl, List.append_assoc, ← hm, ← ha, ← List.length_append]; exact at_one _ _ _)
  have HAT := Lib.hid (fun (h : Nat) (h1 : a ≤ h) (h2 : h < m) => (show l[h]? = X[h - a]? by
    rw [hl, List.append_assoc, List.append_assoc, List.getElem?_append_right (by omega), List.getElem?_append_left (by omega), ha]))
  obtain ⟨ma, hma⟩ : ∃ k, k = X.length := ⟨_, rfl⟩
  have bd : m = a + ma ∧ b = m + 1 ∧ b ≤ n ∧ 2 ≤ ma := by rw [hl] at hn; simp at hn; omega
  have z0 : IntKind.i64.wrap ((m : Int) - (a : Int)) = (ma : Int) := by rw [show (m : Int) - (a : Int) = (ma : Int) by omega]; exact IntWalk.i64_in _ (by omega)
  have z00 : IntKind.i64.wrap ((b : Int) - (m : Int)) = 1 := by rw [show (b : Int) - (m : Int) = 1 by omega]; exact IntWalk.i64_in _ (by omega)
  have d0 : ((ma : Int) == 1) = false := by rw [beq_eq_false_iff_ne]; omega
  have bb : a < m ∧ m < b ∧ b ≤ n ∧ m ≤ 1000000 ∧ m < n := by omega
  clear ha hm hb hn hl hO hX bd hma hx2
  go_enter Try.func95, Try.ntmps95
  go_wp2_with fail
  go_loopg [14, 15, 16] (m - a) (fun q u14 u15 u16 wr => ∃ i j : Nat, (a ≤ i ∧ i ≤ j ∧ j ≤ m) ∧ u14 = .int .i64 (i : Nat) ∧ u15 = .int .i64 (j : Nat) ∧ Hid (j - i ≤ q ∧ (a < i → ∃ x, X[i - 1 - a]? = some x ∧ ltP y x = false) ∧ (j < m → ∃ x, X[j - a]? = some x ∧ ltP y x = true) ∧ Own w0 wr (dat g n c l :: ps)))
  case atStart => exact ⟨a, m, by omega, rfl, rfl, by omega, by omega, by omega, S0.out⟩
  case round =>
    obtain ⟨i, j, ⟨hmi, hij, hjb⟩, rfl, rfl, hI⟩ := hrel
    have I1 := Lib.hid hI.out.1
    have I2 := Lib.hid hI.out.2.1
    have I3 := Lib.hid hI.out.2.2.1
    have I4 := Lib.hid hI.out.2.2.2
    clear hI S0
    by_cases hlt : i < j
    · obtain ⟨s, hs⟩ : ∃ s, s = i + j := ⟨_, rfl⟩
      obtain ⟨h, hh⟩ : ∃ h, h = s / 2 := ⟨_, rfl⟩
      have hix : (i : Int) < (j : Int) := by omega
      have z1 : IntKind.i64.wrap ((i : Int) + (j : Int)) = (s : Int) := by rw [show (i : Int) + (j : Int) = (s : Int) by omega]; exact IntWalk.i64_in _ (by omega)
      have z2 : IntKind.u64.wrap (s : Int) = (s : Int) := IntWalk.u64_in _ (by omega)
      have z3 : (s : Int) / 2 = (h : Int) := by omega
      have z4 : IntKind.i64.wrap (h : Int) = (h : Int) := IntWalk.i64_in _ (by omega)
      have bh : i ≤ h ∧ h < j ∧ h < n := by omega
      clear hs hh
      obtain ⟨x, hx⟩ : ∃ x, X[h - a]? = some x := ⟨_, List.getElem?_eq_getElem (by have := HM.out; omega)⟩
      have HXH := Lib.hid (show l[h]? = some x by rw [HAT.out h (by omega) (by omega)]; exact hx)
      replace hx := Lib.hid hx
      as_aux_lemma =>
      go_upto_region 17 with fail
      refine wp_region_table 220 [(92, .is (.func (.func 71) #[] #[])), (93, .is (.slice (some ⟨g, 0, none⟩) n c)), (94, .is (.int .i64 (m : Nat))), (95, .is (.pointer (some ⟨g, m * 4, none⟩))), (96, .is (aggP y)), (97, .is (.slice (some ⟨g, 0, none⟩) n c)), (98, .is (.int .i64 (h : Nat))), (99, .is (.pointer (some ⟨g, h * 4, none⟩))), (100, .is (aggP x)), (101, .is (.int .i64 (cf y x))), (102, .is (.bool (ltP y x))), (103, .is (.bool (!ltP y x)))] (I4.out) (by kernel_rfl) (by kernel_rfl) [92, 93, 94, 95, 96, 97, 98, 99, 100, 101, 102, 103] (by kernel_rfl) rfl (by kernel_rfl) ?_ ?_
      · refine ⟨StepT.of [] (by kernel_rfl) ?_, ?_⟩
        · intro v hO
          exact StepG.val 92 (by kernel_rfl) (by kernel_rfl) rfl (by simp) rfl (Below.refl _ _) rfl
        refine ⟨StepT.of [] (by kernel_rfl) ?_, ?_⟩
        · intro v hO
          exact StepG.val 93 (by kernel_rfl) (by kernel_rfl) rfl (by simp) rfl (Below.refl _ _) rfl
        refine ⟨StepT.of [] (by kernel_rfl) ?_, ?_⟩
        · intro v hO
          exact StepG.val 94 (by kernel_rfl) (by kernel_rfl) rfl (by simp) rfl (Below.refl _ _) rfl
        refine ⟨StepT.of [93, 94] (by kernel_rfl) ?_, ?_⟩
        · intro v hO x93 h93 x94 h94
          obtain rfl : x93 = (.slice (some ⟨g, 0, none⟩) n c) := h93
          obtain rfl : x94 = (.int .i64 (m : Nat)) := h94
          exact StepG.val 95 (by kernel_rfl) (by go_simp) rfl (by simp [Act.put]) rfl (Below.refl _ _) rfl
        refine ⟨StepT.of [95] (by kernel_rfl) ?_, ?_⟩
        · intro v hO x95 h95
          obtain rfl : x95 = (.pointer (some ⟨g, m * 4, none⟩)) := h95
          obtain ⟨t0, t1, t2, t3⟩ := hO.ptAt HYM.out
          have tl := (hO.rowLt 0 rfl).1
          unfold aggP
          exact StepG.val 96 (by kernel_rfl) (by go_simp) rfl (by simp [Act.put]) rfl (Below.refl _ _) rfl
        refine ⟨StepT.of [] (by kernel_rfl) ?_, ?_⟩
        · intro v hO
          exact StepG.val 97 (by kernel_rfl) (by kernel_rfl) rfl (by simp) rfl (Below.refl _ _) rfl
        refine ⟨StepT.of [] (by kernel_rfl) ?_, ?_⟩
        · intro v hO
          exact StepG.val 98 (by kernel_rfl) (by kernel_rfl) rfl (by simp) rfl (Below.refl _ _) rfl
        refine ⟨StepT.of [97, 98] (by kernel_rfl) ?_, ?_⟩
        · intro v hO x97 h97 x98 h98
          obtain rfl : x97 = (.slice (some ⟨g, 0, none⟩) n c) := h97
          obtain rfl : x98 = (.int .i64 (h : Nat)) := h98
          exact StepG.val 99 (by kernel_rfl) (by go_simp) rfl (by simp [Act.put]) rfl (Below.refl _ _) rfl
        refine ⟨StepT.of [99] (by kernel_rfl) ?_, ?_⟩
        · intro v hO x99 h99
          obtain rfl : x99 = (.pointer (some ⟨g, h * 4, none⟩)) := h99
          obtain ⟨t0, t1, t2, t3⟩ := hO.ptAt HXH.out
          have tl := (hO.rowLt 0 rfl).1
          unfold aggP
          exact StepG.val 100 (by kernel_rfl) (by go_simp) rfl (by simp [Act.put]) rfl (Below.refl _ _) rfl
        refine ⟨StepT.of [92, 96, 100] (by kernel_rfl) ?_, ?_⟩
        · intro v hO x92 h92 x96 h96 x100 h100
          obtain rfl : x92 = (.func (.func 71) #[] #[]) := h92
          obtain rfl : x96 = (aggP y) := h96
          obtain rfl : x100 = (aggP x) := h100
          refine StepG.call 101 (by kernel_rfl) (by kernel_rfl) rfl (by simp [Act.put]) rfl ((cmp_any y x v).mono ?_)
          rintro e w2 ⟨rfl, hb2⟩
          exact ⟨_, rfl, hb2, rfl⟩
        refine ⟨StepT.of [101] (by kernel_rfl) ?_, ?_⟩
        · intro v hO x101 h101
          obtain rfl : x101 = (.int .i64 (cf y x)) := h101
          exact StepG.val 102 (by kernel_rfl) (by kernel_rfl) rfl (by simp [Act.put]) rfl (Below.refl _ _) rfl
        refine ⟨StepT.of [102] (by kernel_rfl) ?_, ?_⟩
        · intro v hO x102 h102
          obtain rfl : x102 = (.bool (ltP y x)) := h102
          exact StepG.val 103 (by kernel_rfl) (by kernel_rfl) rfl (by simp [Act.put]) rfl (Below.refl _ _) rfl
        exact trivial
      · intro v hO x92 h92 x93 h93 x94 h94 x95 h95 x96 h96 x97 h97 x98 h98 x99 h99 x100 h100 x101 h101 x102 h102 x103 h103
        obtain rfl : x92 = (.func (.func 71) #[] #[]) := h92
        obtain rfl : x93 = (.slice (some ⟨g, 0, none⟩) n c) := h93
        obtain rfl : x94 = (.int .i64 (m : Nat)) := h94
        obtain rfl : x95 = (.pointer (some ⟨g, m * 4, none⟩)) := h95
        obtain rfl : x96 = (aggP y) := h96
        obtain rfl : x97 = (.slice (some ⟨g, 0, none⟩) n c) := h97
        obtain rfl : x98 = (.int .i64 (h : Nat)) := h98
        obtain rfl : x99 = (.pointer (some ⟨g, h * 4, none⟩)) := h99
        obtain rfl : x100 = (aggP x) := h100
        obtain rfl : x101 = (.int .i64 (cf y x)) := h101
        obtain rfl : x102 = (.bool (ltP y x)) := h102
        obtain rfl : x103 = (.bool (!ltP y x)) := h103
        have S5 := Lib.hid hO
        simp only [stepFor, Act.put, List.setIfInBounds_toArray, List.set_cons_zero, List.set_cons_succ]
        clear hO I4
        have hq := Lib.hid (show ltP y x = ltP y x from rfl)
        cases hv : ltP y x
        · as_aux_lemma =>
          replace hv := Lib.hid hv
          go_wp2_with fail
          go_roundg (j - (h + 1))
          case measure => have := I1.out; omega
          case rel => exact ⟨h + 1, j, by omega, by go_num, rfl, Nat.le_refl _, fun _ => ⟨x, by rw [show h + 1 - 1 - a = h - a by omega]; exact hx.out, hv.out⟩, I3.out, S5.out⟩
        · as_aux_lemma =>
          replace hv := Lib.hid hv
          go_wp2_with fail
          go_roundg (h - i)
          case measure => have := I1.out; omega
          case rel => exact ⟨i, h, by omega, rfl, rfl, Nat.le_refl _, I2.out, fun _ => ⟨x, hx.out, hv.out⟩, S5.out⟩
    · obtain rfl : i = j := by omega
      have hni : ¬ (i : Int) < (i : Int) := by omega
      obtain ⟨X1, hX1⟩ : ∃ Z, Z = X.take (i - a) := ⟨_, rfl⟩
      obtain ⟨X2, hX2⟩ : ∃ Z, Z = X.drop (i - a) := ⟨_, rfl⟩
      have hXX : X = X1 ++ X2 := by rw [hX1, hX2]; exact (List.take_append_drop _ _).symm
      have l1 : X1.length = i - a := by rw [hX1, List.length_take]; have := HM.out; omega
      have MA := Lib.hid (mergeB swoP (y := y) (X1 := X1) (X2 := X2) (by rw [← hXX]; exact HX.out)
        (fun x hx => by
          obtain ⟨p0, p1⟩ := last_at _ _ hx
          obtain ⟨z, z1, z2⟩ := I2.out (by omega)
          rw [hXX, List.getElem?_append_left (by omega), show i - 1 - a = X1.length - 1 by omega, p1] at z1
          injection z1 with z1; rw [z1]; exact z2)
        (fun x hx => by
          have hx : X2.head? = some x := hx
          rw [hX2, List.head?_drop] at hx
          have := (List.getElem?_eq_some_iff.1 hx).1
          obtain ⟨z, z1, z2⟩ := I3.out (by have := HM.out; omega)
          rw [hx] at z1
          injection z1 with z1; rw [z1]; exact z2))
      rw [← hXX] at MA
      have HE := Lib.hid (show P ++ X ++ [y] ++ Q = P ++ X1 ++ (X2 ++ [y]) ++ Q by rw [hXX]; simp)
      have L1 := Lib.hid (show a + X1.length = i by omega)
      have L2 := Lib.hid (show i + X2.length = m by have := HM.out; rw [hXX, List.length_append] at this; omega)
      clear hX1 hX2 l1 I2 I3 hij hlt hXX
      as_aux_lemma =>
      go_wp2_with fail
      go_loopg [17] (m - i) (fun q u17 wr => ∃ k : Nat, (i ≤ k ∧ k ≤ m) ∧ u17 = .int .i64 (k : Nat) ∧ Hid (k ≤ i + q ∧ ∃ Z1 Z2, X2 = Z1 ++ Z2 ∧ i + Z1.length = k ∧ Own w0 wr (dat g n c (P ++ X1 ++ (Z1 ++ y :: Z2) ++ Q) :: ps)))
      case atStart => exact ⟨m, by omega, rfl, by omega, X2, [], by simp, L2.out, by rw [← HE.out, ← HL.out]; exact I4.out⟩
      case round =>
        obtain ⟨k, ⟨hak, hki⟩, rfl, hI⟩ := hrel
        have J1 := Lib.hid hI.out.1
        obtain ⟨Z1, Z2, e1, e2, e3⟩ := hI.out.2
        clear hI I4
        by_cases hlt : i < k
        case neg => as_aux_lemma =>
          have hni : ¬ (i : Int) < (k : Int) := by omega
          have hz : Z1 = [] := List.eq_nil_of_length_eq_zero (by omega)
          have HF := Lib.hid (show Own w0 wr (dat g n c (P ++ (X1 ++ y :: X2) ++ Q) :: ps) by
            subst hz
            rw [List.nil_append] at e1
            subst e1
            simpa using e3)
          clear e1 e2 e3 hz
          go_wp2_with fail
          (try simp only [Exit.inBlock, Exit.then])
          refine bodyPost_ret (results_none rfl _ _ _) rfl ?_
          exact ⟨rfl, _, MA.out.1, MA.out.2, by simpa only [List.append_assoc] using HF.out⟩
        have hix : (i : Int) < (k : Int) := by omega
        have hz0 : Z1 ≠ [] := fun e => by rw [e] at e2; simp at e2; omega
        rcases List.eq_nil_or_concat Z1 with hk | ⟨Z1', z, hk⟩
        · exact absurd hk hz0
        rw [List.concat_eq_append] at hk
        subst hk
        obtain ⟨k1, hk1⟩ : ∃ k1, k1 = i + Z1'.length := ⟨_, rfl⟩
        have hkk : k = k1 + 1 := by simp at e2; omega
        obtain ⟨l2, hl2⟩ : ∃ l2, l2 = (P ++ X1 ++ Z1') ++ z :: y :: (Z2 ++ Q) := ⟨_, rfl⟩
        have hpl : (P ++ X1 ++ Z1').length = k1 := by rw [List.length_append, List.length_append, HA.out, L1.out]; exact hk1.symm
        have E1 : P ++ X1 ++ (Z1' ++ [z] ++ y :: Z2) ++ Q = l2 := by rw [hl2]; simp
        have H1 := Lib.hid (show l2[k]? = some y by rw [hl2, hkk, ← hpl]; exact at_two _ _ _ _)
        have H2 := Lib.hid (show l2[k1]? = some z by rw [hl2, ← hpl]; exact at_one _ _ _)
        have E3 := Lib.hid (show (l2.set k z).set k1 y = P ++ X1 ++ (Z1' ++ y :: (z :: Z2)) ++ Q by
          rw [hl2, hkk, ← hpl, adj_set]; simp)
        have HLL := Lib.hid (show l2.length = n by
          rw [← E1, ← HN.out, HL.out, HE.out, e1]; simp; omega)
        rw [E1] at e3
        have S4 := Lib.hid e3
        have z6 : IntKind.i64.wrap ((k : Int) - 1) = (k1 : Int) := by rw [show (k : Int) - 1 = (k1 : Int) by omega]; exact IntWalk.i64_in _ (by omega)
        have bk : k < n ∧ k1 < n ∧ k ≠ k1 := by omega
        have HG := Lib.hid (show X2 = Z1' ++ (z :: Z2) ∧ i + Z1'.length = k1 ∧ k = k1 + 1 ∧ i ≤ k1 from ⟨by rw [e1]; simp, hk1.symm, hkk, by omega⟩)
        clear e1 e2 e3 hz0 hpl hl2 hk1 E1 hlt hkk
        as_aux_lemma =>
        go_upto_region 23 with fail
        refine wp_region_state 220 [(113, .slice (some ⟨g, 0, none⟩) n c), (114, .int .i64 (k : Nat)), (115, .slice (some ⟨g, 0, none⟩) n c), (116, .int .i64 (k : Nat)), (117, .int .i64 (k1 : Nat)), (118, .slice (some ⟨g, 0, none⟩) n c), (119, .int .i64 (k : Nat)), (120, .int .i64 (k1 : Nat)), (121, .pointer (some ⟨g, k1 * 4, none⟩)), (122, aggP z), (123, .slice (some ⟨g, 0, none⟩) n c), (124, .int .i64 (k : Nat)), (125, .pointer (some ⟨g, k * 4, none⟩)), (126, aggP y), (127, .pointer (some ⟨g, k * 4, none⟩)), (128, .pointer (some ⟨g, k1 * 4, none⟩))] (fun L vs w' => Own w0 w' (dat g n c (cond (L 15) (cond (L 17) ((l2.set k z).set k1 y) (l2.set k z)) (cond (L 17) (l2.set k1 y) l2)) :: ps)) (by kernel_rfl) (by kernel_rfl) [113, 114, 115, 116, 117, 118, 119, 120, 121, 122, 123, 124, 125, 126, 127, 128] (by kernel_rfl) rfl (by kernel_rfl) 18 rfl ?_ ?_ ?_
        · exact fun L hL => (S4.out.ext (Below.refl _ _).drew).cast (by simp [hL 15 (by decide), hL 17 (by decide)])
        · refine ⟨StepS.of [] (by kernel_rfl) ?_, ?_⟩
          · intro L vs wq hL hA hC hJ
            unfold forAll
            exact StepV.val 113 (by kernel_rfl) (by kernel_rfl) rfl (by simp) rfl rfl hJ
          refine ⟨StepS.of [] (by kernel_rfl) ?_, ?_⟩
          · intro L vs wq hL hA hC hJ
            unfold forAll
            exact StepV.val 114 (by kernel_rfl) (by kernel_rfl) rfl (by simp) rfl rfl hJ
          refine ⟨StepS.of [] (by kernel_rfl) ?_, ?_⟩
          · intro L vs wq hL hA hC hJ
            unfold forAll
            exact StepV.val 115 (by kernel_rfl) (by kernel_rfl) rfl (by simp) rfl rfl hJ
          refine ⟨StepS.of [] (by kernel_rfl) ?_, ?_⟩
          · intro L vs wq hL hA hC hJ
            unfold forAll
            exact StepV.val 116 (by kernel_rfl) (by kernel_rfl) rfl (by simp) rfl rfl hJ
          refine ⟨StepS.of [116] (by kernel_rfl) ?_, ?_⟩
          · intro L vs wq hL hA hC hJ h116
            rw [(show vs 116 = .int .i64 (k : Nat) from h116)]
            unfold forAll
            exact StepV.val 117 (by kernel_rfl) (by go_simp) rfl (by simp [Act.put]) rfl rfl hJ
          refine ⟨StepS.of [] (by kernel_rfl) ?_, ?_⟩
          · intro L vs wq hL hA hC hJ
            unfold forAll
            exact StepV.val 118 (by kernel_rfl) (by kernel_rfl) rfl (by simp) rfl rfl hJ
          refine ⟨StepS.of [] (by kernel_rfl) ?_, ?_⟩
          · intro L vs wq hL hA hC hJ
            unfold forAll
            exact StepV.val 119 (by kernel_rfl) (by kernel_rfl) rfl (by simp) rfl rfl hJ
          refine ⟨StepS.of [119] (by kernel_rfl) ?_, ?_⟩
          · intro L vs wq hL hA hC hJ h119
            rw [(show vs 119 = .int .i64 (k : Nat) from h119)]
            unfold forAll
            exact StepV.val 120 (by kernel_rfl) (by go_simp) rfl (by simp [Act.put]) rfl rfl hJ
          refine ⟨StepS.of [118, 120] (by kernel_rfl) ?_, ?_⟩
          · intro L vs wq hL hA hC hJ h118 h120
            rw [(show vs 118 = .slice (some ⟨g, 0, none⟩) n c from h118), (show vs 120 = .int .i64 (k1 : Nat) from h120)]
            unfold forAll
            exact StepV.val 121 (by kernel_rfl) (by go_simp) rfl (by simp [Act.put]) rfl rfl hJ
          refine ⟨StepS.of [121] (by kernel_rfl) ?_, ?_⟩
          · intro L vs wq hL hA hC hJ h121
            rw [(show vs 121 = .pointer (some ⟨g, k1 * 4, none⟩) from h121)]
            unfold forAll
            have q1 := hC.no (j := 15) (i := 9) (by kernel_rfl) hL
            have q2 := hC.no (j := 17) (i := 9) (by kernel_rfl) hL
            have K := Own.cast (qs := dat g n c l2 :: ps) hJ (by simp [q1, q2])
            obtain ⟨t0, t1, t2, t3⟩ := K.ptAt H2.out
            have tl := (K.rowLt 0 rfl).1
            unfold aggP
            exact StepV.val 122 (by kernel_rfl) (by go_simp) rfl (by simp [Act.put]) rfl rfl hJ
          refine ⟨StepS.of [] (by kernel_rfl) ?_, ?_⟩
          · intro L vs wq hL hA hC hJ
            unfold forAll
            exact StepV.val 123 (by kernel_rfl) (by kernel_rfl) rfl (by simp) rfl rfl hJ
          refine ⟨StepS.of [] (by kernel_rfl) ?_, ?_⟩
          · intro L vs wq hL hA hC hJ
            unfold forAll
            exact StepV.val 124 (by kernel_rfl) (by kernel_rfl) rfl (by simp) rfl rfl hJ
          refine ⟨StepS.of [123, 124] (by kernel_rfl) ?_, ?_⟩
          · intro L vs wq hL hA hC hJ h123 h124
            rw [(show vs 123 = .slice (some ⟨g, 0, none⟩) n c from h123), (show vs 124 = .int .i64 (k : Nat) from h124)]
            unfold forAll
            exact StepV.val 125 (by kernel_rfl) (by go_simp) rfl (by simp [Act.put]) rfl rfl hJ
          refine ⟨StepS.of [125] (by kernel_rfl) ?_, ?_⟩
          · intro L vs wq hL hA hC hJ h125
            rw [(show vs 125 = .pointer (some ⟨g, k * 4, none⟩) from h125)]
            unfold forAll
            have q1 := hC.no (j := 15) (i := 13) (by kernel_rfl) hL
            have q2 := hC.no (j := 17) (i := 13) (by kernel_rfl) hL
            have K := Own.cast (qs := dat g n c l2 :: ps) hJ (by simp [q1, q2])
            obtain ⟨t0, t1, t2, t3⟩ := K.ptAt H1.out
            have tl := (K.rowLt 0 rfl).1
            unfold aggP
            exact StepV.val 126 (by kernel_rfl) (by go_simp) rfl (by simp [Act.put]) rfl rfl hJ
          refine ⟨StepS.of [113, 114] (by kernel_rfl) ?_, ?_⟩
          · intro L vs wq hL hA hC hJ h113 h114
            rw [(show vs 113 = .slice (some ⟨g, 0, none⟩) n c from h113), (show vs 114 = .int .i64 (k : Nat) from h114)]
            unfold forAll
            exact StepV.val 127 (by kernel_rfl) (by go_simp) rfl (by simp [Act.put]) rfl rfl hJ
          refine ⟨StepS.of [127, 122] (by kernel_rfl) ?_, ?_⟩
          · intro L vs wq hL hA hC hJ h127 h122
            rw [(show vs 127 = .pointer (some ⟨g, k * 4, none⟩) from h127), (show vs 122 = aggP z from h122)]
            unfold forAll
            unfold aggP
            cases q : L 17
            · have K := Own.cast (qs := dat g n c l2 :: ps) hJ (by simp [hL, q])
              have tl := (K.rowLt 0 rfl).1; have tf := (K.rowLt 0 rfl).2
              obtain ⟨t0, t1, t2, t3⟩ := K.ptAt H1.out
              exact StepV.skip (by kernel_rfl) (by go_simp) rfl rfl ((K.setPt k (by rw [HLL.out]; omega) z).cast (by simp [upd, q]))
            · have K := Own.cast (qs := dat g n c (l2.set k1 y) :: ps) hJ (by simp [hL, q])
              have tl := (K.rowLt 0 rfl).1; have tf := (K.rowLt 0 rfl).2
              have hq := H1.out
              obtain ⟨t0, t1, t2, t3⟩ := K.ptAt (k := k) (by rw [List.getElem?_set_ne (by omega)]; exact hq)
              exact StepV.skip (by kernel_rfl) (by go_simp) rfl rfl ((K.setPt k (by rw [List.length_set, HLL.out]; omega) z).cast (by simp [upd, q, List.set_comm _ _ (show k1 ≠ k by omega)]))
          refine ⟨StepS.of [115, 117] (by kernel_rfl) ?_, ?_⟩
          · intro L vs wq hL hA hC hJ h115 h117
            rw [(show vs 115 = .slice (some ⟨g, 0, none⟩) n c from h115), (show vs 117 = .int .i64 (k1 : Nat) from h117)]
            unfold forAll
            exact StepV.val 128 (by kernel_rfl) (by go_simp) rfl (by simp [Act.put]) rfl rfl hJ
          refine ⟨StepS.of [128, 126] (by kernel_rfl) ?_, ?_⟩
          · intro L vs wq hL hA hC hJ h128 h126
            rw [(show vs 128 = .pointer (some ⟨g, k1 * 4, none⟩) from h128), (show vs 126 = aggP y from h126)]
            unfold forAll
            unfold aggP
            cases q : L 15
            · have K := Own.cast (qs := dat g n c l2 :: ps) hJ (by simp [hL, q])
              have tl := (K.rowLt 0 rfl).1; have tf := (K.rowLt 0 rfl).2
              obtain ⟨t0, t1, t2, t3⟩ := K.ptAt H2.out
              exact StepV.skip (by kernel_rfl) (by go_simp) rfl rfl ((K.setPt k1 (by rw [HLL.out]; omega) y).cast (by simp [upd, q]))
            · have K := Own.cast (qs := dat g n c (l2.set k z) :: ps) hJ (by simp [hL, q])
              have tl := (K.rowLt 0 rfl).1; have tf := (K.rowLt 0 rfl).2
              have hq := H2.out
              obtain ⟨t0, t1, t2, t3⟩ := K.ptAt (k := k1) (by rw [List.getElem?_set_ne (by omega)]; exact hq)
              exact StepV.skip (by kernel_rfl) (by go_simp) rfl rfl ((K.setPt k1 (by rw [List.length_set, HLL.out]; omega) y).cast (by simp [upd, q]))
          exact trivial
        · intro vs w9 hJ h113 h114 h115 h116 h117 h118 h119 h120 h121 h122 h123 h124 h125 h126 h127 h128
          have S9 := Lib.hid (show Own w0 w9 (dat g n c ((l2.set k z).set k1 y) :: ps) from hJ)
          rw [(show vs 113 = .slice (some ⟨g, 0, none⟩) n c from h113), (show vs 114 = .int .i64 (k : Nat) from h114), (show vs 115 = .slice (some ⟨g, 0, none⟩) n c from h115), (show vs 116 = .int .i64 (k : Nat) from h116), (show vs 117 = .int .i64 (k1 : Nat) from h117), (show vs 118 = .slice (some ⟨g, 0, none⟩) n c from h118), (show vs 119 = .int .i64 (k : Nat) from h119), (show vs 120 = .int .i64 (k1 : Nat) from h120), (show vs 121 = .pointer (some ⟨g, k1 * 4, none⟩) from h121), (show vs 122 = aggP z from h122), (show vs 123 = .slice (some ⟨g, 0, none⟩) n c from h123), (show vs 124 = .int .i64 (k : Nat) from h124), (show vs 125 = .pointer (some ⟨g, k * 4, none⟩) from h125), (show vs 126 = aggP y from h126), (show vs 127 = .pointer (some ⟨g, k * 4, none⟩) from h127), (show vs 128 = .pointer (some ⟨g, k1 * 4, none⟩) from h128)]
          clear h113 h114 h115 h116 h117 h118 h119 h120 h121 h122 h123 h124 h125 h126 h127 h128
          clear hJ
          unfold forAll
          simp only [Act.put, List.setIfInBounds_toArray, List.set_cons_zero, List.set_cons_succ]
          rw [E3.out] at S9
          go_wp2_with fail
          go_roundg (gk - 1)
          case measure => have := J1.out; have := HG.out; omega
          case rel => exact ⟨k1, by have := HG.out; omega, by rfl, by have := J1.out; have := HG.out; omega, Z1', z :: Z2, HG.out.1, HG.out.2.1, S9.out⟩
end Go.Proofs.Ytnalbchggjepdaa
