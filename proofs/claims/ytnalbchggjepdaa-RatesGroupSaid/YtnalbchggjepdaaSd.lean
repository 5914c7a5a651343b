/- Merging where one part has one element. No condition. -/
import Derived.Test.YtnalbchggjepdaaSc
namespace Go.Proofs.Ytnalbchggjepdaa
open Go.RowKit Go.Shelf
attribute [local go_sem] Oper.semAt_some

theorem mergeA {α : Type} {lt : α → α → Bool} (hs : Swo lt) {x : α} {Y1 Y2 : List α} (hY : Srt lt (Y1 ++ Y2)) (h1 : ∀ y ∈ Y1.getLast?, lt y x = true) (h2 : ∀ y ∈ Y2.head?, lt y x = false) :
    Srt lt (Y1 ++ x :: Y2) ∧ Stb lt (x :: (Y1 ++ Y2)) (Y1 ++ x :: Y2) := by
  have k := List.pairwise_append.1 hY
  have := merge_split hs (X1 := []) (X2 := [x]) (Y1 := Y1) (Y2 := Y2) (S1 := Y1) (S2 := x :: Y2) (List.pairwise_singleton _ _) hY
    (fun z hz y hy => by simp at hz; subst hz; exact h1 y hy) (fun z hz => by simp at hz) k.1
    (List.pairwise_cons.2 ⟨fun y hy => by obtain ⟨z, hz⟩ := head_of hy; exact hs.le_trans (h2 z hz) (srt_head hs k.2.1 hz hy), k.2.1⟩) (Stb.refl _) (Stb.refl _)
  exact this
theorem mergeB {α : Type} {lt : α → α → Bool} (hs : Swo lt) {y : α} {X1 X2 : List α} (hX : Srt lt (X1 ++ X2)) (h1 : ∀ x ∈ X1.getLast?, lt y x = false) (h2 : ∀ x ∈ X2.head?, lt y x = true) :
    Srt lt (X1 ++ y :: X2) ∧ Stb lt ((X1 ++ X2) ++ [y]) (X1 ++ y :: X2) := by
  have k := List.pairwise_append.1 hX
  have h3 : ∀ x ∈ X2, lt y x = true := fun x hx => by obtain ⟨z, hz⟩ := head_of hx; exact hs.lt_le (h2 z hz) (srt_head hs k.2.1 hz hx)
  exact ⟨ins_back hs hX h3 h1, ins_back_stb hs h3⟩
theorem last_at {α : Type} (A : List α) (z : α) (h : z ∈ A.getLast?) : 0 < A.length ∧ A[A.length - 1]? = some z := by
  rw [List.getLast?_eq_getElem?] at h
  have h : A[A.length - 1]? = some z := h
  refine ⟨?_, h⟩
  have := (List.getElem?_eq_some_iff.1 h).1
  omega
set_option maxRecDepth 100000 in
set_option maxHeartbeats 4000000 in
theorem symA_any (w0 : World) (ps : List Piece) (g n c : Nat) (P : List Pt) (x : Pt) (Y Q : List Pt) (W : World) (hO : Own w0 W (dat g n c (P ++ [x] ++ Y ++ Q) :: ps)) (a m b : Nat)
    (ha : P.length = a) (hm : a + 1 = m) (hb : m + Y.length = b) (hn : (P ++ [x] ++ Y ++ Q).length = n) (hn2 : n ≤ 1000000) (hY : Srt ltP Y) :
    Calls Try.prog 95 #[.slice (some ⟨g, 0, none⟩) n c, .int .i64 (a : Nat), .int .i64 (m : Nat), .int .i64 (b : Nat), .func (.func 71) #[] #[]] W fun e w' => e = .returned (.tuple #[]) ∧ ∃ S', Srt ltP S' ∧ Stb ltP ([x] ++ Y) S' ∧ Own w0 w' (dat g n c (P ++ S' ++ Q) :: ps) := by
  have HA := Lib.hid ha
  have HY := Lib.hid hY
  have HB := Lib.hid hb
  obtain ⟨l, hl⟩ : ∃ l, l = P ++ [x] ++ Y ++ Q := ⟨_, rfl⟩
  rw [← hl] at hO hn
  have HL := Lib.hid hl
  have HN := Lib.hid hn
  have S0 := Lib.hid hO
  have HXA := Lib.hid (show l[a]? = some x by rw [hl, ← ha, List.append_assoc, List.append_assoc]; exact at_one _ _ _)
  have HAT := Lib.hid (fun (h : Nat) (h1 : m ≤ h) (h2 : h < b) => (show l[h]? = Y[h - m]? by
    rw [hl, List.append_assoc (P ++ [x]), List.getElem?_append_right (by simp; omega), List.getElem?_append_left (by simp; omega)]
    congr 1; simp; omega))
  have bd : m = a + 1 ∧ m ≤ b ∧ b ≤ n := by rw [hl] at hn; simp at hn; omega
  have z0 : IntKind.i64.wrap ((m : Int) - (a : Int)) = 1 := by rw [show (m : Int) - (a : Int) = 1 by omega]; exact IntWalk.i64_in _ (by omega)
  have bb : a < m ∧ m ≤ b ∧ b ≤ n ∧ a < n ∧ b ≤ 1000000 := by omega
  have HM := Lib.hid hm
  clear ha hm hb hn hl hO hY bd
  go_enter Try.func95, Try.ntmps95
  go_wp2_with fail
  go_loopg [10, 11, 12] (b - m) (fun q u10 u11 u12 wr => ∃ i j : Nat, (m ≤ i ∧ i ≤ j ∧ j ≤ b) ∧ u10 = .int .i64 (i : Nat) ∧ u11 = .int .i64 (j : Nat) ∧ Hid (j - i ≤ q ∧ (m < i → ∃ y, Y[i - 1 - m]? = some y ∧ ltP y x = true) ∧ (j < b → ∃ y, Y[j - m]? = some y ∧ ltP y x = false) ∧ Own w0 wr (dat g n c l :: ps)))
  case atStart => exact ⟨m, b, by omega, rfl, rfl, by omega, by omega, by omega, S0.out⟩
  case round =>
    obtain ⟨i, j, ⟨hmi, hij, hjb⟩, rfl, rfl, hI⟩ := hrel
    have I1 := Lib.hid hI.out.1
    have I2 := Lib.hid hI.out.2.1
    have I3 := Lib.hid hI.out.2.2.1
    have I4 := Lib.hid hI.out.2.2.2
    clear hI S0
    by_cases hlt : i < j
    · obtain ⟨s, hs⟩ : ∃ s, s = i + j := ⟨_, rfl⟩
      obtain ⟨h, hh⟩ : ∃ h, h = s / 2 := ⟨_, rfl⟩
      have hix : (i : Int) < (j : Int) := by omega
      have z1 : IntKind.i64.wrap ((i : Int) + (j : Int)) = (s : Int) := by rw [show (i : Int) + (j : Int) = (s : Int) by omega]; exact IntWalk.i64_in _ (by omega)
      have z2 : IntKind.u64.wrap (s : Int) = (s : Int) := IntWalk.u64_in _ (by omega)
      have z3 : (s : Int) / 2 = (h : Int) := by omega
      have z4 : IntKind.i64.wrap (h : Int) = (h : Int) := IntWalk.i64_in _ (by omega)
      have bh : i ≤ h ∧ h < j ∧ h < n := by omega
      clear hs hh
      obtain ⟨y, hy⟩ : ∃ y, Y[h - m]? = some y := ⟨_, List.getElem?_eq_getElem (by have := HB.out; omega)⟩
      have HYH := Lib.hid (show l[h]? = some y by rw [HAT.out h (by omega) (by omega)]; exact hy)
      replace hy := Lib.hid hy
      as_aux_lemma =>
      go_upto_region 5 with fail
      refine wp_region_table 220 [(40, .is (.func (.func 71) #[] #[])), (41, .is (.slice (some ⟨g, 0, none⟩) n c)), (42, .is (.int .i64 (h : Nat))), (43, .is (.pointer (some ⟨g, h * 4, none⟩))), (44, .is (aggP y)), (45, .is (.slice (some ⟨g, 0, none⟩) n c)), (46, .is (.int .i64 (a : Nat))), (47, .is (.pointer (some ⟨g, a * 4, none⟩))), (48, .is (aggP x)), (49, .is (.int .i64 (cf y x))), (50, .is (.bool (ltP y x)))] (I4.out) (by kernel_rfl) (by kernel_rfl) [40, 41, 42, 43, 44, 45, 46, 47, 48, 49, 50] (by kernel_rfl) rfl (by kernel_rfl) ?_ ?_
      · refine ⟨StepT.of [] (by kernel_rfl) ?_, ?_⟩
        · intro v hO
          exact StepG.val 40 (by kernel_rfl) (by kernel_rfl) rfl (by simp) rfl (Below.refl _ _) rfl
        refine ⟨StepT.of [] (by kernel_rfl) ?_, ?_⟩
        · intro v hO
          exact StepG.val 41 (by kernel_rfl) (by kernel_rfl) rfl (by simp) rfl (Below.refl _ _) rfl
        refine ⟨StepT.of [] (by kernel_rfl) ?_, ?_⟩
        · intro v hO
          exact StepG.val 42 (by kernel_rfl) (by kernel_rfl) rfl (by simp) rfl (Below.refl _ _) rfl
        refine ⟨StepT.of [41, 42] (by kernel_rfl) ?_, ?_⟩
        · intro v hO x41 h41 x42 h42
          obtain rfl : x41 = (.slice (some ⟨g, 0, none⟩) n c) := h41
          obtain rfl : x42 = (.int .i64 (h : Nat)) := h42
          exact StepG.val 43 (by kernel_rfl) (by go_simp) rfl (by simp [Act.put]) rfl (Below.refl _ _) rfl
        refine ⟨StepT.of [43] (by kernel_rfl) ?_, ?_⟩
        · intro v hO x43 h43
          obtain rfl : x43 = (.pointer (some ⟨g, h * 4, none⟩)) := h43
          obtain ⟨t0, t1, t2, t3⟩ := hO.ptAt HYH.out
          have tl := (hO.rowLt 0 rfl).1
          unfold aggP
          exact StepG.val 44 (by kernel_rfl) (by go_simp) rfl (by simp [Act.put]) rfl (Below.refl _ _) rfl
        refine ⟨StepT.of [] (by kernel_rfl) ?_, ?_⟩
        · intro v hO
          exact StepG.val 45 (by kernel_rfl) (by kernel_rfl) rfl (by simp) rfl (Below.refl _ _) rfl
        refine ⟨StepT.of [] (by kernel_rfl) ?_, ?_⟩
        · intro v hO
          exact StepG.val 46 (by kernel_rfl) (by kernel_rfl) rfl (by simp) rfl (Below.refl _ _) rfl
        refine ⟨StepT.of [45, 46] (by kernel_rfl) ?_, ?_⟩
        · intro v hO x45 h45 x46 h46
          obtain rfl : x45 = (.slice (some ⟨g, 0, none⟩) n c) := h45
          obtain rfl : x46 = (.int .i64 (a : Nat)) := h46
          exact StepG.val 47 (by kernel_rfl) (by go_simp) rfl (by simp [Act.put]) rfl (Below.refl _ _) rfl
        refine ⟨StepT.of [47] (by kernel_rfl) ?_, ?_⟩
        · intro v hO x47 h47
          obtain rfl : x47 = (.pointer (some ⟨g, a * 4, none⟩)) := h47
          obtain ⟨t0, t1, t2, t3⟩ := hO.ptAt HXA.out
          have tl := (hO.rowLt 0 rfl).1
          unfold aggP
          exact StepG.val 48 (by kernel_rfl) (by go_simp) rfl (by simp [Act.put]) rfl (Below.refl _ _) rfl
        refine ⟨StepT.of [40, 44, 48] (by kernel_rfl) ?_, ?_⟩
        · intro v hO x40 h40 x44 h44 x48 h48
          obtain rfl : x40 = (.func (.func 71) #[] #[]) := h40
          obtain rfl : x44 = (aggP y) := h44
          obtain rfl : x48 = (aggP x) := h48
          refine StepG.call 49 (by kernel_rfl) (by kernel_rfl) rfl (by simp [Act.put]) rfl ((cmp_any y x v).mono ?_)
          rintro e w2 ⟨rfl, hb2⟩
          exact ⟨_, rfl, hb2, rfl⟩
        refine ⟨StepT.of [49] (by kernel_rfl) ?_, ?_⟩
        · intro v hO x49 h49
          obtain rfl : x49 = (.int .i64 (cf y x)) := h49
          exact StepG.val 50 (by kernel_rfl) (by kernel_rfl) rfl (by simp [Act.put]) rfl (Below.refl _ _) rfl
        exact trivial
      · intro v hO x40 h40 x41 h41 x42 h42 x43 h43 x44 h44 x45 h45 x46 h46 x47 h47 x48 h48 x49 h49 x50 h50
        obtain rfl : x40 = (.func (.func 71) #[] #[]) := h40
        obtain rfl : x41 = (.slice (some ⟨g, 0, none⟩) n c) := h41
        obtain rfl : x42 = (.int .i64 (h : Nat)) := h42
        obtain rfl : x43 = (.pointer (some ⟨g, h * 4, none⟩)) := h43
        obtain rfl : x44 = (aggP y) := h44
        obtain rfl : x45 = (.slice (some ⟨g, 0, none⟩) n c) := h45
        obtain rfl : x46 = (.int .i64 (a : Nat)) := h46
        obtain rfl : x47 = (.pointer (some ⟨g, a * 4, none⟩)) := h47
        obtain rfl : x48 = (aggP x) := h48
        obtain rfl : x49 = (.int .i64 (cf y x)) := h49
        obtain rfl : x50 = (.bool (ltP y x)) := h50
        have S5 := Lib.hid hO
        simp only [stepFor, Act.put, List.setIfInBounds_toArray, List.set_cons_zero, List.set_cons_succ]
        clear hO I4
        have hq := Lib.hid (show ltP y x = ltP y x from rfl)
        cases hv : ltP y x
        · as_aux_lemma =>
          replace hv := Lib.hid hv
          go_wp2_with fail
          go_roundg (h - i)
          case measure => have := I1.out; omega
          case rel => exact ⟨i, h, by omega, rfl, rfl, Nat.le_refl _, I2.out, fun _ => ⟨y, hy.out, hv.out⟩, S5.out⟩
        · as_aux_lemma =>
          replace hv := Lib.hid hv
          go_wp2_with fail
          go_roundg (j - (h + 1))
          case measure => have := I1.out; omega
          case rel => exact ⟨h + 1, j, by omega, by go_num, rfl, Nat.le_refl _, fun _ => ⟨y, by rw [show h + 1 - 1 - m = h - m by omega]; exact hy.out, hv.out⟩, I3.out, S5.out⟩
    · obtain rfl : i = j := by omega
      have hni : ¬ (i : Int) < (i : Int) := by omega
      obtain ⟨Y1, hY1⟩ : ∃ Z, Z = Y.take (i - m) := ⟨_, rfl⟩
      obtain ⟨Y2, hY2⟩ : ∃ Z, Z = Y.drop (i - m) := ⟨_, rfl⟩
      have hYY : Y = Y1 ++ Y2 := by rw [hY1, hY2]; exact (List.take_append_drop _ _).symm
      have l1 : Y1.length = i - m := by rw [hY1, List.length_take]; have := HB.out; omega
      have MA := Lib.hid (mergeA swoP (x := x) (Y1 := Y1) (Y2 := Y2) (by rw [← hYY]; exact HY.out)
        (fun y hy => by
          obtain ⟨p0, p1⟩ := last_at _ _ hy
          obtain ⟨z, z1, z2⟩ := I2.out (by omega)
          rw [hYY, List.getElem?_append_left (by omega), show i - 1 - m = Y1.length - 1 by omega, p1] at z1
          injection z1 with z1; rw [z1]; exact z2)
        (fun y hy => by
          have hy : Y2.head? = some y := hy
          rw [hY2, List.head?_drop] at hy
          have := (List.getElem?_eq_some_iff.1 hy).1
          obtain ⟨z, z1, z2⟩ := I3.out (by have := HB.out; omega)
          rw [hy] at z1
          injection z1 with z1; rw [z1]; exact z2))
      rw [← hYY] at MA
      have HE := Lib.hid (show P ++ [x] ++ Y ++ Q = P ++ (x :: Y1) ++ Y2 ++ Q by rw [hYY]; simp)
      have L1 := Lib.hid l1
      obtain ⟨i1, hi1⟩ : ∃ k, k = i - 1 := ⟨_, rfl⟩
      have z5 : IntKind.i64.wrap ((i : Int) - 1) = (i1 : Int) := by rw [show (i : Int) - 1 = (i1 : Int) by omega]; exact IntWalk.i64_in _ (by omega)
      have HI1 := Lib.hid (show i = i1 + 1 ∧ a ≤ i1 ∧ i1 = a + Y1.length by have := HM.out; omega)
      have bi : a ≤ i1 ∧ i1 < n := by omega
      clear hY1 hY2 l1 hi1 I2 I3 hij hlt hYY
      as_aux_lemma =>
      go_wp2_with fail
      go_loopg [13] (i1 - a) (fun q u13 wr => ∃ k : Nat, (a ≤ k ∧ k ≤ i1) ∧ u13 = .int .i64 (k : Nat) ∧ Hid (i1 ≤ k + q ∧ ∃ Z1 Z2, Y1 = Z1 ++ Z2 ∧ a + Z1.length = k ∧ Own w0 wr (dat g n c (P ++ (Z1 ++ x :: Z2) ++ Y2 ++ Q) :: ps)))
      case atStart => exact ⟨a, by omega, rfl, by omega, [], Y1, rfl, rfl, by rw [List.nil_append, ← HE.out, ← HL.out]; exact I4.out⟩
      case round =>
        obtain ⟨k, ⟨hak, hki⟩, rfl, hI⟩ := hrel
        have J1 := Lib.hid hI.out.1
        obtain ⟨Z1, Z2, e1, e2, e3⟩ := hI.out.2
        clear hI I4
        by_cases hlt : k < i1
        case neg => as_aux_lemma =>
          have hni : ¬ (k : Int) < (i1 : Int) := by omega
          have hz : Z2 = [] := List.eq_nil_of_length_eq_zero (by have := HI1.out.2.2; rw [e1, List.length_append] at this; omega)
          have HF := Lib.hid (show Own w0 wr (dat g n c (P ++ (Y1 ++ x :: Y2) ++ Q) :: ps) by
            subst hz
            rw [List.append_nil] at e1
            subst e1
            simpa using e3)
          clear e1 e2 e3 hz
          go_wp2_with fail
          (try simp only [Exit.inBlock, Exit.then])
          refine bodyPost_ret (results_none rfl _ _ _) rfl ?_
          exact ⟨rfl, _, MA.out.1, MA.out.2, by simpa only [List.append_assoc] using HF.out⟩
        have hix : (k : Int) < (i1 : Int) := by omega
        have hz0 : Z2 ≠ [] := fun e => by have := HI1.out.2.2; rw [e1, e, List.append_nil] at this; omega
        obtain ⟨y, Z2', rfl⟩ := List.exists_cons_of_ne_nil hz0
        obtain ⟨l2, hl2⟩ : ∃ l2, l2 = (P ++ Z1) ++ x :: y :: (Z2' ++ Y2 ++ Q) := ⟨_, rfl⟩
        have hpl : (P ++ Z1).length = k := by rw [List.length_append, HA.out]; exact e2
        have E1 : P ++ (Z1 ++ x :: y :: Z2') ++ Y2 ++ Q = l2 := by rw [hl2]; simp
        obtain ⟨k1, hk1⟩ : ∃ k1, k1 = k + 1 := ⟨_, rfl⟩
        have H1 := Lib.hid (show l2[k]? = some x by rw [hl2, ← hpl]; exact at_one _ _ _)
        have H2 := Lib.hid (show l2[k1]? = some y by rw [hl2, hk1, ← hpl]; exact at_two _ _ _ _)
        have E3 := Lib.hid (show (l2.set k y).set k1 x = P ++ ((Z1 ++ [y]) ++ x :: Z2') ++ Y2 ++ Q by
          rw [hl2, hk1, ← hpl]
          have := two_set (P ++ Z1) x [] y (Z2' ++ Y2 ++ Q)
          simp only [List.nil_append, List.length_nil, Nat.add_zero] at this
          rw [this]; simp)
        have HLL := Lib.hid (show l2.length = n by
          rw [← E1, ← HN.out, HL.out, HE.out, e1]; simp; omega)
        rw [E1] at e3
        have S4 := Lib.hid e3
        have z6 : IntKind.i64.wrap ((k : Int) + 1) = (k1 : Int) := by rw [show (k : Int) + 1 = (k1 : Int) by omega]; exact IntWalk.i64_in _ (by omega)
        have bk : k < n ∧ k1 < n ∧ k ≠ k1 := by omega
        have HG := Lib.hid (show Y1 = (Z1 ++ [y]) ++ Z2' ∧ a + (Z1 ++ [y]).length = k1 ∧ k1 = k + 1 ∧ k1 ≤ i1 by
          refine ⟨by rw [e1]; simp, by simp; omega, hk1, by omega⟩)
        clear e1 e2 e3 hz0 hpl hl2 hk1 E1 hlt
        as_aux_lemma =>
        go_upto_region 11 with fail
        refine wp_region_state 220 [(61, .slice (some ⟨g, 0, none⟩) n c), (62, .int .i64 (k : Nat)), (63, .slice (some ⟨g, 0, none⟩) n c), (64, .int .i64 (k : Nat)), (65, .int .i64 (k1 : Nat)), (66, .slice (some ⟨g, 0, none⟩) n c), (67, .int .i64 (k : Nat)), (68, .int .i64 (k1 : Nat)), (69, .pointer (some ⟨g, k1 * 4, none⟩)), (70, aggP y), (71, .slice (some ⟨g, 0, none⟩) n c), (72, .int .i64 (k : Nat)), (73, .pointer (some ⟨g, k * 4, none⟩)), (74, aggP x), (75, .pointer (some ⟨g, k * 4, none⟩)), (76, .pointer (some ⟨g, k1 * 4, none⟩))] (fun L vs w' => Own w0 w' (dat g n c (cond (L 15) (cond (L 17) ((l2.set k y).set k1 x) (l2.set k y)) (cond (L 17) (l2.set k1 x) l2)) :: ps)) (by kernel_rfl) (by kernel_rfl) [61, 62, 63, 64, 65, 66, 67, 68, 69, 70, 71, 72, 73, 74, 75, 76] (by kernel_rfl) rfl (by kernel_rfl) 18 rfl ?_ ?_ ?_
        · exact fun L hL => (S4.out.ext (Below.refl _ _).drew).cast (by simp [hL 15 (by decide), hL 17 (by decide)])
        · refine ⟨StepS.of [] (by kernel_rfl) ?_, ?_⟩
          · intro L vs wq hL hA hC hJ
            unfold forAll
            exact StepV.val 61 (by kernel_rfl) (by kernel_rfl) rfl (by simp) rfl rfl hJ
          refine ⟨StepS.of [] (by kernel_rfl) ?_, ?_⟩
          · intro L vs wq hL hA hC hJ
            unfold forAll
            exact StepV.val 62 (by kernel_rfl) (by kernel_rfl) rfl (by simp) rfl rfl hJ
          refine ⟨StepS.of [] (by kernel_rfl) ?_, ?_⟩
          · intro L vs wq hL hA hC hJ
            unfold forAll
            exact StepV.val 63 (by kernel_rfl) (by kernel_rfl) rfl (by simp) rfl rfl hJ
          refine ⟨StepS.of [] (by kernel_rfl) ?_, ?_⟩
          · intro L vs wq hL hA hC hJ
            unfold forAll
            exact StepV.val 64 (by kernel_rfl) (by kernel_rfl) rfl (by simp) rfl rfl hJ
          refine ⟨StepS.of [64] (by kernel_rfl) ?_, ?_⟩
          · intro L vs wq hL hA hC hJ h64
            rw [(show vs 64 = .int .i64 (k : Nat) from h64)]
            unfold forAll
            exact StepV.val 65 (by kernel_rfl) (by go_simp) rfl (by simp [Act.put]) rfl rfl hJ
          refine ⟨StepS.of [] (by kernel_rfl) ?_, ?_⟩
          · intro L vs wq hL hA hC hJ
            unfold forAll
            exact StepV.val 66 (by kernel_rfl) (by kernel_rfl) rfl (by simp) rfl rfl hJ
          refine ⟨StepS.of [] (by kernel_rfl) ?_, ?_⟩
          · intro L vs wq hL hA hC hJ
            unfold forAll
            exact StepV.val 67 (by kernel_rfl) (by kernel_rfl) rfl (by simp) rfl rfl hJ
          refine ⟨StepS.of [67] (by kernel_rfl) ?_, ?_⟩
          · intro L vs wq hL hA hC hJ h67
            rw [(show vs 67 = .int .i64 (k : Nat) from h67)]
            unfold forAll
            exact StepV.val 68 (by kernel_rfl) (by go_simp) rfl (by simp [Act.put]) rfl rfl hJ
          refine ⟨StepS.of [66, 68] (by kernel_rfl) ?_, ?_⟩
          · intro L vs wq hL hA hC hJ h66 h68
            rw [(show vs 66 = .slice (some ⟨g, 0, none⟩) n c from h66), (show vs 68 = .int .i64 (k1 : Nat) from h68)]
            unfold forAll
            exact StepV.val 69 (by kernel_rfl) (by go_simp) rfl (by simp [Act.put]) rfl rfl hJ
          refine ⟨StepS.of [69] (by kernel_rfl) ?_, ?_⟩
          · intro L vs wq hL hA hC hJ h69
            rw [(show vs 69 = .pointer (some ⟨g, k1 * 4, none⟩) from h69)]
            unfold forAll
            have q1 := hC.no (j := 15) (i := 9) (by kernel_rfl) hL
            have q2 := hC.no (j := 17) (i := 9) (by kernel_rfl) hL
            have K := Own.cast (qs := dat g n c l2 :: ps) hJ (by simp [q1, q2])
            obtain ⟨t0, t1, t2, t3⟩ := K.ptAt H2.out
            have tl := (K.rowLt 0 rfl).1
            unfold aggP
            exact StepV.val 70 (by kernel_rfl) (by go_simp) rfl (by simp [Act.put]) rfl rfl hJ
          refine ⟨StepS.of [] (by kernel_rfl) ?_, ?_⟩
          · intro L vs wq hL hA hC hJ
            unfold forAll
            exact StepV.val 71 (by kernel_rfl) (by kernel_rfl) rfl (by simp) rfl rfl hJ
          refine ⟨StepS.of [] (by kernel_rfl) ?_, ?_⟩
          · intro L vs wq hL hA hC hJ
            unfold forAll
            exact StepV.val 72 (by kernel_rfl) (by kernel_rfl) rfl (by simp) rfl rfl hJ
          refine ⟨StepS.of [71, 72] (by kernel_rfl) ?_, ?_⟩
          · intro L vs wq hL hA hC hJ h71 h72
            rw [(show vs 71 = .slice (some ⟨g, 0, none⟩) n c from h71), (show vs 72 = .int .i64 (k : Nat) from h72)]
            unfold forAll
            exact StepV.val 73 (by kernel_rfl) (by go_simp) rfl (by simp [Act.put]) rfl rfl hJ
          refine ⟨StepS.of [73] (by kernel_rfl) ?_, ?_⟩
          · intro L vs wq hL hA hC hJ h73
            rw [(show vs 73 = .pointer (some ⟨g, k * 4, none⟩) from h73)]
            unfold forAll
            have q1 := hC.no (j := 15) (i := 13) (by kernel_rfl) hL
            have q2 := hC.no (j := 17) (i := 13) (by kernel_rfl) hL
            have K := Own.cast (qs := dat g n c l2 :: ps) hJ (by simp [q1, q2])
            obtain ⟨t0, t1, t2, t3⟩ := K.ptAt H1.out
            have tl := (K.rowLt 0 rfl).1
            unfold aggP
            exact StepV.val 74 (by kernel_rfl) (by go_simp) rfl (by simp [Act.put]) rfl rfl hJ
          refine ⟨StepS.of [61, 62] (by kernel_rfl) ?_, ?_⟩
          · intro L vs wq hL hA hC hJ h61 h62
            rw [(show vs 61 = .slice (some ⟨g, 0, none⟩) n c from h61), (show vs 62 = .int .i64 (k : Nat) from h62)]
            unfold forAll
            exact StepV.val 75 (by kernel_rfl) (by go_simp) rfl (by simp [Act.put]) rfl rfl hJ
          refine ⟨StepS.of [75, 70] (by kernel_rfl) ?_, ?_⟩
          · intro L vs wq hL hA hC hJ h75 h70
            rw [(show vs 75 = .pointer (some ⟨g, k * 4, none⟩) from h75), (show vs 70 = aggP y from h70)]
            unfold forAll
            unfold aggP
            cases q : L 17
            · have K := Own.cast (qs := dat g n c l2 :: ps) hJ (by simp [hL, q])
              have tl := (K.rowLt 0 rfl).1; have tf := (K.rowLt 0 rfl).2
              obtain ⟨t0, t1, t2, t3⟩ := K.ptAt H1.out
              exact StepV.skip (by kernel_rfl) (by go_simp) rfl rfl ((K.setPt k (by rw [HLL.out]; omega) y).cast (by simp [upd, q]))
            · have K := Own.cast (qs := dat g n c (l2.set k1 x) :: ps) hJ (by simp [hL, q])
              have tl := (K.rowLt 0 rfl).1; have tf := (K.rowLt 0 rfl).2
              have hq := H1.out
              obtain ⟨t0, t1, t2, t3⟩ := K.ptAt (k := k) (by rw [List.getElem?_set_ne (by omega)]; exact hq)
              exact StepV.skip (by kernel_rfl) (by go_simp) rfl rfl ((K.setPt k (by rw [List.length_set, HLL.out]; omega) y).cast (by simp [upd, q, List.set_comm _ _ (show k1 ≠ k by omega)]))
          refine ⟨StepS.of [63, 65] (by kernel_rfl) ?_, ?_⟩
          · intro L vs wq hL hA hC hJ h63 h65
            rw [(show vs 63 = .slice (some ⟨g, 0, none⟩) n c from h63), (show vs 65 = .int .i64 (k1 : Nat) from h65)]
            unfold forAll
            exact StepV.val 76 (by kernel_rfl) (by go_simp) rfl (by simp [Act.put]) rfl rfl hJ
          refine ⟨StepS.of [76, 74] (by kernel_rfl) ?_, ?_⟩
          · intro L vs wq hL hA hC hJ h76 h74
            rw [(show vs 76 = .pointer (some ⟨g, k1 * 4, none⟩) from h76), (show vs 74 = aggP x from h74)]
            unfold forAll
            unfold aggP
            cases q : L 15
            · have K := Own.cast (qs := dat g n c l2 :: ps) hJ (by simp [hL, q])
              have tl := (K.rowLt 0 rfl).1; have tf := (K.rowLt 0 rfl).2
              obtain ⟨t0, t1, t2, t3⟩ := K.ptAt H2.out
              exact StepV.skip (by kernel_rfl) (by go_simp) rfl rfl ((K.setPt k1 (by rw [HLL.out]; omega) x).cast (by simp [upd, q]))
            · have K := Own.cast (qs := dat g n c (l2.set k y) :: ps) hJ (by simp [hL, q])
              have tl := (K.rowLt 0 rfl).1; have tf := (K.rowLt 0 rfl).2
              have hq := H2.out
              obtain ⟨t0, t1, t2, t3⟩ := K.ptAt (k := k1) (by rw [List.getElem?_set_ne (by omega)]; exact hq)
              exact StepV.skip (by kernel_rfl) (by go_simp) rfl rfl ((K.setPt k1 (by rw [List.length_set, HLL.out]; omega) x).cast (by simp [upd, q]))
          exact trivial
        · intro vs w9 hJ h61 h62 h63 h64 h65 h66 h67 h68 h69 h70 h71 h72 h73 h74 h75 h76
          have S9 := Lib.hid (show Own w0 w9 (dat g n c ((l2.set k y).set k1 x) :: ps) from hJ)
          rw [(show vs 61 = .slice (some ⟨g, 0, none⟩) n c from h61), (show vs 62 = .int .i64 (k : Nat) from h62), (show vs 63 = .slice (some ⟨g, 0, none⟩) n c from h63), (show vs 64 = .int .i64 (k : Nat) from h64), (show vs 65 = .int .i64 (k1 : Nat) from h65), (show vs 66 = .slice (some ⟨g, 0, none⟩) n c from h66), (show vs 67 = .int .i64 (k : Nat) from h67), (show vs 68 = .int .i64 (k1 : Nat) from h68), (show vs 69 = .pointer (some ⟨g, k1 * 4, none⟩) from h69), (show vs 70 = aggP y from h70), (show vs 71 = .slice (some ⟨g, 0, none⟩) n c from h71), (show vs 72 = .int .i64 (k : Nat) from h72), (show vs 73 = .pointer (some ⟨g, k * 4, none⟩) from h73), (show vs 74 = aggP x from h74), (show vs 75 = .pointer (some ⟨g, k * 4, none⟩) from h75), (show vs 76 = .pointer (some ⟨g, k1 * 4, none⟩) from h76)]
          clear h61 h62 h63 h64 h65 h66 h67 h68 h69 h70 h71 h72 h73 h74 h75 h76
          clear hJ
          unfold forAll
          simp only [Act.put, List.setIfInBounds_toArray, List.set_cons_zero, List.set_cons_succ]
          rw [E3.out] at S9
          go_wp2_with fail
          go_roundg (gk - 1)
          case measure => have := J1.out; have := HG.out; omega
          case rel => exact ⟨k1, by have := HG.out; omega, by go_num, by have := J1.out; have := HG.out; omega, Z1 ++ [y], Z2', HG.out.1, HG.out.2.1, S9.out⟩
end Go.Proofs.Ytnalbchggjepdaa
