/- Insertion sort of a part of a row of points. No condition. -/
import Derived.Test.YtnalbchggjepdaaSb
namespace Go.Proofs.Ytnalbchggjepdaa
open Go.RowKit Go.Shelf
attribute [local go_sem] Oper.semAt_some

theorem adj_set {α : Type} (A : List α) (y x : α) (D : List α) : ((A ++ y :: x :: D).set (A.length + 1) y).set A.length x = A ++ x :: y :: D := by
  rw [List.set_comm _ _ (by omega)]
  exact two_set A y [] x D
theorem at_one {α : Type} (A : List α) (y : α) (D : List α) : (A ++ y :: D)[A.length]? = some y := by
  rw [List.getElem?_append_right (Nat.le_refl _), Nat.sub_self]; rfl
theorem at_two {α : Type} (A : List α) (y x : α) (D : List α) : (A ++ y :: x :: D)[A.length + 1]? = some x := by
  rw [List.getElem?_append_right (by omega), show A.length + 1 - A.length = 1 by omega]; rfl
set_option maxRecDepth 100000 in
set_option maxHeartbeats 4000000 in
theorem insertion_any (w0 : World) (ps : List Piece) (g n c : Nat) (P S Q : List Pt) (W : World) (hO : Own w0 W (dat g n c (P ++ S ++ Q) :: ps)) (a b : Nat)
    (ha : P.length = a) (hb : P.length + S.length = b) (hn : (P ++ S ++ Q).length = n) (hn2 : n ≤ 1000000) :
    Calls Try.prog 94 #[.slice (some ⟨g, 0, none⟩) n c, .int .i64 (a : Nat), .int .i64 (b : Nat), .func (.func 71) #[] #[]] W fun e w' => e = .returned (.tuple #[]) ∧ ∃ S', Srt ltP S' ∧ Stb ltP S S' ∧ Own w0 w' (dat g n c (P ++ S' ++ Q) :: ps) := by
  have HA := Lib.hid ha
  have HN := Lib.hid hn
  have HSB := Lib.hid (show a + S.length = b by omega)
  have bd : a ≤ b ∧ b ≤ n := by simp only [List.length_append] at hn; omega
  have ba : a ≤ 1000000 ∧ b ≤ 1000000 := by omega
  have ST := Lib.hid (show ∃ B A R, S = B ++ R ∧ Stb ltP B A ∧ Srt ltP A ∧ ((R = [] ∧ b ≤ a + 1) ∨ a + A.length = a + 1) ∧ Own w0 W (dat g n c (P ++ A ++ R ++ Q) :: ps) by
    cases S with
    | nil => exact ⟨[], [], [], rfl, Stb.refl _, List.Pairwise.nil, .inl ⟨rfl, by simp at hb; omega⟩, by simpa using hO⟩
    | cons s S => exact ⟨[s], [s], S, rfl, Stb.refl _, List.pairwise_singleton _ _, .inr rfl, by simpa using hO⟩)
  clear ha hb hn hO
  go_enter Try.func94, Try.ntmps94
  go_wp2_with fail
  go_loopg [8] (b - a) (fun q u8 wr => ∃ i : Nat, (a < i ∧ i ≤ b + 1) ∧ u8 = .int .i64 (i : Nat) ∧ Hid (b ≤ i + q ∧ ∃ B A R, S = B ++ R ∧ Stb ltP B A ∧ Srt ltP A ∧ ((R = [] ∧ b ≤ i) ∨ a + A.length = i) ∧ Own w0 wr (dat g n c (P ++ A ++ R ++ Q) :: ps)))
  case atStart =>
    obtain ⟨B, A, R, h1, h2, h3, h4, h5⟩ := ST.out
    exact ⟨a + 1, by omega, by go_num, by omega, B, A, R, h1, h2, h3, h4, h5⟩
  case round =>
    obtain ⟨i, hi, rfl, hI⟩ := hrel
    have I1 := Lib.hid hI.out.1
    obtain ⟨B, A, R, h1, h2, h3, h4, h5⟩ := hI.out.2
    obtain ⟨G1, rfl⟩ : ∃ G1 : Nat, G1 = gk := ⟨_, rfl⟩
    obtain ⟨wa, rfl⟩ : ∃ wa : World, wa = wr := ⟨_, rfl⟩
    clear ST hI
    have hAl : B.length = A.length := h2.1
    by_cases hlt : i < b
    case neg => as_aux_lemma =>
      have hni : ¬ (i : Int) < (b : Int) := by omega
      have hR : R = [] := by
        rcases h4 with h4 | h4
        · exact h4.1
        · refine List.eq_nil_of_length_eq_zero ?_
          have := HSB.out
          rw [h1, List.length_append] at this
          omega
      have HE := Lib.hid (show Srt ltP A ∧ Stb ltP S A ∧ Own w0 wa (dat g n c (P ++ A ++ Q) :: ps) by
        subst hR
        simp only [List.append_nil] at h1 h5
        exact ⟨h3, by rw [h1]; exact h2, h5⟩)
      clear h1 h2 h3 h4 h5 hR hAl
      go_wp2_with fail
      go_end0
      exact ⟨rfl, A, HE.out.1, HE.out.2.1, by simpa only [List.append_assoc] using HE.out.2.2⟩
    have hix : (i : Int) < (b : Int) := by omega
    have hia : a + A.length = i := by
      rcases h4 with h4 | h4
      · omega
      · exact h4
    have hR0 : R ≠ [] := fun e => by
      have := HSB.out
      rw [h1, e, List.append_nil] at this
      omega
    obtain ⟨x, R', rfl⟩ := List.exists_cons_of_ne_nil hR0
    have H1 := Lib.hid h1
    have H2 := Lib.hid h2
    have H3 := Lib.hid h3
    have HIA := Lib.hid hia
    have HAl := Lib.hid hAl
    have ST := Lib.hid (show Own w0 wa (dat g n c (P ++ (A ++ [x]) ++ R' ++ Q) :: ps) by simpa using h5)
    have bi : a < i ∧ i < b := by omega
    clear h1 h2 h3 h4 h5 hAl hR0 hia hi hlt
    as_aux_lemma =>
    go_wp2_with fail
    go_loopg [9] (i - a) (fun q u9 wr => ∃ j : Nat, (a ≤ j ∧ j ≤ i) ∧ u9 = .int .i64 (j : Nat) ∧ Hid (j ≤ a + q ∧ ∃ A1 A2, A = A1 ++ A2 ∧ a + A1.length = j ∧ (∀ y ∈ A2, ltP x y = true) ∧ Own w0 wr (dat g n c (P ++ (A1 ++ x :: A2) ++ R' ++ Q) :: ps)))
    case atStart => exact ⟨i, by omega, rfl, by omega, A, [], by simp, HIA.out, by simp, by simpa using ST.out⟩
    case round =>
      obtain ⟨j, hj, rfl, hI⟩ := hrel
      have J1 := Lib.hid hI.out.1
      obtain ⟨A1, A2, h1, h2, h3, h4⟩ := hI.out.2
      clear ST hI
      rcases List.eq_nil_or_concat A1 with hk | ⟨A1', y, hk⟩
      · as_aux_lemma =>
        subst hk
        have hja : a = j := by simpa using h2
        subst hja
        have hni : ¬ (a : Int) < (a : Int) := by omega
        have S4 := Lib.hid h4
        have HE := Lib.hid (show S = (B ++ [x]) ++ R' ∧ Stb ltP (B ++ [x]) ([] ++ x :: A2) ∧ Srt ltP ([] ++ x :: A2) ∧ a + ([] ++ x :: A2).length = i + 1 by
          refine ⟨by rw [H1.out]; simp, ?_, ?_, ?_⟩
          · have := (H2.out.app (Stb.refl [x])).trans (by rw [h1]; exact ins_back_stb swoP (A1 := []) h3)
            exact this
          · exact ins_back swoP (A1 := []) (by rw [← h1]; exact H3.out) h3 (by simp)
          · have := HIA.out; rw [h1] at this; simp at this ⊢; omega)
        clear h1 h2 h3 h4
        go_upto_region 4 with fail
        refine wp_region_table 53 [(18, .is (.int .i64 (a : Nat))), (19, .is (.int .i64 (a : Nat))), (20, .is (.bool false)), (21, .is (.bool false)), (22, .is undef), (23, .is undef), (24, .is undef), (25, .is undef), (26, .is undef), (27, .is undef), (28, .is undef), (29, .is undef), (30, .is undef), (31, .is undef), (32, .is undef), (33, .is undef), (34, .is (.bool false))] (S4.out) (by kernel_rfl) (by kernel_rfl) [18, 19, 20, 21, 22, 23, 24, 25, 26, 27, 28, 29, 30, 31, 32, 33, 34] (by kernel_rfl) rfl (by kernel_rfl) ?_ ?_
        · refine ⟨StepT.of [] (by kernel_rfl) ?_, ?_⟩
          · intro v hO
            exact StepG.val 18 (by kernel_rfl) (by kernel_rfl) rfl (by simp) rfl (Below.refl _ _) rfl
          refine ⟨StepT.of [] (by kernel_rfl) ?_, ?_⟩
          · intro v hO
            exact StepG.val 19 (by kernel_rfl) (by kernel_rfl) rfl (by simp) rfl (Below.refl _ _) rfl
          refine ⟨StepT.of [18, 19] (by kernel_rfl) ?_, ?_⟩
          · intro v hO x18 h18 x19 h19
            obtain rfl : x18 = (.int .i64 (a : Nat)) := h18
            obtain rfl : x19 = (.int .i64 (a : Nat)) := h19
            exact StepG.val 20 (by kernel_rfl) (by go_simp) rfl (by simp [Act.put]) rfl (Below.refl _ _) rfl
          refine ⟨StepT.of [20] (by kernel_rfl) ?_, ?_⟩
          · intro v hO x20 h20
            obtain rfl : x20 = (.bool false) := h20
            exact StepG.val 21 (by kernel_rfl) (by kernel_rfl) rfl (by simp [Act.put]) rfl (Below.refl _ _) rfl
          refine ⟨StepT.of [21] (by kernel_rfl) ?_, ?_⟩
          · intro v hO x21 h21
            obtain rfl : x21 = (.bool false) := h21
            exact .inr ⟨by kernel_rfl, fun d h => by cases h; rfl⟩
          refine ⟨StepT.of [21] (by kernel_rfl) ?_, ?_⟩
          · intro v hO x21 h21
            obtain rfl : x21 = (.bool false) := h21
            exact .inr ⟨by kernel_rfl, fun d h => by cases h; rfl⟩
          refine ⟨StepT.of [21] (by kernel_rfl) ?_, ?_⟩
          · intro v hO x21 h21
            obtain rfl : x21 = (.bool false) := h21
            exact .inr ⟨by kernel_rfl, fun d h => by cases h; rfl⟩
          refine ⟨StepT.of [23, 24, 21] (by kernel_rfl) ?_, ?_⟩
          · intro v hO x23 h23 x24 h24 x21 h21
            obtain rfl : x23 = undef := h23
            obtain rfl : x24 = undef := h24
            obtain rfl : x21 = (.bool false) := h21
            exact .inr ⟨by kernel_rfl, fun d h => by cases h; rfl⟩
          refine ⟨StepT.of [25, 21] (by kernel_rfl) ?_, ?_⟩
          · intro v hO x25 h25 x21 h21
            obtain rfl : x25 = undef := h25
            obtain rfl : x21 = (.bool false) := h21
            exact .inr ⟨by kernel_rfl, fun d h => by cases h; rfl⟩
          refine ⟨StepT.of [21] (by kernel_rfl) ?_, ?_⟩
          · intro v hO x21 h21
            obtain rfl : x21 = (.bool false) := h21
            exact .inr ⟨by kernel_rfl, fun d h => by cases h; rfl⟩
          refine ⟨StepT.of [21] (by kernel_rfl) ?_, ?_⟩
          · intro v hO x21 h21
            obtain rfl : x21 = (.bool false) := h21
            exact .inr ⟨by kernel_rfl, fun d h => by cases h; rfl⟩
          refine ⟨StepT.of [28, 21] (by kernel_rfl) ?_, ?_⟩
          · intro v hO x28 h28 x21 h21
            obtain rfl : x28 = undef := h28
            obtain rfl : x21 = (.bool false) := h21
            exact .inr ⟨by kernel_rfl, fun d h => by cases h; rfl⟩
          refine ⟨StepT.of [27, 29, 21] (by kernel_rfl) ?_, ?_⟩
          · intro v hO x27 h27 x29 h29 x21 h21
            obtain rfl : x27 = undef := h27
            obtain rfl : x29 = undef := h29
            obtain rfl : x21 = (.bool false) := h21
            exact .inr ⟨by kernel_rfl, fun d h => by cases h; rfl⟩
          refine ⟨StepT.of [30, 21] (by kernel_rfl) ?_, ?_⟩
          · intro v hO x30 h30 x21 h21
            obtain rfl : x30 = undef := h30
            obtain rfl : x21 = (.bool false) := h21
            exact .inr ⟨by kernel_rfl, fun d h => by cases h; rfl⟩
          refine ⟨StepT.of [22, 26, 31, 21] (by kernel_rfl) ?_, ?_⟩
          · intro v hO x22 h22 x26 h26 x31 h31 x21 h21
            obtain rfl : x22 = undef := h22
            obtain rfl : x26 = undef := h26
            obtain rfl : x31 = undef := h31
            obtain rfl : x21 = (.bool false) := h21
            exact .inr ⟨by kernel_rfl, fun d h => by cases h; rfl⟩
          refine ⟨StepT.of [32, 21] (by kernel_rfl) ?_, ?_⟩
          · intro v hO x32 h32 x21 h21
            obtain rfl : x32 = undef := h32
            obtain rfl : x21 = (.bool false) := h21
            exact .inr ⟨by kernel_rfl, fun d h => by cases h; rfl⟩
          refine ⟨StepT.of [21, 33] (by kernel_rfl) ?_, ?_⟩
          · intro v hO x21 h21 x33 h33
            obtain rfl : x21 = (.bool false) := h21
            obtain rfl : x33 = undef := h33
            exact StepG.val 34 (by kernel_rfl) (by kernel_rfl) rfl (by simp [Act.put]) rfl (Below.refl _ _) rfl
          exact trivial
        · intro v hO x18 h18 x19 h19 x20 h20 x21 h21 x22 h22 x23 h23 x24 h24 x25 h25 x26 h26 x27 h27 x28 h28 x29 h29 x30 h30 x31 h31 x32 h32 x33 h33 x34 h34
          obtain rfl : x18 = (.int .i64 (a : Nat)) := h18
          obtain rfl : x19 = (.int .i64 (a : Nat)) := h19
          obtain rfl : x20 = (.bool false) := h20
          obtain rfl : x21 = (.bool false) := h21
          obtain rfl : x22 = undef := h22
          obtain rfl : x23 = undef := h23
          obtain rfl : x24 = undef := h24
          obtain rfl : x25 = undef := h25
          obtain rfl : x26 = undef := h26
          obtain rfl : x27 = undef := h27
          obtain rfl : x28 = undef := h28
          obtain rfl : x29 = undef := h29
          obtain rfl : x30 = undef := h30
          obtain rfl : x31 = undef := h31
          obtain rfl : x32 = undef := h32
          obtain rfl : x33 = undef := h33
          obtain rfl : x34 = (.bool false) := h34
          replace S4 := Lib.hid hO
          simp only [stepFor, Act.put, List.setIfInBounds_toArray, List.set_cons_zero, List.set_cons_succ]
          clear hO
          go_wp2_with fail
          go_roundg (G1 - 1)
          case measure => have := I1.out; omega
          case rel => exact ⟨i + 1, by omega, by go_num, by have := I1.out; omega, B ++ [x], [] ++ x :: A2, R', HE.out.1, HE.out.2.1, HE.out.2.2.1, .inr HE.out.2.2.2, S4.out⟩
      · rw [List.concat_eq_append] at hk
        subst hk
        obtain ⟨j1, hj1⟩ : ∃ k, k = a + A1'.length := ⟨_, rfl⟩
        have hjj : j = j1 + 1 := by simp at h2; omega
        obtain ⟨l, hl⟩ : ∃ l, l = (P ++ A1') ++ y :: x :: (A2 ++ R' ++ Q) := ⟨_, rfl⟩
        have hpl : (P ++ A1').length = j1 := by rw [List.length_append, HA.out]; exact hj1.symm
        have E1 : P ++ (A1' ++ [y] ++ x :: A2) ++ R' ++ Q = l := by rw [hl]; simp
        have HYJ := Lib.hid (show l[j1]? = some y by rw [hl, ← hpl]; exact at_one _ _ _)
        have HXJ := Lib.hid (show l[j]? = some x by rw [hl, hjj, ← hpl]; exact at_two _ _ _ _)
        have E3 := Lib.hid (show (l.set j y).set j1 x = P ++ (A1' ++ x :: (y :: A2)) ++ R' ++ Q by
          rw [hl, hjj, ← hpl, adj_set]; simp)
        have HLL := Lib.hid (show l.length = n by
          rw [← HN.out, ← E1, H1.out]
          have := HAl.out
          rw [h1] at this
          simp at this ⊢
          omega)
        rw [E1] at h4
        have S4 := Lib.hid h4
        have z1 : IntKind.i64.wrap ((j : Int) - 1) = (j1 : Int) := by rw [show (j : Int) - 1 = (j1 : Int) by omega]; exact IntWalk.i64_in _ (by omega)
        have bj : a < j ∧ j < n ∧ j1 < n ∧ j ≠ j1 ∧ j1 < j := by omega
        have gj : (a : Int) < (j : Int) := by omega
        have HE := Lib.hid (fun (hf : ltP x y = false) => (show S = (B ++ [x]) ++ R' ∧ Stb ltP (B ++ [x]) (A1' ++ [y] ++ x :: A2) ∧ Srt ltP (A1' ++ [y] ++ x :: A2) ∧ a + (A1' ++ [y] ++ x :: A2).length = i + 1 ∧ P ++ (A1' ++ [y] ++ x :: A2) ++ R' ++ Q = l by
          refine ⟨by rw [H1.out]; simp, ?_, ?_, ?_, E1⟩
          · have := (H2.out.app (Stb.refl [x])).trans (by rw [h1]; exact ins_back_stb swoP (A1 := A1' ++ [y]) h3)
            exact this
          · exact ins_back swoP (A1 := A1' ++ [y]) (by rw [← h1]; exact H3.out) h3 (by simpa using hf)
          · have := HIA.out; rw [h1] at this; simp at this ⊢; omega))
        have HG := Lib.hid (fun (ht : ltP x y = true) => (show A = A1' ++ (y :: A2) ∧ a + A1'.length = j1 ∧ (∀ z ∈ y :: A2, ltP x z = true) by
          refine ⟨by rw [h1]; simp, hj1.symm, fun z hz => ?_⟩
          rcases List.mem_cons.1 hz with e | e
          · rw [e]; exact ht
          · exact h3 z e))
        have HJ1 := Lib.hid (show a ≤ j1 ∧ j1 ≤ i ∧ j = j1 + 1 by omega)
        clear h1 h2 h3 h4 hl hpl E1 hj1 hjj hj
        cases hq : ltP x y
        · as_aux_lemma =>
          replace HE := Lib.hid (HE.out hq)
          clear HG E3
          go_upto_region 4 with fail
          refine wp_region_table 53 [(18, .is (.int .i64 (j : Nat))), (19, .is (.int .i64 (a : Nat))), (20, .is (.bool true)), (21, .is (.bool true)), (22, .is (.func (.func 71) #[] #[])), (23, .is (.slice (some ⟨g, 0, none⟩) n c)), (24, .is (.int .i64 (j : Nat))), (25, .is (.pointer (some ⟨g, j * 4, none⟩))), (26, .is (aggP x)), (27, .is (.slice (some ⟨g, 0, none⟩) n c)), (28, .is (.int .i64 (j : Nat))), (29, .is (.int .i64 (j1 : Nat))), (30, .is (.pointer (some ⟨g, j1 * 4, none⟩))), (31, .is (aggP y)), (32, .is (.int .i64 (cf x y))), (33, .is (.bool (ltP x y))), (34, .is (.bool (ltP x y)))] (S4.out) (by kernel_rfl) (by kernel_rfl) [18, 19, 20, 21, 22, 23, 24, 25, 26, 27, 28, 29, 30, 31, 32, 33, 34] (by kernel_rfl) rfl (by kernel_rfl) ?_ ?_
          · refine ⟨StepT.of [] (by kernel_rfl) ?_, ?_⟩
            · intro v hO
              exact StepG.val 18 (by kernel_rfl) (by kernel_rfl) rfl (by simp) rfl (Below.refl _ _) rfl
            refine ⟨StepT.of [] (by kernel_rfl) ?_, ?_⟩
            · intro v hO
              exact StepG.val 19 (by kernel_rfl) (by kernel_rfl) rfl (by simp) rfl (Below.refl _ _) rfl
            refine ⟨StepT.of [18, 19] (by kernel_rfl) ?_, ?_⟩
            · intro v hO x18 h18 x19 h19
              obtain rfl : x18 = (.int .i64 (j : Nat)) := h18
              obtain rfl : x19 = (.int .i64 (a : Nat)) := h19
              exact StepG.val 20 (by kernel_rfl) (by go_simp) rfl (by simp [Act.put]) rfl (Below.refl _ _) rfl
            refine ⟨StepT.of [20] (by kernel_rfl) ?_, ?_⟩
            · intro v hO x20 h20
              obtain rfl : x20 = (.bool true) := h20
              exact StepG.val 21 (by kernel_rfl) (by kernel_rfl) rfl (by simp [Act.put]) rfl (Below.refl _ _) rfl
            refine ⟨StepT.of [21] (by kernel_rfl) ?_, ?_⟩
            · intro v hO x21 h21
              obtain rfl : x21 = (.bool true) := h21
              exact StepG.val 22 (by kernel_rfl) (by kernel_rfl) rfl (by simp [Act.put]) rfl (Below.refl _ _) rfl
            refine ⟨StepT.of [21] (by kernel_rfl) ?_, ?_⟩
            · intro v hO x21 h21
              obtain rfl : x21 = (.bool true) := h21
              exact StepG.val 23 (by kernel_rfl) (by kernel_rfl) rfl (by simp [Act.put]) rfl (Below.refl _ _) rfl
            refine ⟨StepT.of [21] (by kernel_rfl) ?_, ?_⟩
            · intro v hO x21 h21
              obtain rfl : x21 = (.bool true) := h21
              exact StepG.val 24 (by kernel_rfl) (by kernel_rfl) rfl (by simp [Act.put]) rfl (Below.refl _ _) rfl
            refine ⟨StepT.of [23, 24, 21] (by kernel_rfl) ?_, ?_⟩
            · intro v hO x23 h23 x24 h24 x21 h21
              obtain rfl : x23 = (.slice (some ⟨g, 0, none⟩) n c) := h23
              obtain rfl : x24 = (.int .i64 (j : Nat)) := h24
              obtain rfl : x21 = (.bool true) := h21
              exact StepG.val 25 (by kernel_rfl) (by go_simp) rfl (by simp [Act.put]) rfl (Below.refl _ _) rfl
            refine ⟨StepT.of [25, 21] (by kernel_rfl) ?_, ?_⟩
            · intro v hO x25 h25 x21 h21
              obtain rfl : x25 = (.pointer (some ⟨g, j * 4, none⟩)) := h25
              obtain rfl : x21 = (.bool true) := h21
              obtain ⟨t0, t1, t2, t3⟩ := hO.ptAt HXJ.out
              have tl := (hO.rowLt 0 rfl).1
              unfold aggP
              exact StepG.val 26 (by kernel_rfl) (by go_simp) rfl (by simp [Act.put]) rfl (Below.refl _ _) rfl
            refine ⟨StepT.of [21] (by kernel_rfl) ?_, ?_⟩
            · intro v hO x21 h21
              obtain rfl : x21 = (.bool true) := h21
              exact StepG.val 27 (by kernel_rfl) (by kernel_rfl) rfl (by simp [Act.put]) rfl (Below.refl _ _) rfl
            refine ⟨StepT.of [21] (by kernel_rfl) ?_, ?_⟩
            · intro v hO x21 h21
              obtain rfl : x21 = (.bool true) := h21
              exact StepG.val 28 (by kernel_rfl) (by kernel_rfl) rfl (by simp [Act.put]) rfl (Below.refl _ _) rfl
            refine ⟨StepT.of [28, 21] (by kernel_rfl) ?_, ?_⟩
            · intro v hO x28 h28 x21 h21
              obtain rfl : x28 = (.int .i64 (j : Nat)) := h28
              obtain rfl : x21 = (.bool true) := h21
              exact StepG.val 29 (by kernel_rfl) (by go_simp) rfl (by simp [Act.put]) rfl (Below.refl _ _) rfl
            refine ⟨StepT.of [27, 29, 21] (by kernel_rfl) ?_, ?_⟩
            · intro v hO x27 h27 x29 h29 x21 h21
              obtain rfl : x27 = (.slice (some ⟨g, 0, none⟩) n c) := h27
              obtain rfl : x29 = (.int .i64 (j1 : Nat)) := h29
              obtain rfl : x21 = (.bool true) := h21
              exact StepG.val 30 (by kernel_rfl) (by go_simp) rfl (by simp [Act.put]) rfl (Below.refl _ _) rfl
            refine ⟨StepT.of [30, 21] (by kernel_rfl) ?_, ?_⟩
            · intro v hO x30 h30 x21 h21
              obtain rfl : x30 = (.pointer (some ⟨g, j1 * 4, none⟩)) := h30
              obtain rfl : x21 = (.bool true) := h21
              obtain ⟨t0, t1, t2, t3⟩ := hO.ptAt HYJ.out
              have tl := (hO.rowLt 0 rfl).1
              unfold aggP
              exact StepG.val 31 (by kernel_rfl) (by go_simp) rfl (by simp [Act.put]) rfl (Below.refl _ _) rfl
            refine ⟨StepT.of [22, 26, 31, 21] (by kernel_rfl) ?_, ?_⟩
            · intro v hO x22 h22 x26 h26 x31 h31 x21 h21
              obtain rfl : x22 = (.func (.func 71) #[] #[]) := h22
              obtain rfl : x26 = (aggP x) := h26
              obtain rfl : x31 = (aggP y) := h31
              obtain rfl : x21 = (.bool true) := h21
              refine StepG.call 32 (by kernel_rfl) (by kernel_rfl) rfl (by simp [Act.put]) rfl ((cmp_any x y v).mono ?_)
              rintro e w2 ⟨rfl, hb2⟩
              exact ⟨_, rfl, hb2, rfl⟩
            refine ⟨StepT.of [32, 21] (by kernel_rfl) ?_, ?_⟩
            · intro v hO x32 h32 x21 h21
              obtain rfl : x32 = (.int .i64 (cf x y)) := h32
              obtain rfl : x21 = (.bool true) := h21
              exact StepG.val 33 (by kernel_rfl) (by kernel_rfl) rfl (by simp [Act.put]) rfl (Below.refl _ _) rfl
            refine ⟨StepT.of [21, 33] (by kernel_rfl) ?_, ?_⟩
            · intro v hO x21 h21 x33 h33
              obtain rfl : x21 = (.bool true) := h21
              obtain rfl : x33 = (.bool (ltP x y)) := h33
              exact StepG.val 34 (by kernel_rfl) (by kernel_rfl) rfl (by simp [Act.put]) rfl (Below.refl _ _) rfl
            exact trivial
          · intro v hO x18 h18 x19 h19 x20 h20 x21 h21 x22 h22 x23 h23 x24 h24 x25 h25 x26 h26 x27 h27 x28 h28 x29 h29 x30 h30 x31 h31 x32 h32 x33 h33 x34 h34
            obtain rfl : x18 = (.int .i64 (j : Nat)) := h18
            obtain rfl : x19 = (.int .i64 (a : Nat)) := h19
            obtain rfl : x20 = (.bool true) := h20
            obtain rfl : x21 = (.bool true) := h21
            obtain rfl : x22 = (.func (.func 71) #[] #[]) := h22
            obtain rfl : x23 = (.slice (some ⟨g, 0, none⟩) n c) := h23
            obtain rfl : x24 = (.int .i64 (j : Nat)) := h24
            obtain rfl : x25 = (.pointer (some ⟨g, j * 4, none⟩)) := h25
            obtain rfl : x26 = (aggP x) := h26
            obtain rfl : x27 = (.slice (some ⟨g, 0, none⟩) n c) := h27
            obtain rfl : x28 = (.int .i64 (j : Nat)) := h28
            obtain rfl : x29 = (.int .i64 (j1 : Nat)) := h29
            obtain rfl : x30 = (.pointer (some ⟨g, j1 * 4, none⟩)) := h30
            obtain rfl : x31 = (aggP y) := h31
            obtain rfl : x32 = (.int .i64 (cf x y)) := h32
            obtain rfl : x33 = (.bool (ltP x y)) := h33
            obtain rfl : x34 = (.bool (ltP x y)) := h34
            replace S4 := Lib.hid hO
            simp only [stepFor, Act.put, List.setIfInBounds_toArray, List.set_cons_zero, List.set_cons_succ]
            clear hO
            rw [hq]
            replace hq := Lib.hid hq
            rw [← HE.out.2.2.2.2] at S4
            go_wp2_with fail
            go_roundg (G1 - 1)
            case measure => have := I1.out; omega
            case rel => exact ⟨i + 1, by omega, by go_num, by have := I1.out; omega, B ++ [x], A1' ++ [y] ++ x :: A2, R', HE.out.1, HE.out.2.1, HE.out.2.2.1, .inr HE.out.2.2.2.1, S4.out⟩
        · as_aux_lemma =>
          replace HG := Lib.hid (HG.out hq)
          clear HE
          go_upto_region 4 with fail
          refine wp_region_table 53 [(18, .is (.int .i64 (j : Nat))), (19, .is (.int .i64 (a : Nat))), (20, .is (.bool true)), (21, .is (.bool true)), (22, .is (.func (.func 71) #[] #[])), (23, .is (.slice (some ⟨g, 0, none⟩) n c)), (24, .is (.int .i64 (j : Nat))), (25, .is (.pointer (some ⟨g, j * 4, none⟩))), (26, .is (aggP x)), (27, .is (.slice (some ⟨g, 0, none⟩) n c)), (28, .is (.int .i64 (j : Nat))), (29, .is (.int .i64 (j1 : Nat))), (30, .is (.pointer (some ⟨g, j1 * 4, none⟩))), (31, .is (aggP y)), (32, .is (.int .i64 (cf x y))), (33, .is (.bool (ltP x y))), (34, .is (.bool (ltP x y)))] (S4.out) (by kernel_rfl) (by kernel_rfl) [18, 19, 20, 21, 22, 23, 24, 25, 26, 27, 28, 29, 30, 31, 32, 33, 34] (by kernel_rfl) rfl (by kernel_rfl) ?_ ?_
          · refine ⟨StepT.of [] (by kernel_rfl) ?_, ?_⟩
            · intro v hO
              exact StepG.val 18 (by kernel_rfl) (by kernel_rfl) rfl (by simp) rfl (Below.refl _ _) rfl
            refine ⟨StepT.of [] (by kernel_rfl) ?_, ?_⟩
            · intro v hO
              exact StepG.val 19 (by kernel_rfl) (by kernel_rfl) rfl (by simp) rfl (Below.refl _ _) rfl
            refine ⟨StepT.of [18, 19] (by kernel_rfl) ?_, ?_⟩
            · intro v hO x18 h18 x19 h19
              obtain rfl : x18 = (.int .i64 (j : Nat)) := h18
              obtain rfl : x19 = (.int .i64 (a : Nat)) := h19
              exact StepG.val 20 (by kernel_rfl) (by go_simp) rfl (by simp [Act.put]) rfl (Below.refl _ _) rfl
            refine ⟨StepT.of [20] (by kernel_rfl) ?_, ?_⟩
            · intro v hO x20 h20
              obtain rfl : x20 = (.bool true) := h20
              exact StepG.val 21 (by kernel_rfl) (by kernel_rfl) rfl (by simp [Act.put]) rfl (Below.refl _ _) rfl
            refine ⟨StepT.of [21] (by kernel_rfl) ?_, ?_⟩
            · intro v hO x21 h21
              obtain rfl : x21 = (.bool true) := h21
              exact StepG.val 22 (by kernel_rfl) (by kernel_rfl) rfl (by simp [Act.put]) rfl (Below.refl _ _) rfl
            refine ⟨StepT.of [21] (by kernel_rfl) ?_, ?_⟩
            · intro v hO x21 h21
              obtain rfl : x21 = (.bool true) := h21
              exact StepG.val 23 (by kernel_rfl) (by kernel_rfl) rfl (by simp [Act.put]) rfl (Below.refl _ _) rfl
            refine ⟨StepT.of [21] (by kernel_rfl) ?_, ?_⟩
            · intro v hO x21 h21
              obtain rfl : x21 = (.bool true) := h21
              exact StepG.val 24 (by kernel_rfl) (by kernel_rfl) rfl (by simp [Act.put]) rfl (Below.refl _ _) rfl
            refine ⟨StepT.of [23, 24, 21] (by kernel_rfl) ?_, ?_⟩
            · intro v hO x23 h23 x24 h24 x21 h21
              obtain rfl : x23 = (.slice (some ⟨g, 0, none⟩) n c) := h23
              obtain rfl : x24 = (.int .i64 (j : Nat)) := h24
              obtain rfl : x21 = (.bool true) := h21
              exact StepG.val 25 (by kernel_rfl) (by go_simp) rfl (by simp [Act.put]) rfl (Below.refl _ _) rfl
            refine ⟨StepT.of [25, 21] (by kernel_rfl) ?_, ?_⟩
            · intro v hO x25 h25 x21 h21
              obtain rfl : x25 = (.pointer (some ⟨g, j * 4, none⟩)) := h25
              obtain rfl : x21 = (.bool true) := h21
              obtain ⟨t0, t1, t2, t3⟩ := hO.ptAt HXJ.out
              have tl := (hO.rowLt 0 rfl).1
              unfold aggP
              exact StepG.val 26 (by kernel_rfl) (by go_simp) rfl (by simp [Act.put]) rfl (Below.refl _ _) rfl
            refine ⟨StepT.of [21] (by kernel_rfl) ?_, ?_⟩
            · intro v hO x21 h21
              obtain rfl : x21 = (.bool true) := h21
              exact StepG.val 27 (by kernel_rfl) (by kernel_rfl) rfl (by simp [Act.put]) rfl (Below.refl _ _) rfl
            refine ⟨StepT.of [21] (by kernel_rfl) ?_, ?_⟩
            · intro v hO x21 h21
              obtain rfl : x21 = (.bool true) := h21
              exact StepG.val 28 (by kernel_rfl) (by kernel_rfl) rfl (by simp [Act.put]) rfl (Below.refl _ _) rfl
            refine ⟨StepT.of [28, 21] (by kernel_rfl) ?_, ?_⟩
            · intro v hO x28 h28 x21 h21
              obtain rfl : x28 = (.int .i64 (j : Nat)) := h28
              obtain rfl : x21 = (.bool true) := h21
              exact StepG.val 29 (by kernel_rfl) (by go_simp) rfl (by simp [Act.put]) rfl (Below.refl _ _) rfl
            refine ⟨StepT.of [27, 29, 21] (by kernel_rfl) ?_, ?_⟩
            · intro v hO x27 h27 x29 h29 x21 h21
              obtain rfl : x27 = (.slice (some ⟨g, 0, none⟩) n c) := h27
              obtain rfl : x29 = (.int .i64 (j1 : Nat)) := h29
              obtain rfl : x21 = (.bool true) := h21
              exact StepG.val 30 (by kernel_rfl) (by go_simp) rfl (by simp [Act.put]) rfl (Below.refl _ _) rfl
            refine ⟨StepT.of [30, 21] (by kernel_rfl) ?_, ?_⟩
            · intro v hO x30 h30 x21 h21
              obtain rfl : x30 = (.pointer (some ⟨g, j1 * 4, none⟩)) := h30
              obtain rfl : x21 = (.bool true) := h21
              obtain ⟨t0, t1, t2, t3⟩ := hO.ptAt HYJ.out
              have tl := (hO.rowLt 0 rfl).1
              unfold aggP
              exact StepG.val 31 (by kernel_rfl) (by go_simp) rfl (by simp [Act.put]) rfl (Below.refl _ _) rfl
            refine ⟨StepT.of [22, 26, 31, 21] (by kernel_rfl) ?_, ?_⟩
            · intro v hO x22 h22 x26 h26 x31 h31 x21 h21
              obtain rfl : x22 = (.func (.func 71) #[] #[]) := h22
              obtain rfl : x26 = (aggP x) := h26
              obtain rfl : x31 = (aggP y) := h31
              obtain rfl : x21 = (.bool true) := h21
              refine StepG.call 32 (by kernel_rfl) (by kernel_rfl) rfl (by simp [Act.put]) rfl ((cmp_any x y v).mono ?_)
              rintro e w2 ⟨rfl, hb2⟩
              exact ⟨_, rfl, hb2, rfl⟩
            refine ⟨StepT.of [32, 21] (by kernel_rfl) ?_, ?_⟩
            · intro v hO x32 h32 x21 h21
              obtain rfl : x32 = (.int .i64 (cf x y)) := h32
              obtain rfl : x21 = (.bool true) := h21
              exact StepG.val 33 (by kernel_rfl) (by kernel_rfl) rfl (by simp [Act.put]) rfl (Below.refl _ _) rfl
            refine ⟨StepT.of [21, 33] (by kernel_rfl) ?_, ?_⟩
            · intro v hO x21 h21 x33 h33
              obtain rfl : x21 = (.bool true) := h21
              obtain rfl : x33 = (.bool (ltP x y)) := h33
              exact StepG.val 34 (by kernel_rfl) (by kernel_rfl) rfl (by simp [Act.put]) rfl (Below.refl _ _) rfl
            exact trivial
          · intro v hO x18 h18 x19 h19 x20 h20 x21 h21 x22 h22 x23 h23 x24 h24 x25 h25 x26 h26 x27 h27 x28 h28 x29 h29 x30 h30 x31 h31 x32 h32 x33 h33 x34 h34
            obtain rfl : x18 = (.int .i64 (j : Nat)) := h18
            obtain rfl : x19 = (.int .i64 (a : Nat)) := h19
            obtain rfl : x20 = (.bool true) := h20
            obtain rfl : x21 = (.bool true) := h21
            obtain rfl : x22 = (.func (.func 71) #[] #[]) := h22
            obtain rfl : x23 = (.slice (some ⟨g, 0, none⟩) n c) := h23
            obtain rfl : x24 = (.int .i64 (j : Nat)) := h24
            obtain rfl : x25 = (.pointer (some ⟨g, j * 4, none⟩)) := h25
            obtain rfl : x26 = (aggP x) := h26
            obtain rfl : x27 = (.slice (some ⟨g, 0, none⟩) n c) := h27
            obtain rfl : x28 = (.int .i64 (j : Nat)) := h28
            obtain rfl : x29 = (.int .i64 (j1 : Nat)) := h29
            obtain rfl : x30 = (.pointer (some ⟨g, j1 * 4, none⟩)) := h30
            obtain rfl : x31 = (aggP y) := h31
            obtain rfl : x32 = (.int .i64 (cf x y)) := h32
            obtain rfl : x33 = (.bool (ltP x y)) := h33
            obtain rfl : x34 = (.bool (ltP x y)) := h34
            replace S4 := Lib.hid hO
            simp only [stepFor, Act.put, List.setIfInBounds_toArray, List.set_cons_zero, List.set_cons_succ]
            clear hO
            rw [hq]
            replace hq := Lib.hid hq
            go_upto_region 6 with fail
            refine wp_region_state 53 [(37, .slice (some ⟨g, 0, none⟩) n c), (38, .int .i64 (j : Nat)), (39, .slice (some ⟨g, 0, none⟩) n c), (40, .int .i64 (j : Nat)), (41, .int .i64 (j1 : Nat)), (42, .slice (some ⟨g, 0, none⟩) n c), (43, .int .i64 (j : Nat)), (44, .int .i64 (j1 : Nat)), (45, .pointer (some ⟨g, j1 * 4, none⟩)), (46, aggP y), (47, .slice (some ⟨g, 0, none⟩) n c), (48, .int .i64 (j : Nat)), (49, .pointer (some ⟨g, j * 4, none⟩)), (50, aggP x), (51, .pointer (some ⟨g, j * 4, none⟩)), (52, .pointer (some ⟨g, j1 * 4, none⟩))] (fun L vs w' => Own w0 w' (dat g n c (cond (L 15) (cond (L 17) ((l.set j y).set j1 x) (l.set j y)) (cond (L 17) (l.set j1 x) l)) :: ps)) (by kernel_rfl) (by kernel_rfl) [37, 38, 39, 40, 41, 42, 43, 44, 45, 46, 47, 48, 49, 50, 51, 52] (by kernel_rfl) rfl (by kernel_rfl) 18 rfl ?_ ?_ ?_
            · exact fun L hL => (S4.out.ext (Below.refl _ _).drew).cast (by simp [hL 15 (by decide), hL 17 (by decide)])
            · refine ⟨StepS.of [] (by kernel_rfl) ?_, ?_⟩
              · intro L vs wq hL hA hC hJ
                unfold forAll
                exact StepV.val 37 (by kernel_rfl) (by kernel_rfl) rfl (by simp) rfl rfl hJ
              refine ⟨StepS.of [] (by kernel_rfl) ?_, ?_⟩
              · intro L vs wq hL hA hC hJ
                unfold forAll
                exact StepV.val 38 (by kernel_rfl) (by kernel_rfl) rfl (by simp) rfl rfl hJ
              refine ⟨StepS.of [] (by kernel_rfl) ?_, ?_⟩
              · intro L vs wq hL hA hC hJ
                unfold forAll
                exact StepV.val 39 (by kernel_rfl) (by kernel_rfl) rfl (by simp) rfl rfl hJ
              refine ⟨StepS.of [] (by kernel_rfl) ?_, ?_⟩
              · intro L vs wq hL hA hC hJ
                unfold forAll
                exact StepV.val 40 (by kernel_rfl) (by kernel_rfl) rfl (by simp) rfl rfl hJ
              refine ⟨StepS.of [40] (by kernel_rfl) ?_, ?_⟩
              · intro L vs wq hL hA hC hJ h40
                rw [(show vs 40 = .int .i64 (j : Nat) from h40)]
                unfold forAll
                exact StepV.val 41 (by kernel_rfl) (by go_simp) rfl (by simp [Act.put]) rfl rfl hJ
              refine ⟨StepS.of [] (by kernel_rfl) ?_, ?_⟩
              · intro L vs wq hL hA hC hJ
                unfold forAll
                exact StepV.val 42 (by kernel_rfl) (by kernel_rfl) rfl (by simp) rfl rfl hJ
              refine ⟨StepS.of [] (by kernel_rfl) ?_, ?_⟩
              · intro L vs wq hL hA hC hJ
                unfold forAll
                exact StepV.val 43 (by kernel_rfl) (by kernel_rfl) rfl (by simp) rfl rfl hJ
              refine ⟨StepS.of [43] (by kernel_rfl) ?_, ?_⟩
              · intro L vs wq hL hA hC hJ h43
                rw [(show vs 43 = .int .i64 (j : Nat) from h43)]
                unfold forAll
                exact StepV.val 44 (by kernel_rfl) (by go_simp) rfl (by simp [Act.put]) rfl rfl hJ
              refine ⟨StepS.of [42, 44] (by kernel_rfl) ?_, ?_⟩
              · intro L vs wq hL hA hC hJ h42 h44
                rw [(show vs 42 = .slice (some ⟨g, 0, none⟩) n c from h42), (show vs 44 = .int .i64 (j1 : Nat) from h44)]
                unfold forAll
                exact StepV.val 45 (by kernel_rfl) (by go_simp) rfl (by simp [Act.put]) rfl rfl hJ
              refine ⟨StepS.of [45] (by kernel_rfl) ?_, ?_⟩
              · intro L vs wq hL hA hC hJ h45
                rw [(show vs 45 = .pointer (some ⟨g, j1 * 4, none⟩) from h45)]
                unfold forAll
                have q1 := hC.no (j := 15) (i := 9) (by kernel_rfl) hL
                have q2 := hC.no (j := 17) (i := 9) (by kernel_rfl) hL
                have K := Own.cast (qs := dat g n c l :: ps) hJ (by simp [q1, q2])
                obtain ⟨t0, t1, t2, t3⟩ := K.ptAt HYJ.out
                have tl := (K.rowLt 0 rfl).1
                unfold aggP
                exact StepV.val 46 (by kernel_rfl) (by go_simp) rfl (by simp [Act.put]) rfl rfl hJ
              refine ⟨StepS.of [] (by kernel_rfl) ?_, ?_⟩
              · intro L vs wq hL hA hC hJ
                unfold forAll
                exact StepV.val 47 (by kernel_rfl) (by kernel_rfl) rfl (by simp) rfl rfl hJ
              refine ⟨StepS.of [] (by kernel_rfl) ?_, ?_⟩
              · intro L vs wq hL hA hC hJ
                unfold forAll
                exact StepV.val 48 (by kernel_rfl) (by kernel_rfl) rfl (by simp) rfl rfl hJ
              refine ⟨StepS.of [47, 48] (by kernel_rfl) ?_, ?_⟩
              · intro L vs wq hL hA hC hJ h47 h48
                rw [(show vs 47 = .slice (some ⟨g, 0, none⟩) n c from h47), (show vs 48 = .int .i64 (j : Nat) from h48)]
                unfold forAll
                exact StepV.val 49 (by kernel_rfl) (by go_simp) rfl (by simp [Act.put]) rfl rfl hJ
              refine ⟨StepS.of [49] (by kernel_rfl) ?_, ?_⟩
              · intro L vs wq hL hA hC hJ h49
                rw [(show vs 49 = .pointer (some ⟨g, j * 4, none⟩) from h49)]
                unfold forAll
                have q1 := hC.no (j := 15) (i := 13) (by kernel_rfl) hL
                have q2 := hC.no (j := 17) (i := 13) (by kernel_rfl) hL
                have K := Own.cast (qs := dat g n c l :: ps) hJ (by simp [q1, q2])
                obtain ⟨t0, t1, t2, t3⟩ := K.ptAt HXJ.out
                have tl := (K.rowLt 0 rfl).1
                unfold aggP
                exact StepV.val 50 (by kernel_rfl) (by go_simp) rfl (by simp [Act.put]) rfl rfl hJ
              refine ⟨StepS.of [37, 38] (by kernel_rfl) ?_, ?_⟩
              · intro L vs wq hL hA hC hJ h37 h38
                rw [(show vs 37 = .slice (some ⟨g, 0, none⟩) n c from h37), (show vs 38 = .int .i64 (j : Nat) from h38)]
                unfold forAll
                exact StepV.val 51 (by kernel_rfl) (by go_simp) rfl (by simp [Act.put]) rfl rfl hJ
              refine ⟨StepS.of [51, 46] (by kernel_rfl) ?_, ?_⟩
              · intro L vs wq hL hA hC hJ h51 h46
                rw [(show vs 51 = .pointer (some ⟨g, j * 4, none⟩) from h51), (show vs 46 = aggP y from h46)]
                unfold forAll
                unfold aggP
                cases q : L 17
                · have K := Own.cast (qs := dat g n c l :: ps) hJ (by simp [hL, q])
                  have tl := (K.rowLt 0 rfl).1; have tf := (K.rowLt 0 rfl).2
                  obtain ⟨t0, t1, t2, t3⟩ := K.ptAt HXJ.out
                  exact StepV.skip (by kernel_rfl) (by go_simp) rfl rfl ((K.setPt j (by rw [HLL.out]; omega) y).cast (by simp [upd, q]))
                · have K := Own.cast (qs := dat g n c (l.set j1 x) :: ps) hJ (by simp [hL, q])
                  have tl := (K.rowLt 0 rfl).1; have tf := (K.rowLt 0 rfl).2
                  have hq := HXJ.out
                  obtain ⟨t0, t1, t2, t3⟩ := K.ptAt (k := j) (by rw [List.getElem?_set_ne (by omega)]; exact hq)
                  exact StepV.skip (by kernel_rfl) (by go_simp) rfl rfl ((K.setPt j (by rw [List.length_set, HLL.out]; omega) y).cast (by simp [upd, q, List.set_comm _ _ (show j1 ≠ j by omega)]))
              refine ⟨StepS.of [39, 41] (by kernel_rfl) ?_, ?_⟩
              · intro L vs wq hL hA hC hJ h39 h41
                rw [(show vs 39 = .slice (some ⟨g, 0, none⟩) n c from h39), (show vs 41 = .int .i64 (j1 : Nat) from h41)]
                unfold forAll
                exact StepV.val 52 (by kernel_rfl) (by go_simp) rfl (by simp [Act.put]) rfl rfl hJ
              refine ⟨StepS.of [52, 50] (by kernel_rfl) ?_, ?_⟩
              · intro L vs wq hL hA hC hJ h52 h50
                rw [(show vs 52 = .pointer (some ⟨g, j1 * 4, none⟩) from h52), (show vs 50 = aggP x from h50)]
                unfold forAll
                unfold aggP
                cases q : L 15
                · have K := Own.cast (qs := dat g n c l :: ps) hJ (by simp [hL, q])
                  have tl := (K.rowLt 0 rfl).1; have tf := (K.rowLt 0 rfl).2
                  obtain ⟨t0, t1, t2, t3⟩ := K.ptAt HYJ.out
                  exact StepV.skip (by kernel_rfl) (by go_simp) rfl rfl ((K.setPt j1 (by rw [HLL.out]; omega) x).cast (by simp [upd, q]))
                · have K := Own.cast (qs := dat g n c (l.set j y) :: ps) hJ (by simp [hL, q])
                  have tl := (K.rowLt 0 rfl).1; have tf := (K.rowLt 0 rfl).2
                  have hq := HYJ.out
                  obtain ⟨t0, t1, t2, t3⟩ := K.ptAt (k := j1) (by rw [List.getElem?_set_ne (by omega)]; exact hq)
                  exact StepV.skip (by kernel_rfl) (by go_simp) rfl rfl ((K.setPt j1 (by rw [List.length_set, HLL.out]; omega) x).cast (by simp [upd, q]))
              exact trivial
            · intro vs w9 hJ h37 h38 h39 h40 h41 h42 h43 h44 h45 h46 h47 h48 h49 h50 h51 h52
              have S9 := Lib.hid (show Own w0 w9 (dat g n c ((l.set j y).set j1 x) :: ps) from hJ)
              rw [(show vs 37 = .slice (some ⟨g, 0, none⟩) n c from h37), (show vs 38 = .int .i64 (j : Nat) from h38), (show vs 39 = .slice (some ⟨g, 0, none⟩) n c from h39), (show vs 40 = .int .i64 (j : Nat) from h40), (show vs 41 = .int .i64 (j1 : Nat) from h41), (show vs 42 = .slice (some ⟨g, 0, none⟩) n c from h42), (show vs 43 = .int .i64 (j : Nat) from h43), (show vs 44 = .int .i64 (j1 : Nat) from h44), (show vs 45 = .pointer (some ⟨g, j1 * 4, none⟩) from h45), (show vs 46 = aggP y from h46), (show vs 47 = .slice (some ⟨g, 0, none⟩) n c from h47), (show vs 48 = .int .i64 (j : Nat) from h48), (show vs 49 = .pointer (some ⟨g, j * 4, none⟩) from h49), (show vs 50 = aggP x from h50), (show vs 51 = .pointer (some ⟨g, j * 4, none⟩) from h51), (show vs 52 = .pointer (some ⟨g, j1 * 4, none⟩) from h52)]
              clear h37 h38 h39 h40 h41 h42 h43 h44 h45 h46 h47 h48 h49 h50 h51 h52
              clear hJ
              unfold forAll
              simp only [Act.put, List.setIfInBounds_toArray, List.set_cons_zero, List.set_cons_succ]
              rw [E3.out] at S9
              go_wp2_with fail
              go_roundg (gk - 1)
              case measure => have := J1.out; have := HJ1.out; omega
              case rel => exact ⟨j1, by have := HJ1.out; omega, rfl, by have := J1.out; have := HJ1.out; omega, A1', y :: A2, HG.out.1, HG.out.2.1, HG.out.2.2, S9.out⟩
end Go.Proofs.Ytnalbchggjepdaa
