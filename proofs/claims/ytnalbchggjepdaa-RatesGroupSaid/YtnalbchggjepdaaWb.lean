/- Rates: small functions of the statements. No condition. -/
import Derived.Test.YtnalbchggjepdaaWa
import Derived.Test.YtnalbchggjepdaaVt
import Derived.Test.YtnalbchggjepdaaSt
namespace Go.Proofs.Ytnalbchggjepdaa
open Go.RowKit Go.Shelf
attribute [local go_sem] Oper.semAt_some

theorem part_any (x y : Int) (w : World) : Calls Try.prog 49 #[.int .i64 x, .int .i64 y] w fun e w' => e = .returned (.agg #[.int .i64 x, .int .i64 y]) ∧ Below w.heap.size w w' := by
  go_enter Try.func49, Try.ntmps49
  go_wp2_with fail
  refine bodyPost_ret (v := .agg #[.int .i64 x, .int .i64 y]) (by simp [results, Try.results49, go_sem]) rfl ⟨rfl, below_alloc _ _⟩
theorem four_any (w : World) : Calls Try.prog 50 #[] w fun e w' => ∃ A, e = .returned (.slice A 4 4) ∧ Below w.heap.size w w' ∧ Rd w' A (ints fourL) := by
  have S0 := Lib.hid (below_alloc w (.cells #[.int .i64 30, .int .i64 10, .int .i64 20, .int .i64 20] 3))
  have HR := Lib.hid (Rd.new w #[.int .i64 30, .int .i64 10, .int .i64 20, .int .i64 20] 3)
  go_enter Try.func50, Try.ntmps50
  go_wp2_with fail
  go_ret
  exact ⟨_, rfl, S0.out, HR.out⟩
theorem three_any (w : World) : Calls Try.prog 51 #[] w fun e w' => ∃ A, e = .returned (.slice A 4 4) ∧ Below w.heap.size w w' ∧ Rd w' A (flat encD threeL) := by
  have S0 := Lib.hid (below_alloc w (.cells #[.int .i64 3, .int .i64 5, .bool true, .int .i64 1, .int .i64 9, .bool true, .int .i64 4, .int .i64 4, .bool false, .int .i64 2, .int .i64 6, .bool false] 81))
  have HR := Lib.hid (Rd.new w #[.int .i64 3, .int .i64 5, .bool true, .int .i64 1, .int .i64 9, .bool true, .int .i64 4, .int .i64 4, .bool false, .int .i64 2, .int .i64 6, .bool false] 81)
  go_enter Try.func51, Try.ntmps51
  go_wp2_with fail
  go_ret
  exact ⟨_, rfl, S0.out, HR.out⟩
theorem rd_sub {w : World} {b off : Nat} {xs : List Value} (h : Rd w (some ⟨b, off, none⟩) xs) (k m : Nat) : Rd w (some ⟨b, off + k, none⟩) ((xs.drop k).take m) := by
  rcases h with h | ⟨b', off', e, hb, hc⟩
  · exact .inl (by simp [h])
  · injection e with e
    injection e with e1 e2
    subst e1 e2
    refine .inr ⟨b, off + k, rfl, hb, fun j u hu => ?_⟩
    rw [List.getElem?_take] at hu
    split at hu
    · rw [List.getElem?_drop] at hu
      rw [Nat.add_assoc]
      exact hc _ _ hu
    · cases hu
theorem ints_takeL (l : List Int) (k : Nat) : (ints l).take k = ints (l.take k) := by simp [ints]
theorem ints_dropL (l : List Int) (k : Nat) : (ints l).drop k = ints (l.drop k) := by simp [ints]
theorem rd_take {w : World} {b off : Nat} {l : List Int} (h : Rd w (some ⟨b, off, none⟩) (ints l)) (k : Nat) : Rd w (some ⟨b, off, none⟩) (ints (l.take k)) := by
  have := rd_sub h 0 k
  rwa [Nat.add_zero, List.drop_zero, ints_takeL] at this
theorem rd_drop {w : World} {b off : Nat} {l : List Int} (h : Rd w (some ⟨b, off, none⟩) (ints l)) (k : Nat) : Rd w (some ⟨b, off + k, none⟩) (ints (l.drop k)) := by
  have := rd_sub h k (ints l).length
  rw [List.take_of_length_le (by simp), ints_dropL] at this
  exact this
theorem without_any (A : Option Addr) (l : List Int) (n c i : Nat) (w : World) (hr : Rd w A (ints l)) (hn : n = l.length) (hi : i < n) (hnb : n ≤ 1000) (hcap : n ≤ c) :
    Calls Try.prog 47 #[.slice A n c, .int .i64 (i : Nat)] w fun e w' => ∃ A' c', e = .returned (.slice A' (n - 1) c') ∧ n - 1 ≤ c' ∧ Own w w' [row 3 1 (.slice A' (n - 1) c') (n - 1) (ints (wo l i))] := by
  have hil : i < l.length := by omega
  obtain ⟨b, off, rfl, -, hbs⟩ := hr.int hil
  have R1 := Lib.hid (fun W (h : Below w.heap.size w W) => rd_take (hr.below h) i)
  have R2 := Lib.hid (fun W (h : Below w.heap.size w W) => (show Rd W (if c = i + 1 then some ⟨b, off, none⟩ else some ⟨b, off + (i + 1), none⟩) (ints (l.drop (i + 1))) by
    by_cases hc : c = i + 1
    · rw [List.drop_of_length_le (by omega)]; exact Rd.nil _ _
    · rw [if_neg hc]; exact rd_drop (hr.below h) (i + 1)))
  have L1 := Lib.hid (show (ints (l.take i)).length = i * 1 by rw [ints_len, List.length_take]; omega)
  have L2 := Lib.hid (show (ints (l.drop (i + 1))).length = (n - (i + 1)) * 1 by rw [ints_len, List.length_drop]; omega)
  have HX := Lib.hid (show ints (l.take i) ++ ints (l.drop (i + 1)) = ints (wo l i) by simp [ints, wo])
  have z1 : IntKind.i64.wrap ((i : Int) + 1) = (i : Int) + 1 := IntWalk.i64_in _ (by omega)
  have z2 : (0 : Int) ≤ (i : Int) + 1 := by omega
  have z3 : ((i : Int) + 1).toNat = i + 1 := by omega
  have z4 : i ≤ c := by omega
  have z5 : i + 1 ≤ n := by omega
  have z6 : (i : Int) + 1 ≤ (n : Int) := by omega
  clear hr hn hil
  generalize l.take i = X1 at *
  generalize l.drop (i + 1) = X2 at *
  generalize wo l i = X at *
  go_enter Try.func47, Try.ntmps47
  go_wp2_with fail
  refine wp_region_state 15 [(6, .slice (some ⟨b, off, none⟩) n c), (7, .int .i64 (i : Nat)), (8, .slice (some ⟨b, off, none⟩) i c), (10, .slice (some ⟨b, off, none⟩) n c), (11, .int .i64 (i : Nat)), (12, .int .i64 ((i : Int) + 1)), (13, .slice (if c = i + 1 then some ⟨b, off, none⟩ else some ⟨b, off + (i + 1), none⟩) (n - (i + 1)) (c - (i + 1)))] (fun L vs w' => Own w w' [cond (L 10) (row 3 1 (vs 4) (n - 1) (ints X)) (cond (L 9) (row 3 1 (vs 14) (n - 1) (ints X)) (cond (L 4) (row 3 1 (vs 9) (i) (ints X1)) (cond (L 0) (row 3 1 (vs 5) 0 []) (row 3 1 (.slice none 0 0) 0 []))))]) (by kernel_rfl) (by kernel_rfl) [5, 6, 7, 8, 9, 10, 11, 12, 13, 14, 4] (by kernel_rfl) rfl (by kernel_rfl) 11 rfl ?_ ?_ ?_
  · exact fun L hL => ((((Own.start w).nil 3 1).sub [0] (by decide) (qs := [row 3 1 (.slice none 0 0) 0 []]) rfl).ext (Below.refl _ _).drew).cast (by simp [hL 9 (by decide), hL 4 (by decide), hL 0 (by decide), hL 10 (by decide)])
  · refine ⟨StepS.of [] (by kernel_rfl) ?_, ?_⟩
    · intro L vs wq hL hA hC hJ
      unfold forAll
      have h1 := hC.no (j := 4) (i := 0) (by kernel_rfl) hL
      have h2 := hC.no (j := 9) (i := 4) (by kernel_rfl) h1
      have h3 := hC.no (j := 10) (i := 9) (by kernel_rfl) h2
      have K := Own.cast (qs := [row 3 1 (.slice none 0 0) 0 []]) hJ (by simp [hL, h1, h2, h3])
      have K2 := ((K.sub [] (by decide) (qs := []) rfl).new' 3 #[] (B := wq.heap.size) rfl).asRow (size := 1) (n := 0) 0 rfl rfl (by unfold maxLen; omega)
      have K3 := K2.sub [0] (by decide) (qs := [row 3 1 (.slice (some ⟨wq.heap.size, 0, none⟩) 0 0) 0 []]) rfl
      exact StepV.val 5 (v := .slice (some ⟨wq.heap.size, 0, none⟩) 0 0) (w' := wq.alloc (.cells #[] 3)) (by kernel_rfl) (by go_simp) rfl (by simp) rfl trivial (K3.cast (by simp [upd, updv, h1, h2, h3]))
    refine ⟨StepS.of [] (by kernel_rfl) ?_, ?_⟩
    · intro L vs wq hL hA hC hJ
      unfold forAll
      exact StepV.val 6 (by kernel_rfl) (by kernel_rfl) rfl (by simp) rfl rfl hJ
    refine ⟨StepS.of [] (by kernel_rfl) ?_, ?_⟩
    · intro L vs wq hL hA hC hJ
      unfold forAll
      exact StepV.val 7 (by kernel_rfl) (by kernel_rfl) rfl (by simp) rfl rfl hJ
    refine ⟨StepS.of [6, 7] (by kernel_rfl) ?_, ?_⟩
    · intro L vs wq hL hA hC hJ h6 h7
      rw [(show vs 6 = .slice (some ⟨b, off, none⟩) n c from h6), (show vs 7 = .int .i64 (i : Nat) from h7)]
      unfold forAll
      exact StepV.val 8 (by kernel_rfl) (by go_simp) rfl (by simp [Act.put]) rfl rfl hJ
    refine ⟨StepS.of [5, 8] (by kernel_rfl) ?_, ?_⟩
    · intro L vs wq hL hA hC hJ h5 h8
      rw [(show vs 8 = .slice (some ⟨b, off, none⟩) i c from h8)]
      unfold forAll
      have hb := afterS hA (i := 0) (by kernel_rfl)
      have h2 := hC.no (j := 9) (i := 4) (by kernel_rfl) hL
      have h3 := hC.no (j := 10) (i := 9) (by kernel_rfl) h2
      have K := Own.cast (qs := [row 3 1 (vs 5) 0 []]) hJ (by simp [hL, hb, h2, h3])
      obtain ⟨A8, c8, e8, ho8⟩ := rd_of_own (K.get 0 rfl)
      rw [e8]
      refine StepV.app 9 rfl (.tmp 5) (.tmp 8) 36 rfl rfl (by simp [Act.put]) rfl st36 0 K rfl (by simp [Act.eval, Act.put, e8]) (by simp [Act.eval, Act.put]; rfl) (i) (ints X1) (ints X1) (by omega) rfl (R1.out wq K.bel) (L1.out) (ints_one X1) (by unfold maxLen; omega) (by omega) ?_
      intro A9 c9 w9 hO9
      exact ⟨trivial, hO9.cast (by simp [upd, updv, hb, h2, h3])⟩
    refine ⟨StepS.of [] (by kernel_rfl) ?_, ?_⟩
    · intro L vs wq hL hA hC hJ
      unfold forAll
      exact StepV.val 10 (by kernel_rfl) (by kernel_rfl) rfl (by simp) rfl rfl hJ
    refine ⟨StepS.of [] (by kernel_rfl) ?_, ?_⟩
    · intro L vs wq hL hA hC hJ
      unfold forAll
      exact StepV.val 11 (by kernel_rfl) (by kernel_rfl) rfl (by simp) rfl rfl hJ
    refine ⟨StepS.of [11] (by kernel_rfl) ?_, ?_⟩
    · intro L vs wq hL hA hC hJ h11
      rw [(show vs 11 = .int .i64 (i : Nat) from h11)]
      unfold forAll
      exact StepV.val 12 (by kernel_rfl) (by go_simp) rfl (by simp [Act.put]) rfl rfl hJ
    refine ⟨StepS.of [10, 12] (by kernel_rfl) ?_, ?_⟩
    · intro L vs wq hL hA hC hJ h10 h12
      rw [(show vs 10 = .slice (some ⟨b, off, none⟩) n c from h10), (show vs 12 = .int .i64 ((i : Int) + 1) from h12)]
      unfold forAll
      exact StepV.val 13 (by kernel_rfl) (by go_simp) rfl (by simp [Act.put]) rfl rfl hJ
    refine ⟨StepS.of [9, 13] (by kernel_rfl) ?_, ?_⟩
    · intro L vs wq hL hA hC hJ h9 h13
      rw [(show vs 13 = .slice (if c = i + 1 then some ⟨b, off, none⟩ else some ⟨b, off + (i + 1), none⟩) (n - (i + 1)) (c - (i + 1)) from h13)]
      unfold forAll
      have ha := afterS hA (i := 4) (by kernel_rfl)
      have h3 := hC.no (j := 10) (i := 9) (by kernel_rfl) hL
      have K := Own.cast (qs := [row 3 1 (vs 9) (i) (ints X1)]) hJ (by simp [hL, ha, h3])
      obtain ⟨A8, c8, e8, ho8⟩ := rd_of_own (K.get 0 rfl)
      rw [e8]
      refine StepV.app 14 rfl (.tmp 9) (.tmp 13) 36 rfl rfl (by simp [Act.put]) rfl st36 0 K rfl (by simp [Act.eval, Act.put, e8]) (by simp [Act.eval, Act.put]; rfl) (n - 1) (ints X) (ints X2) (by omega) (HX.out) (R2.out wq K.bel) (L2.out) (ints_one X2) (by unfold maxLen; omega) (by omega) ?_
      intro A9 c9 w9 hO9
      exact ⟨trivial, hO9.cast (by simp [upd, updv, ha, h3])⟩
    refine ⟨StepS.of [14] (by kernel_rfl) ?_, ?_⟩
    · intro L vs wq hL hA hC hJ h14
      unfold forAll
      have ha := afterS hA (i := 9) (by kernel_rfl)
      have K := Own.cast (qs := [row 3 1 (vs 14) (n - 1) (ints X)]) hJ (by simp [hL, ha])
      exact StepV.val 4 (v := vs 14) (by kernel_rfl) (by kernel_rfl) rfl (by simp [Act.put]) rfl trivial (K.cast (by simp [upd, updv, ha]))
    exact trivial
  · intro vs w9 hJ h5 h6 h7 h8 h9 h10 h11 h12 h13 h14 h4
    rw [(show vs 6 = .slice (some ⟨b, off, none⟩) n c from h6), (show vs 7 = .int .i64 (i : Nat) from h7), (show vs 8 = .slice (some ⟨b, off, none⟩) i c from h8), (show vs 10 = .slice (some ⟨b, off, none⟩) n c from h10), (show vs 11 = .int .i64 (i : Nat) from h11), (show vs 12 = .int .i64 ((i : Int) + 1) from h12), (show vs 13 = .slice (if c = i + 1 then some ⟨b, off, none⟩ else some ⟨b, off + (i + 1), none⟩) (n - (i + 1)) (c - (i + 1)) from h13)]
    clear h5 h6 h7 h8 h9 h10 h11 h12 h13 h14 h4
    have K := Own.cast (qs := [row 3 1 (vs 4) (n - 1) (ints X)]) hJ rfl
    obtain ⟨A9, c9, e9, _⟩ := rd_of_own (K.get 0 rfl)
    rw [e9] at K
    rw [e9]
    have S9 := Lib.hid K
    clear K hJ
    unfold forAll
    simp only [Act.put, List.setIfInBounds_toArray, List.set_cons_zero, List.set_cons_succ]
    go_wp2_with fail
    all_goals
      go_ret
      exact ⟨_, _, rfl, (by have := own_cap (show w9.ownsRow 0 3 1 (.slice A9 (n - 1) c9) (n - 1) (ints X) from S9.out.get 0 rfl); omega), S9.out⟩
end Go.Proofs.Ytnalbchggjepdaa
