/- Rates: Tailed, Tail, Choose, ValidShare and Differ of the reference; Differ of the program. No condition. -/
import Derived.Test.YtnalbchggjepdaaTd
namespace Go.Proofs.Ytnalbchggjepdaa
open Go.RowKit

theorem refWays_at (A b : Int) (a : Nat) (w : World) (hA : A = a) (ha : a ≤ 50) : Calls Try.prog 56 #[.int .i64 A, .int .i64 b] w fun e w' => e = .returned (.int .i64 (waysF a b)) ∧ Below w.heap.size w w' := by
  subst hA
  exact refWays_any a b w ha
theorem waysF_nat (a b : Nat) : waysF (a : Int) (b : Int) = ((pas a b : Nat) : Int) := by
  unfold waysF
  by_cases h : b ≤ a
  · rw [if_pos (by omega)]; simp
  · rw [if_neg (by omega), pas_gt a b (by omega)]; rfl
theorem refWays_nat (A B : Int) (a b : Nat) (w : World) (hA : A = a) (hB : B = b) (ha : a ≤ 50) : Calls Try.prog 56 #[.int .i64 A, .int .i64 B] w fun e w' => e = .returned (.int .i64 ((pas a b : Nat) : Int)) ∧ Below w.heap.size w w' := by
  subst hB
  exact (refWays_at A b a w hA ha).mono fun e w' h => by rwa [waysF_nat] at h
set_option maxRecDepth 100000 in
set_option maxHeartbeats 1000000 in
theorem refTailed_any (k n h m : Nat) (H : Int) (w : World) (hH : H = h) (bn : n ≤ 25) (bm : m ≤ 25) (bk : k ≤ n) (bh : h ≤ n + m) :
    Calls Try.prog 57 #[.int .i64 k, .int .i64 n, .int .i64 H, .int .i64 m] w fun e w' => e = .returned (.int .i64 ((tail k n h m : Nat) : Int)) ∧ Below w.heap.size w w' := by
  subst hH
  go_enter Try.func57, Try.ntmps57
  go_wp2_with fail
  go_loopw [9, 10] (fun u9 u10 wr => ∃ j : Nat, j ≤ n + 1 - k ∧ u9 = .int .i64 ((sumF (term n h m) k j : Nat) : Int) ∧ u10 = .int .i64 ((k : Int) + (j : Int)) ∧ Below w.heap.size w wr) (fun _ u10 _ => 60 - (intOf u10).toNat)
  case atStart => exact ⟨0, Nat.zero_le _, rfl, by simp, Below.refl _ _⟩
  case round =>
    obtain ⟨j, hj, rfl, rfl, hb⟩ := hrel
    by_cases hlt : j < n + 1 - k
    · have hjn : k + j ≤ n := by omega
      have hpm := pas_mul h (k + j) (n + m - h) (n - (k + j)) (by omega)
      have hsl := sumF_le (term n h m) k j 1125899906842624 (fun i => pas_mul _ _ _ _ (by omega))
      have hs2 : Hid (((sumF (term n h m) k (j + 1) : Nat) : Int) = (sumF (term n h m) k j : Nat) + ((pas h (k + j) : Nat) : Int) * ((pas (n + m - h) (n - (k + j)) : Nat) : Int)) := by
        show ((sumF _ k j + pas h (k + j) * pas (n + m - h) (n - (k + j)) : Nat) : Int) = _
        simp
      have hpi : (((pas h (k + j) : Nat) : Int) * ((pas (n + m - h) (n - (k + j)) : Nat) : Int)) ≤ 1125899906842624 := by rw [← Int.natCast_mul]; omega
      have hp0 : 0 ≤ (((pas h (k + j) : Nat) : Int) * ((pas (n + m - h) (n - (k + j)) : Nat) : Int)) := by rw [← Int.natCast_mul]; omega
      have hj26 : j * 1125899906842624 ≤ 30000000000000000 := by omega
      go_wp2_with fail
      refine (refWays_nat _ _ h (k + j) _ rfl (by omega) (by omega)).mono ?_
      rintro e w1 ⟨rfl, hb1⟩
      go_wp2_with fail
      refine (refWays_nat _ _ (n + m - h) (n - (k + j)) _ (by omega) (by omega) (by omega)).mono ?_
      rintro e w2 ⟨rfl, hb2⟩
      generalize pas h (k + j) = v1 at *
      generalize pas (n + m - h) (n - (k + j)) = v2 at *
      generalize sumF (term n h m) k j = v3 at *
      have e8 : IntKind.i64.wrap ((v1 : Int) * (v2 : Int)) = (v1 : Int) * (v2 : Int) := IntWalk.i64_in _ (by omega)
      have e9 : IntKind.i64.wrap ((v3 : Int) + (v1 : Int) * (v2 : Int)) = (v3 : Int) + (v1 : Int) * (v2 : Int) := IntWalk.i64_in _ (by omega)
      clear hpm hsl
      go_wp2_with fail
      clear e8 e9
      go_roundw
      case rel => exact ⟨j + 1, by omega, by rw [hs2.out], by go_num, below_step (below_step hb hb1) hb2⟩
      case measure => simp [intOf]; omega
    · obtain rfl : j = n + 1 - k := by omega
      go_wp2_with fail
      go_ret
      exact ⟨rfl, hb⟩

set_option maxHeartbeats 400000 in
theorem refChoose_any (a b : Int) (w : World) : Calls Try.prog 20 #[.int .i64 a, .int .i64 b] w fun e w' => e = .returned (.tuple #[.int .i64 (chooseF a b).1, .int .i64 (chooseF a b).2]) ∧ Below w.heap.size w w' := by
  cases h1 : inB 0 50 a
  · have HP := Lib.hid (show chooseF a b = (0, 2) by simp [chooseF, h1])
    go_enter Try.func20, Try.ntmps20
    go_wp2_with (go_at_call 55; refine (within_any _ _ _ _).mono ?_; rintro e w' ⟨rfl, rfl⟩)
    go_ret2
    exact ⟨by rw [HP.out]; rfl, Below.refl _ _⟩
  cases h2 : inB 0 a b
  · have HP := Lib.hid (show chooseF a b = (0, 2) by simp [chooseF, h2])
    go_enter Try.func20, Try.ntmps20
    go_wp2_with (go_at_call 55; refine (within_any _ _ _ _).mono ?_; rintro e w' ⟨rfl, rfl⟩)
    go_ret2
    exact ⟨by rw [HP.out]; rfl, Below.refl _ _⟩
  · have HP := Lib.hid (show chooseF a b = (((pas a.toNat b.toNat : Nat) : Int), 0) by simp [chooseF, h1, h2])
    have ha : 0 ≤ a ∧ a ≤ 50 := by simpa [inB] using h1
    have hb : 0 ≤ b ∧ b ≤ a := by simpa [inB] using h2
    obtain ⟨a, rfl⟩ := Int.eq_ofNat_of_zero_le ha.1
    obtain ⟨b, rfl⟩ := Int.eq_ofNat_of_zero_le hb.1
    go_enter Try.func20, Try.ntmps20
    go_wp2_with (go_at_call 55; refine (within_any _ _ _ _).mono ?_; rintro e w' ⟨rfl, rfl⟩)
    refine (refWays_nat _ _ a b _ rfl rfl (by omega)).mono ?_
    rintro e w1 ⟨rfl, hb1⟩
    go_wp2_with fail
    go_ret2
    exact ⟨by rw [HP.out]; rfl, hb1⟩
set_option maxHeartbeats 400000 in
theorem refTail_any (k n l m : Int) (w : World) : Calls Try.prog 22 #[.int .i64 k, .int .i64 n, .int .i64 l, .int .i64 m] w fun e w' => e = .returned (.tuple #[.int .i64 (tailF k n l m).1, .int .i64 (tailF k n l m).2]) ∧ Below w.heap.size w w' := by
  cases h1 : inB 0 25 n
  · have HP := Lib.hid (show tailF k n l m = (0, 2) by simp [tailF, tailOk, h1])
    go_enter Try.func22, Try.ntmps22
    go_wp2_with (go_at_call 55; refine (within_any _ _ _ _).mono ?_; rintro e w' ⟨rfl, rfl⟩)
    go_ret2
    exact ⟨by rw [HP.out]; rfl, Below.refl _ _⟩
  cases h2 : inB 0 25 m
  · have HP := Lib.hid (show tailF k n l m = (0, 2) by simp [tailF, tailOk, h2])
    go_enter Try.func22, Try.ntmps22
    go_wp2_with (go_at_call 55; refine (within_any _ _ _ _).mono ?_; rintro e w' ⟨rfl, rfl⟩)
    go_ret2
    exact ⟨by rw [HP.out]; rfl, Below.refl _ _⟩
  cases h3 : inB 0 n k
  · have HP := Lib.hid (show tailF k n l m = (0, 2) by simp [tailF, tailOk, h3])
    go_enter Try.func22, Try.ntmps22
    go_wp2_with (go_at_call 55; refine (within_any _ _ _ _).mono ?_; rintro e w' ⟨rfl, rfl⟩)
    go_ret2
    exact ⟨by rw [HP.out]; rfl, Below.refl _ _⟩
  cases h4 : inB 0 m l
  · have HP := Lib.hid (show tailF k n l m = (0, 2) by simp [tailF, tailOk, h4])
    go_enter Try.func22, Try.ntmps22
    go_wp2_with (go_at_call 55; refine (within_any _ _ _ _).mono ?_; rintro e w' ⟨rfl, rfl⟩)
    go_ret2
    exact ⟨by rw [HP.out]; rfl, Below.refl _ _⟩
  · have HP := Lib.hid (show tailF k n l m = (((tail k.toNat n.toNat (k.toNat + l.toNat) m.toNat : Nat) : Int), 0) by simp [tailF, tailOk, h1, h2, h3, h4])
    have b1 : 0 ≤ n ∧ n ≤ 25 := by simpa [inB] using h1
    have b2 : 0 ≤ m ∧ m ≤ 25 := by simpa [inB] using h2
    have b3 : 0 ≤ k ∧ k ≤ n := by simpa [inB] using h3
    have b4 : 0 ≤ l ∧ l ≤ m := by simpa [inB] using h4
    obtain ⟨k, rfl⟩ := Int.eq_ofNat_of_zero_le b3.1
    obtain ⟨n, rfl⟩ := Int.eq_ofNat_of_zero_le b1.1
    obtain ⟨l, rfl⟩ := Int.eq_ofNat_of_zero_le b4.1
    obtain ⟨m, rfl⟩ := Int.eq_ofNat_of_zero_le b2.1
    simp only [Int.toNat_natCast] at HP
    go_enter Try.func22, Try.ntmps22
    go_wp2_with (go_at_call 55; refine (within_any _ _ _ _).mono ?_; rintro e w' ⟨rfl, rfl⟩)
    refine (refTailed_any k n (k + l) m _ _ (by omega) (by omega) (by omega) (by omega) (by omega)).mono ?_
    rintro e w1 ⟨rfl, hb1⟩
    go_wp2_with fail
    go_ret2
    exact ⟨by rw [HP.out]; rfl, hb1⟩
set_option maxHeartbeats 400000 in
theorem validShare_any (num den : Int) (w : World) : Calls Try.prog 48 #[.agg #[.int .i64 num, .int .i64 den]] w fun e w' => e = .returned (.bool (shareB num den)) ∧ Below w.heap.size w w' := by
  cases h1 : inB 1 1000 den
  all_goals
    have HP := Lib.hid (show shareB num den = (inB 1 1000 den && inB 0 den num) from rfl)
    go_enter Try.func48, Try.ntmps48
    go_wp2_with (go_at_call 55; refine (within_any _ _ _ _).mono ?_; rintro e w' ⟨rfl, rfl⟩)
    go_ret
    exact ⟨by rw [HP.out, h1]; rfl, below_alloc _ _⟩

theorem wrap_eq (x : Int) : IntKind.i64.wrap x = wrap64 x := by rw [IntKind.wrap_i64]; unfold wrap64; rfl
/-- Whether two groups differ. -/
def differF (k n l m num den : Int) : Bool × Int :=
  if tailOk k n l m then (if shareB num den then (decide (wrap64 ((tailF k n l m).1 * den) ≤ wrap64 (num * ((pas (n.toNat + m.toNat) n.toNat : Nat) : Int))), 0) else (false, 2)) else (false, 2)
end Go.Proofs.Ytnalbchggjepdaa
