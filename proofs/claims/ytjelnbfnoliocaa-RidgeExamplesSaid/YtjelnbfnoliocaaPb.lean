/- Ridge: the reference's Step. No condition. -/
import Derived.Test.YtjelnbfnoliocaaPa
namespace Go.Proofs.Ytjelnbfnoliocaa
open Go.RowKit

set_option maxRecDepth 100000 in
set_option maxHeartbeats 400000 in
theorem refStep0 (x y : Int) (d : Nat) (w : World) (hmi : (d : Int) % 8 = 0) (hd : d ≤ 20) (hx : -100 ≤ x ∧ x ≤ 100) (hy : -100 ≤ y ∧ y ≤ 100) :
    Calls Try.prog 76 #[.int .i64 x, .int .i64 y, .int .i64 d] w fun e w' => e = .returned (.tuple #[.int .i64 (x + 1), .int .i64 (y)]) ∧ Below w.heap.size w w' := by
  go_enter Try.func76, Try.ntmps76
  go_wp2_with fail
  go_region
  all_goals go_wp2_with fail
  all_goals go_ret2
  all_goals exact ⟨rfl, below_more (below_more (Below.refl _ _).drew _) _⟩
set_option maxRecDepth 100000 in
set_option maxHeartbeats 400000 in
theorem refStep1 (x y : Int) (d : Nat) (w : World) (hmi : (d : Int) % 8 = 1) (hd : d ≤ 20) (hx : -100 ≤ x ∧ x ≤ 100) (hy : -100 ≤ y ∧ y ≤ 100) :
    Calls Try.prog 76 #[.int .i64 x, .int .i64 y, .int .i64 d] w fun e w' => e = .returned (.tuple #[.int .i64 (x + 1), .int .i64 (y + 1)]) ∧ Below w.heap.size w w' := by
  go_enter Try.func76, Try.ntmps76
  go_wp2_with fail
  go_region
  all_goals go_wp2_with fail
  all_goals go_ret2
  all_goals exact ⟨rfl, below_more (below_more (Below.refl _ _).drew _) _⟩
set_option maxRecDepth 100000 in
set_option maxHeartbeats 400000 in
theorem refStep2 (x y : Int) (d : Nat) (w : World) (hmi : (d : Int) % 8 = 2) (hd : d ≤ 20) (hx : -100 ≤ x ∧ x ≤ 100) (hy : -100 ≤ y ∧ y ≤ 100) :
    Calls Try.prog 76 #[.int .i64 x, .int .i64 y, .int .i64 d] w fun e w' => e = .returned (.tuple #[.int .i64 (x), .int .i64 (y + 1)]) ∧ Below w.heap.size w w' := by
  go_enter Try.func76, Try.ntmps76
  go_wp2_with fail
  go_region
  all_goals go_wp2_with fail
  all_goals go_ret2
  all_goals exact ⟨rfl, below_more (below_more (Below.refl _ _).drew _) _⟩
set_option maxRecDepth 100000 in
set_option maxHeartbeats 400000 in
theorem refStep3 (x y : Int) (d : Nat) (w : World) (hmi : (d : Int) % 8 = 3) (hd : d ≤ 20) (hx : -100 ≤ x ∧ x ≤ 100) (hy : -100 ≤ y ∧ y ≤ 100) :
    Calls Try.prog 76 #[.int .i64 x, .int .i64 y, .int .i64 d] w fun e w' => e = .returned (.tuple #[.int .i64 (x + -1), .int .i64 (y + 1)]) ∧ Below w.heap.size w w' := by
  go_enter Try.func76, Try.ntmps76
  go_wp2_with fail
  go_region
  all_goals go_wp2_with fail
  all_goals go_ret2
  all_goals exact ⟨rfl, below_more (below_more (Below.refl _ _).drew _) _⟩
set_option maxRecDepth 100000 in
set_option maxHeartbeats 400000 in
theorem refStep4 (x y : Int) (d : Nat) (w : World) (hmi : (d : Int) % 8 = 4) (hd : d ≤ 20) (hx : -100 ≤ x ∧ x ≤ 100) (hy : -100 ≤ y ∧ y ≤ 100) :
    Calls Try.prog 76 #[.int .i64 x, .int .i64 y, .int .i64 d] w fun e w' => e = .returned (.tuple #[.int .i64 (x + -1), .int .i64 (y)]) ∧ Below w.heap.size w w' := by
  go_enter Try.func76, Try.ntmps76
  go_wp2_with fail
  go_region
  all_goals go_wp2_with fail
  all_goals go_ret2
  all_goals exact ⟨rfl, below_more (below_more (Below.refl _ _).drew _) _⟩
set_option maxRecDepth 100000 in
set_option maxHeartbeats 400000 in
theorem refStep5 (x y : Int) (d : Nat) (w : World) (hmi : (d : Int) % 8 = 5) (hd : d ≤ 20) (hx : -100 ≤ x ∧ x ≤ 100) (hy : -100 ≤ y ∧ y ≤ 100) :
    Calls Try.prog 76 #[.int .i64 x, .int .i64 y, .int .i64 d] w fun e w' => e = .returned (.tuple #[.int .i64 (x + -1), .int .i64 (y + -1)]) ∧ Below w.heap.size w w' := by
  go_enter Try.func76, Try.ntmps76
  go_wp2_with fail
  go_region
  all_goals go_wp2_with fail
  all_goals go_ret2
  all_goals exact ⟨rfl, below_more (below_more (Below.refl _ _).drew _) _⟩
set_option maxRecDepth 100000 in
set_option maxHeartbeats 400000 in
theorem refStep6 (x y : Int) (d : Nat) (w : World) (hmi : (d : Int) % 8 = 6) (hd : d ≤ 20) (hx : -100 ≤ x ∧ x ≤ 100) (hy : -100 ≤ y ∧ y ≤ 100) :
    Calls Try.prog 76 #[.int .i64 x, .int .i64 y, .int .i64 d] w fun e w' => e = .returned (.tuple #[.int .i64 (x), .int .i64 (y + -1)]) ∧ Below w.heap.size w w' := by
  go_enter Try.func76, Try.ntmps76
  go_wp2_with fail
  go_region
  all_goals go_wp2_with fail
  all_goals go_ret2
  all_goals exact ⟨rfl, below_more (below_more (Below.refl _ _).drew _) _⟩
set_option maxRecDepth 100000 in
set_option maxHeartbeats 400000 in
theorem refStep7 (x y : Int) (d : Nat) (w : World) (hmi : (d : Int) % 8 = 7) (hd : d ≤ 20) (hx : -100 ≤ x ∧ x ≤ 100) (hy : -100 ≤ y ∧ y ≤ 100) :
    Calls Try.prog 76 #[.int .i64 x, .int .i64 y, .int .i64 d] w fun e w' => e = .returned (.tuple #[.int .i64 (x + 1), .int .i64 (y + -1)]) ∧ Below w.heap.size w w' := by
  go_enter Try.func76, Try.ntmps76
  go_wp2_with fail
  go_region
  all_goals go_wp2_with fail
  all_goals go_ret2
  all_goals exact ⟨rfl, below_more (below_more (Below.refl _ _).drew _) _⟩
theorem refStep_any (x y D : Int) (d : Nat) (w : World) (hD : D = d) (hd : d ≤ 20) (hx : -100 ≤ x ∧ x ≤ 100) (hy : -100 ≤ y ∧ y ≤ 100) :
    Calls Try.prog 76 #[.int .i64 x, .int .i64 y, .int .i64 D] w fun e w' => e = .returned (.tuple #[.int .i64 (x + dx d), .int .i64 (y + dy d)]) ∧ Below w.heap.size w w' := by
  subst hD
  obtain ⟨m, hm⟩ : ∃ m, d % 8 = m := ⟨_, rfl⟩
  have hm8 : m < 8 := by omega
  have HX : dx d = (dir m).x := by rw [dx, hm]
  have HY : dy d = (dir m).y := by rw [dy, hm]
  rw [HX, HY]
  obtain rfl | rfl | rfl | rfl | rfl | rfl | rfl | rfl : m = 0 ∨ m = 1 ∨ m = 2 ∨ m = 3 ∨ m = 4 ∨ m = 5 ∨ m = 6 ∨ m = 7 := by omega
  · refine (refStep0 x y d w (by omega) hd hx hy).mono fun e w' h => ?_
    simpa [dir, steps] using h
  · refine (refStep1 x y d w (by omega) hd hx hy).mono fun e w' h => ?_
    simpa [dir, steps] using h
  · refine (refStep2 x y d w (by omega) hd hx hy).mono fun e w' h => ?_
    simpa [dir, steps] using h
  · refine (refStep3 x y d w (by omega) hd hx hy).mono fun e w' h => ?_
    simpa [dir, steps] using h
  · refine (refStep4 x y d w (by omega) hd hx hy).mono fun e w' h => ?_
    simpa [dir, steps] using h
  · refine (refStep5 x y d w (by omega) hd hx hy).mono fun e w' h => ?_
    simpa [dir, steps] using h
  · refine (refStep6 x y d w (by omega) hd hx hy).mono fun e w' h => ?_
    simpa [dir, steps] using h
  · refine (refStep7 x y d w (by omega) hd hx hy).mono fun e w' h => ?_
    simpa [dir, steps] using h
end Go.Proofs.Ytjelnbfnoliocaa
