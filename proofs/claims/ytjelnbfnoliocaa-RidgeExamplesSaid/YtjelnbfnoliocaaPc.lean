/- Ridge: the neighbours of a pixel, turns and crossings, of the program. No condition. -/
import Derived.Test.YtjelnbfnoliocaaPa
namespace Go.Proofs.Ytjelnbfnoliocaa
open Go.RowKit

/-- The ways to the neighbours as a value. -/
def dirV (k : Nat) : Value := .agg #[.int .i64 (dx k), .int .i64 (dy k)]
def stepsV : Value := .agg #[.int .i64 1, .int .i64 0, .int .i64 1, .int .i64 1, .int .i64 0, .int .i64 1, .int .i64 (-1), .int .i64 1, .int .i64 (-1), .int .i64 0, .int .i64 (-1), .int .i64 (-1), .int .i64 0, .int .i64 (-1), .int .i64 1, .int .i64 (-1)]
set_option maxRecDepth 100000 in
set_option maxHeartbeats 400000 in
theorem steps_any (w : World) : Calls Try.prog 81 #[] w fun e w' => e = .returned stepsV ∧ Below w.heap.size w w' := by
  go_enter Try.func81, Try.ntmps81
  go_wp2_with fail
  refine bodyPost_ret (v := stepsV) (by simp [results, Try.results81, go_sem, stepsV]) rfl ⟨rfl, ?_⟩
  exact (below_alloc _ _)
theorem index_step (w : World) (k : Nat) (h : k < 8) : (Instr.index 114 stepsV (.int .i64 (k : Int))).run Try.prog w = .ok (dirV k) w := by
  obtain rfl | rfl | rfl | rfl | rfl | rfl | rfl | rfl : k = 0 ∨ k = 1 ∨ k = 2 ∨ k = 3 ∨ k = 4 ∨ k = 5 ∨ k = 6 ∨ k = 7 := by omega
  all_goals kernel_rfl
/-- A round of neighbours as a value. -/
def ringV (r : Nat → Bool) : Value := .agg #[.bool (r 0), .bool (r 1), .bool (r 2), .bool (r 3), .bool (r 4), .bool (r 5), .bool (r 6), .bool (r 7)]
def turnsN (r : Nat → Bool) : Nat → Nat
  | 0 => 0
  | j + 1 => turnsN r j + (if !r (2 * j) && (r (2 * j + 1) || r ((2 * j + 2) % 8)) then 1 else 0)
def crossN (r : Nat → Bool) : Nat → Nat
  | 0 => 0
  | j + 1 => crossN r j + (if !r j && r ((j + 1) % 8) then 1 else 0)
theorem turnsN_le (r : Nat → Bool) (j : Nat) : turnsN r j ≤ j := by
  induction j with
  | zero => exact Nat.le_refl _
  | succ j ih => rw [turnsN]; split <;> omega
theorem crossN_le (r : Nat → Bool) (j : Nat) : crossN r j ≤ j := by
  induction j with
  | zero => exact Nat.le_refl _
  | succ j ih => rw [crossN]; split <;> omega
theorem ring_cells (w : World) (r : Nat → Bool) (B : Nat) (h : Box w B [.bool (r 0), .bool (r 1), .bool (r 2), .bool (r 3), .bool (r 4), .bool (r 5), .bool (r 6), .bool (r 7)]) (k : Nat) (hk : k < 8) : w.cell? ⟨B, k, none⟩ = some (.bool (r k)) := by
  refine h.1 k _ ?_
  obtain rfl | rfl | rfl | rfl | rfl | rfl | rfl | rfl : k = 0 ∨ k = 1 ∨ k = 2 ∨ k = 3 ∨ k = 4 ∨ k = 5 ∨ k = 6 ∨ k = 7 := by omega
  all_goals rfl
set_option maxRecDepth 100000 in
set_option maxHeartbeats 1000000 in
theorem turns_any (r : Nat → Bool) (w : World) : Calls Try.prog 64 #[ringV r] w fun e w' => e = .returned (.int .i64 (turnsN r 4 : Nat)) ∧ Below w.heap.size w w' := by
  have q0 := Lib.hid (Box.new w 97 #[.bool (r 0), .bool (r 1), .bool (r 2), .bool (r 3), .bool (r 4), .bool (r 5), .bool (r 6), .bool (r 7)])
  have qb := below_alloc w (.cells #[.bool (r 0), .bool (r 1), .bool (r 2), .bool (r 3), .bool (r 4), .bool (r 5), .bool (r 6), .bool (r 7)] 97)
  unfold ringV
  go_enter Try.func64, Try.ntmps64
  go_wp2_with fail
  generalize w.alloc (.cells #[.bool (r 0), .bool (r 1), .bool (r 2), .bool (r 3), .bool (r 4), .bool (r 5), .bool (r 6), .bool (r 7)] 97) = W0 at *
  have HC := Lib.hid (ring_cells W0 r _ q0.out)
  go_loop [3, 4] (fun u3 u4 => ∃ j : Nat, j ≤ 4 ∧ u4 = .int .i64 (2 * (j : Int)) ∧ u3 = .int .i64 (turnsN r j : Nat)) (fun _ u4 => 20 - (intOf u4).toNat)
  case atStart => exact ⟨0, by omega, rfl, rfl⟩
  case round =>
    obtain ⟨j, hj, rfl, rfl⟩ := hrel
    have htj := turnsN_le r j
    by_cases hlt : j < 4
    · have c0 := HC.out (2 * j) (by omega)
      have c1 := HC.out (2 * j + 1) (by omega)
      have c2 := HC.out ((2 * j + 2) % 8) (by omega)
      have HS := Lib.hid (show turnsN r (j + 1) = turnsN r j + (if !r (2 * j) && (r (2 * j + 1) || r ((2 * j + 2) % 8)) then 1 else 0) from rfl)
      have e1 : ((2 * (j : Int) + 2) % 8).toNat = (2 * j + 2) % 8 := by omega
      generalize r (2 * j) = v0 at *
      generalize r (2 * j + 1) = v1 at *
      generalize r ((2 * j + 2) % 8) = v2 at *
      cases v0 <;> cases v1 <;> cases v2
      all_goals
        go_wp2_with fail
        go_round
        case rel => exact ⟨j + 1, by omega, by go_num, by rw [HS.out]; first | rfl | (simp)⟩
        case measure => simp [intOf]; omega
    · obtain rfl : j = 4 := by omega
      go_wp2_with fail
      go_ret
      exact ⟨rfl, qb⟩
end Go.Proofs.Ytjelnbfnoliocaa
