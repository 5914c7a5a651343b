/- Ridge: the callees of alive at the chapter's examples. No condition. -/
import Derived.Test.YtjelnbfnoliocaaSc
import Derived.Test.YtjelnbfnoliocaaBm
import Derived.Test.YtjelnbfnoliocaaPf
namespace Go.Proofs.Ytjelnbfnoliocaa
open Go.RowKit Go.Shelf

theorem bin_ex (P A A' : Option Addr) (np n n' : Nat) (w : World) (hp : Rd w P (u8s [99, 100, 101])) (hr : Rd w A (u8s [0, 50, 100])) (hr' : Rd w A' (u8s [200, 150, 102])) :
    Calls Try.prog 20 #[.agg #[.int .i64 3, .int .i64 1, .slice P 3 np], .agg #[.int .i64 3, .int .i64 1, .slice A 3 n, .slice A' 3 n']] w fun e w' =>
      ∃ B c, e = .returned (.tuple #[.agg #[.int .i64 3, .int .i64 1, .slice B 3 c], .int .i64 0]) ∧ Rd w' B (bools [true, false, false]) ∧ Below w.heap.size w w' := by
  refine (binary_any 3 1 3 1 P A A' [99, 100, 101] [0, 50, 100] [200, 150, 102] 3 np 3 n 3 n' w hp hr hr' rfl rfl rfl (by unfold U8; simp) (by unfold U8; simp) (by unfold U8; simp) 0 (by decide)).mono ?_
  rintro e w' ⟨B, c, he, ho, hb⟩
  exact ⟨B, c, he, ho.rd, hb⟩
theorem sure_ex (P A A' : Option Addr) (np n n' : Nat) (w : World) (hp : Rd w P (u8s [99, 100, 101])) (hr : Rd w A (u8s [0, 50, 100])) (hr' : Rd w A' (u8s [200, 150, 102])) :
    Calls Try.prog 23 #[.agg #[.int .i64 3, .int .i64 1, .slice P 3 np], .agg #[.int .i64 3, .int .i64 1, .slice A 3 n, .slice A' 3 n'], .int .i64 0] w fun e w' =>
      ∃ B c, e = .returned (.tuple #[.slice B 3 c, .int .i64 0]) ∧ Rd w' B (bools [true, false, false]) ∧ Below w.heap.size w w' := by
  refine (sure_any 3 1 3 1 0 P A A' [99, 100, 101] [0, 50, 100] [200, 150, 102] 3 np 3 n 3 n' w hp hr hr' rfl rfl rfl (by unfold U8; simp) (by unfold U8; simp) (by unfold U8; simp) 0 (by decide)).mono ?_
  rintro e w' ⟨B, c, he, ho, hb⟩
  exact ⟨B, c, he, ho.rd, hb⟩
theorem cross_ex (A : Option Addr) (c : Nat) (w : World) (hr : Rd w A (bools p1)) :
    Calls Try.prog 35 #[.agg #[.int .i64 3, .int .i64 3, .slice A 9 c], .int .i64 1, .int .i64 1] w fun e w' => e = .returned (.tuple #[.int .i64 2, .int .i64 0]) ∧ Below w.heap.size w w' := by
  have h := Crossings_any 3 3 1 1 A p1 9 c w hr rfl
  rw [show askedF 3 3 9 1 1 = 0 by decide +kernel, if_pos rfl, v_cross] at h
  exact h
theorem min_ex (A : Option Addr) (c : Nat) (w : World) (hr : Rd w A (bools p2)) :
    Calls Try.prog 39 #[.agg #[.int .i64 5, .int .i64 3, .slice A 15 c], .int .i64 0] w (MinPost 5 3 p2 [(1, 1), (3, 1)] 0 w) := by
  have h := min_ok 5 3 0 A p2 15 c w (by decide) (by decide) hr rfl
  rwa [v_min] at h
end Go.Proofs.Ytjelnbfnoliocaa
