/- Ridge: Euler's formula as a sum, row by row. Plain. No condition. -/
import Derived.Test.YtjelnbfnoliocaaTa
namespace Go.Proofs.Ytjelnbfnoliocaa

/-- The square at a place: it, the one to its right, the two below. -/
def sqF (W H : Int) (l : List Bool) (x y : Int) : Int := q4 (isF W H l x y) (isF W H l (x + 1) y) (isF W H l x (y + 1)) (isF W H l (x + 1) (y + 1))
def rowS (W H : Int) (l : List Bool) (j i : Nat) : Int := sumZ (fun i => sqF W H l ((i : Int) - 1) ((j : Int) - 1)) i
def allS (W H : Int) (l : List Bool) (a j : Nat) : Int := sumZ (fun j => rowS W H l j a) j
theorem q4_bd (p q r s : Bool) : -2 ≤ q4 p q r s ∧ q4 p q r s ≤ 2 := by revert p q r s; decide
theorem sumZ_bd {f : Nat → Int} {b : Int} (h : ∀ i, -b ≤ f i ∧ f i ≤ b) : ∀ n : Nat, -(b * n) ≤ sumZ f n ∧ sumZ f n ≤ b * n
  | 0 => by simp [sumZ]
  | n + 1 => by
    have ih := sumZ_bd h n
    have h1 := h n
    rw [sumZ]
    have e : b * ((n + 1 : Nat) : Int) = b * n + b := by rw [Int.natCast_add, Int.mul_add]; simp
    rw [e]
    omega
theorem rowS_bd (W H : Int) (l : List Bool) (j i : Nat) : -(2 * (i : Int)) ≤ rowS W H l j i ∧ rowS W H l j i ≤ 2 * (i : Int) := sumZ_bd (fun _ => q4_bd _ _ _ _) i
theorem allS_bd (W H : Int) (l : List Bool) {a : Nat} (ha : a ≤ 21) {j : Nat} (hj : j ≤ 21) : -882 ≤ allS W H l a j ∧ allS W H l a j ≤ 882 := by
  have h := sumZ_bd (f := fun j => rowS W H l j a) (b := 42) (fun i => by have := rowS_bd W H l i a; omega) j
  unfold allS
  omega
theorem rowS_succ (W H : Int) (l : List Bool) (j i : Nat) : rowS W H l j (i + 1) = rowS W H l j i + sqF W H l ((i : Int) - 1) ((j : Int) - 1) := rfl
theorem allS_succ (W H : Int) (l : List Bool) (a j : Nat) : allS W H l a (j + 1) = allS W H l a j + rowS W H l j a := rfl
theorem sq_sqF (W H : Nat) (l : List Bool) (j i : Nat) : sq (picB W H l) j i = sqF W H l ((i : Int) - 1) ((j : Int) - 1) := by
  unfold sq sqF picB
  simp only
  rw [Int.sub_add_cancel, Int.sub_add_cancel]
theorem eulerS (W H : Nat) (l : List Bool) (hW : 0 < W) (hH : 0 < H) : 4 * (ridgesF W H l - lakesF W H l) = allS W H l (W + 1) (H + 1) := by
  rw [eulerF W H l hW hH]
  unfold squares allS rowS
  have h : ∀ j, sq (picB W H l) j = fun i : Nat => sqF W H l ((i : Int) - 1) ((j : Int) - 1) := fun j => funext fun i => sq_sqF W H l j i
  simp only [h]
  rfl
def cnt4 (p q r s : Bool) : Nat := [p, q, r, s].countP id
end Go.Proofs.Ytjelnbfnoliocaa
