/- Numbers of ways to choose, and tails; plain mathematics, no program in sight. No condition. -/
namespace Go.Proofs.Ytnalbchggjepdaa

def pas : Nat → Nat → Nat
  | _, 0 => 1
  | 0, _ + 1 => 0
  | a + 1, b + 1 => pas a b + pas a (b + 1)

theorem pas_zero (a : Nat) : pas a 0 = 1 := by cases a <;> rfl
theorem pas_succ (a b : Nat) : pas (a + 1) (b + 1) = pas a b + pas a (b + 1) := rfl
theorem pas_gt : ∀ (a b : Nat), a < b → pas a b = 0 := by
  intro a
  induction a with
  | zero => intro b h; cases b with
    | zero => omega
    | succ b => rfl
  | succ a ih => intro b h; cases b with
    | zero => omega
    | succ b => rw [pas_succ, ih b (by omega), ih (b + 1) (by omega)]
theorem pas_self (a : Nat) : pas a a = 1 := by
  induction a with
  | zero => rfl
  | succ a ih => rw [pas_succ, ih, pas_gt a (a + 1) (by omega)]
theorem pas_le : ∀ (a b : Nat), pas a b ≤ 2 ^ a := by
  intro a
  induction a with
  | zero => intro b; cases b <;> simp [pas]
  | succ a ih => intro b; cases b with
    | zero => rw [pas_zero]; exact Nat.one_le_two_pow
    | succ b => rw [pas_succ, Nat.pow_succ]; have := ih b; have := ih (b + 1); omega
theorem pas_pos : ∀ (a b : Nat), b ≤ a → 1 ≤ pas a b := by
  intro a
  induction a with
  | zero => intro b h; obtain rfl : b = 0 := by omega
            exact Nat.le_refl _
  | succ a ih => intro b h; cases b with
    | zero => rw [pas_zero]; omega
    | succ b => rw [pas_succ]; have := ih b (by omega); omega

/-- The sum of f over the j numbers from k on. -/
def sumF (f : Nat → Nat) (k : Nat) : Nat → Nat
  | 0 => 0
  | j + 1 => sumF f k j + f (k + j)
theorem sumF_zero (f : Nat → Nat) (k j : Nat) (h : ∀ i, k ≤ i → i < k + j → f i = 0) : sumF f k j = 0 := by
  induction j with
  | zero => rfl
  | succ j ih => rw [sumF, ih (fun i h1 h2 => h i h1 (by omega)), h (k + j) (by omega) (by omega)]
theorem sumF_split (f : Nat → Nat) (k i j : Nat) : sumF f k (i + j) = sumF f k i + sumF f (k + i) j := by
  induction j with
  | zero => rfl
  | succ j ih => rw [← Nat.add_assoc, sumF, ih, sumF, Nat.add_assoc, Nat.add_assoc k i j]
theorem sumF_le (f : Nat → Nat) (k j b : Nat) (h : ∀ i, f i ≤ b) : sumF f k j ≤ j * b := by
  induction j with
  | zero => simp [sumF]
  | succ j ih => rw [sumF, Nat.add_mul]; have := h (k + j); omega
/-- One summand of a tail. -/
def term (n h m i : Nat) : Nat := pas h i * pas (n + m - h) (n - i)
theorem term_le (n h m i : Nat) (hh : h ≤ n + m) : term n h m i ≤ 2 ^ (n + m) := by
  have h1 := pas_le h i
  have h2 := pas_le (n + m - h) (n - i)
  calc term n h m i ≤ 2 ^ h * 2 ^ (n + m - h) := Nat.mul_le_mul h1 h2
    _ = 2 ^ (n + m) := by rw [← Nat.pow_add]; congr 1; omega
/-- The tail: the reference sums from k to n. -/
def tail (k n h m : Nat) : Nat := sumF (term n h m) k (n + 1 - k)
theorem tail_min (k n h m : Nat) : sumF (term n h m) k (min n h + 1 - k) = tail k n h m := by
  unfold tail
  by_cases hk : k ≤ min n h
  · have e : n + 1 - k = (min n h + 1 - k) + (n - min n h) := by omega
    rw [e, sumF_split, sumF_zero _ (k + (min n h + 1 - k)) (n - min n h)]
    · rfl
    · intro i h1 h2
      rw [term, pas_gt h i (by omega), Nat.zero_mul]
  · have e : min n h + 1 - k = 0 := by omega
    rw [e, sumF_zero _ k (n + 1 - k)]
    · rfl
    · intro i h1 h2
      rw [term, pas_gt h i (by omega), Nat.zero_mul]
/-- A row of the numbers of ways. -/
def prow (a : Nat) : List Nat := (List.range (a + 1)).map (pas a)
theorem prow_len (a : Nat) : (prow a).length = a + 1 := by simp [prow]
theorem prow_get (a b : Nat) (h : b ≤ a) : (prow a)[b]? = some (pas a b) := by
  simp [prow, h, Nat.lt_succ_of_le]
end Go.Proofs.Ytnalbchggjepdaa
