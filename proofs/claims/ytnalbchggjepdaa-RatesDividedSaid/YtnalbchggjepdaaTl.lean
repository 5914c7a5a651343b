/- Tails, and the divisions that are counted; plain mathematics, no program in sight. No condition. -/
import Derived.Test.YtnalbchggjepdaaPa
namespace Go.Proofs.Ytnalbchggjepdaa

theorem sumF_shift (f : Nat → Nat) (k : Nat) : ∀ j, sumF f k (j + 1) = f k + sumF f (k + 1) j
  | 0 => by simp [sumF]
  | j + 1 => by rw [sumF, sumF_shift f k j, sumF, Nat.add_assoc, show k + (j + 1) = k + 1 + j by omega]
theorem sumF_move (f g : Nat → Nat) (k k' : Nat) : ∀ j, (∀ i, i < j → f (k + i) = g (k' + i)) → sumF f k j = sumF g k' j
  | 0, _ => rfl
  | j + 1, h => by rw [sumF, sumF, sumF_move f g k k' j (fun i hi => h i (by omega)), h j (by omega)]
theorem sumF_add (f g : Nat → Nat) (k : Nat) : ∀ j, sumF (fun i => f i + g i) k j = sumF f k j + sumF g k j
  | 0 => rfl
  | j + 1 => by rw [sumF, sumF, sumF, sumF_add f g k j]; omega
theorem sumF_mono (f g : Nat → Nat) (k : Nat) : ∀ j, (∀ i, k ≤ i → i < k + j → f i ≤ g i) → sumF f k j ≤ sumF g k j
  | 0, _ => Nat.le_refl _
  | j + 1, h => by
    rw [sumF, sumF]
    have := sumF_mono f g k j (fun i h1 h2 => h i h1 (by omega))
    have := h (k + j) (by omega) (by omega)
    omega
/-- All ways to choose n things of two heaps. -/
def van (h M n : Nat) : Nat := sumF (fun i => pas h i * pas M (n - i)) 0 (n + 1)
theorem van_succ (h M n : Nat) : van (h + 1) M (n + 1) = van h M n + van h M (n + 1) := by
  unfold van
  rw [sumF_shift, sumF_shift (fun i => pas h i * pas M (n + 1 - i))]
  have e : sumF (fun i => pas (h + 1) i * pas M (n + 1 - i)) (0 + 1) (n + 1) = sumF (fun i => pas h i * pas M (n - i) + pas h (i + 1) * pas M (n - i)) 0 (n + 1) := by
    refine sumF_move _ _ _ _ _ fun i hi => ?_
    rw [show 0 + 1 + i = i + 1 by omega, show 0 + i = i by omega, pas_succ, show n + 1 - (i + 1) = n - i by omega, Nat.add_mul]
  have e2 : sumF (fun i => pas h i * pas M (n + 1 - i)) (0 + 1) (n + 1) = sumF (fun i => pas h (i + 1) * pas M (n - i)) 0 (n + 1) := by
    refine sumF_move _ _ _ _ _ fun i hi => ?_
    rw [show 0 + 1 + i = i + 1 by omega, show 0 + i = i by omega, show n + 1 - (i + 1) = n - i by omega]
  rw [e, e2, sumF_add]
  simp only [pas_zero]
  omega
theorem van_zero (M n : Nat) : van 0 M n = pas M n := by
  unfold van
  rw [sumF_shift, sumF_zero]
  · simp [pas_zero]
  · intro i h1 h2
    rw [pas_gt 0 i (by omega), Nat.zero_mul]
theorem van_is : ∀ (h M n : Nat), van h M n = pas (h + M) n
  | 0, M, n => by rw [van_zero, Nat.zero_add]
  | h + 1, M, 0 => by simp [van, sumF, pas_zero]
  | h + 1, M, n + 1 => by rw [van_succ, van_is h M n, van_is h M (n + 1), show h + 1 + M = h + M + 1 by omega, pas_succ]
theorem tail_zero {n h m : Nat} (hh : h ≤ n + m) : tail 0 n h m = pas (n + m) n := by
  have := van_is h (n + m - h) n
  rw [show h + (n + m - h) = n + m by omega] at this
  rw [← this]
  rfl
theorem tail_step {k n h m : Nat} (hk : k ≤ n) : tail k n h m = term n h m k + tail (k + 1) n h m := by
  unfold tail
  rw [show n + 1 - k = (n + 1 - (k + 1)) + 1 by omega, sumF_shift]
theorem tail_mono {n h m : Nat} : ∀ (d k : Nat), tail (k + d) n h m ≤ tail k n h m
  | 0, _ => Nat.le_refl _
  | d + 1, k => by
    by_cases c : k + d ≤ n
    · have := tail_step (k := k + d) (n := n) (h := h) (m := m) c
      have := tail_mono (n := n) (h := h) (m := m) d k
      rw [← Nat.add_assoc]
      omega
    · have : tail (k + (d + 1)) n h m = 0 := by unfold tail; rw [show n + 1 - (k + (d + 1)) = 0 by omega]; rfl
      omega
theorem tail_le_ways {k n h m : Nat} (hh : h ≤ n + m) : tail k n h m ≤ pas (n + m) n := by
  rw [← tail_zero hh]
  have := tail_mono (n := n) (h := h) (m := m) k 0
  rwa [Nat.zero_add] at this
theorem tail_pos {k n l m : Nat} (hk : k ≤ n) (hl : l ≤ m) : 1 ≤ tail k n (k + l) m := by
  rw [tail_step hk]
  have h1 := pas_pos (k + l) k (by omega)
  have h2 := pas_pos (n + m - (k + l)) (n - k) (by omega)
  have : 1 ≤ term n (k + l) m k := Nat.mul_pos h1 h2
  omega
/-- THE SHARE OF THE DIVISIONS: of those whose tail is small the sum is small. -/
theorem share_law (n h m num den : Nat) (lo : Nat) : ∀ j, lo ≤ n + 1 → (is : Nat → Bool) → (∀ k, lo ≤ k → k ≤ n → is k = decide (tail k n h m * den ≤ num * pas (n + m) n)) → j ≤ n + 1 - lo →
    sumF (fun i => if is i = true then term n h m i else 0) lo j * den ≤ num * pas (n + m) n := by
  intro j hn is his hj
  refine Nat.le_trans (Nat.mul_le_mul_right den (?_ : _ ≤ sumF (fun i => if is i = true then term n h m i else 0) lo (n + 1 - lo))) ?_
  · obtain ⟨d, hd⟩ : ∃ d, n + 1 - lo = j + d := ⟨n + 1 - lo - j, by omega⟩
    rw [hd, sumF_split]
    omega
  · have key : ∀ d k, k + d = n + 1 → lo ≤ k → sumF (fun i => if is i = true then term n h m i else 0) k d * den ≤ num * pas (n + m) n := by
      intro d
      induction d with
      | zero => intro k _ _; simp [sumF]
      | succ d ih =>
        intro k hk hl
        have e := his k hl (by omega)
        by_cases c : is k = true
        · rw [c] at e
          refine Nat.le_trans (Nat.mul_le_mul_right den ?_) (of_decide_eq_true e.symm)
          unfold tail
          rw [show n + 1 - k = d + 1 by omega]
          refine sumF_mono _ _ _ _ fun i _ _ => ?_
          split <;> omega
        · rw [sumF_shift, if_neg c, Nat.zero_add]
          exact ih (k + 1) (by omega) (by omega)
    exact key _ _ (by omega) (Nat.le_refl _)
theorem sum_all {n h m lo : Nat} (hh : h ≤ n + m) (hlo : ∀ i, i < lo → term n h m i = 0) {j : Nat} (hn : lo + j ≤ n + 1) (hhi : ∀ i, lo + j ≤ i → i ≤ n → term n h m i = 0) : sumF (term n h m) lo j = pas (n + m) n := by
  rw [← tail_zero hh]
  unfold tail
  obtain ⟨d, hd⟩ : ∃ d, n + 1 - 0 = lo + (j + d) := ⟨n + 1 - lo - j, by omega⟩
  rw [hd, sumF_split, sumF_split, sumF_zero _ 0 lo (fun i _ h2 => hlo i (by omega)), sumF_zero _ _ d (fun i h1 h2 => hhi i (by omega) (by omega))]
  simp
/-- The number of ones among the lowest n bits. -/
def on (x n : Nat) : Nat := (List.range n).countP fun i => x.testBit i
theorem on_zero (x : Nat) : on x 0 = 0 := rfl
theorem on_succ (x n : Nat) : on x (n + 1) = on x n + if x.testBit n = true then 1 else 0 := by
  unfold on
  rw [List.range_succ, List.countP_append, List.countP_singleton]
theorem on_congr {x y n : Nat} (h : ∀ i, i < n → x.testBit i = y.testBit i) : on x n = on y n := by
  unfold on
  refine List.countP_congr fun i hi => ?_
  rw [h i (List.mem_range.1 hi)]
theorem on_le (x n : Nat) : on x n ≤ n := by
  have := List.countP_le_length (p := fun i => x.testBit i) (l := List.range n)
  simpa [on] using this
theorem on_and_le (x y n : Nat) : on (x &&& y) n ≤ on x n := by
  unfold on
  refine List.countP_mono_left fun i _ h => ?_
  rw [Nat.testBit_and, Bool.and_eq_true] at h
  exact h.1
theorem on_top {s N : Nat} (h : s < 2 ^ N) : on (2 ^ N + s) (N + 1) = on s N + 1 := by
  rw [on_succ]
  rw [on_congr (x := 2 ^ N + s) (y := s) fun i hi => Nat.testBit_two_pow_add_gt hi s]
  rw [Nat.testBit_two_pow_add_eq]
  simp [Nat.testBit_lt_two_pow h]
theorem on_low {s N : Nat} (h : s < 2 ^ N) : on s (N + 1) = on s N := by
  rw [on_succ, Nat.testBit_lt_two_pow h]
  simp
theorem on_and_top {s N : Nat} (o : Nat) (h : s < 2 ^ N) : on ((2 ^ N + s) &&& o) (N + 1) = on (s &&& o) N + if o.testBit N = true then 1 else 0 := by
  rw [on_succ]
  rw [on_congr (x := (2 ^ N + s) &&& o) (y := s &&& o) fun i hi => by rw [Nat.testBit_and, Nat.testBit_and, Nat.testBit_two_pow_add_gt hi s]]
  rw [Nat.testBit_and, Nat.testBit_two_pow_add_eq]
  simp [Nat.testBit_lt_two_pow h]
theorem on_and_low {s N : Nat} (o : Nat) (h : s < 2 ^ N) : on (s &&& o) (N + 1) = on (s &&& o) N := by
  rw [on_succ, Nat.testBit_and, Nat.testBit_lt_two_pow h]
  simp
/-- The sum of a weight over all sets of a things. -/
def setS (o N a : Nat) (f : Nat → Nat) : Nat := ((List.range (2 ^ N)).map fun s => if on s N = a then f (on (s &&& o) N) else 0).sum
theorem setS_succ (o N a : Nat) (f : Nat → Nat) : setS o (N + 1) a f = setS o N a f + ((List.range (2 ^ N)).map fun s => if on s N + 1 = a then f (on (s &&& o) N + if o.testBit N = true then 1 else 0) else 0).sum := by
  unfold setS
  rw [Nat.pow_succ, Nat.mul_two, List.range_add, List.map_append, List.sum_append, List.map_map]
  congr 2
  · refine List.map_congr_left fun s hs => ?_
    have hs := List.mem_range.1 hs
    rw [on_low hs, on_and_low o hs]
  · refine List.map_congr_left fun s hs => ?_
    have hs := List.mem_range.1 hs
    simp only [Function.comp_apply]
    rw [on_top hs, on_and_top o hs]
def conv (h M a : Nat) (f : Nat → Nat) : Nat := sumF (fun k => pas h k * pas M (a - k) * f k) 0 (a + 1)
theorem conv_hit (h M a : Nat) (f : Nat → Nat) : conv (h + 1) M (a + 1) f = conv h M (a + 1) f + conv h M a (fun k => f (k + 1)) := by
  unfold conv
  rw [sumF_shift, sumF_shift (fun k => pas h k * pas M (a + 1 - k) * f k)]
  have e : sumF (fun k => pas (h + 1) k * pas M (a + 1 - k) * f k) (0 + 1) (a + 1) = sumF (fun i => pas h i * pas M (a - i) * f (i + 1) + pas h (i + 1) * pas M (a - i) * f (i + 1)) 0 (a + 1) := by
    refine sumF_move _ _ _ _ _ fun i hi => ?_
    rw [show 0 + 1 + i = i + 1 by omega, show 0 + i = i by omega, pas_succ, show a + 1 - (i + 1) = a - i by omega, Nat.add_mul, Nat.add_mul]
  have e2 : sumF (fun k => pas h k * pas M (a + 1 - k) * f k) (0 + 1) (a + 1) = sumF (fun i => pas h (i + 1) * pas M (a - i) * f (i + 1)) 0 (a + 1) := by
    refine sumF_move _ _ _ _ _ fun i hi => ?_
    rw [show 0 + 1 + i = i + 1 by omega, show 0 + i = i by omega, show a + 1 - (i + 1) = a - i by omega]
  rw [e, e2, sumF_add]
  simp only [pas_zero]
  omega
theorem conv_miss (h M a : Nat) (f : Nat → Nat) : conv h (M + 1) (a + 1) f = conv h M (a + 1) f + conv h M a f := by
  unfold conv
  rw [sumF, sumF.eq_2 (fun k => pas h k * pas M (a + 1 - k) * f k)]
  have e : sumF (fun k => pas h k * pas (M + 1) (a + 1 - k) * f k) 0 (a + 1) = sumF (fun k => pas h k * pas M (a + 1 - k) * f k + pas h k * pas M (a - k) * f k) 0 (a + 1) := by
    refine sumF_move _ _ _ _ _ fun i hi => ?_
    rw [show 0 + i = i by omega, show a + 1 - i = a - i + 1 by omega, pas_succ, Nat.mul_add, Nat.add_mul, Nat.add_comm]
  rw [e, sumF_add]
  rw [show a + 1 - (0 + (a + 1)) = 0 by omega]
  simp only [pas_zero]
  omega
theorem conv_none (h M : Nat) (f : Nat → Nat) : conv h M 0 f = f 0 := by simp [conv, sumF, pas_zero]
theorem setS_is (o : Nat) : ∀ (N a : Nat) (f : Nat → Nat), setS o N a f = conv (on o N) (N - on o N) a f
  | 0, 0, f => by simp [setS, conv, sumF, pas_zero, on]
  | 0, a + 1, f => by
    have e1 : setS o 0 (a + 1) f = 0 := by simp [setS, on]
    have e2 : conv (on o 0) (0 - on o 0) (a + 1) f = 0 := by
      refine sumF_zero _ _ _ fun i _ h2 => ?_
      rw [on_zero]
      rcases Nat.eq_zero_or_pos i with h | h
      · subst h; rw [pas_gt (0 - 0) (a + 1 - 0) (by omega)]; simp
      · rw [pas_gt 0 i (by omega)]; simp
    rw [e1, e2]
  | N + 1, 0, f => by
    rw [setS_succ, setS_is o N 0 f, conv_none, conv_none]
    have e : ∀ l : List Nat, (l.map fun _ => 0).sum = 0 := by
      intro l
      induction l with
      | nil => rfl
      | cons x l ih => simpa using ih
    simp [e]
  | N + 1, a + 1, f => by
    rw [setS_succ, setS_is o N (a + 1) f]
    have hl := on_le o N
    have e : ((List.range (2 ^ N)).map fun s => if on s N + 1 = a + 1 then f (on (s &&& o) N + if o.testBit N = true then 1 else 0) else 0).sum = setS o N a (fun k => f (k + if o.testBit N = true then 1 else 0)) := by
      unfold setS
      congr 1
      refine List.map_congr_left fun s _ => ?_
      by_cases c : on s N = a
      · rw [if_pos (by omega), if_pos c]
      · rw [if_neg (by omega), if_neg c]
    rw [e, setS_is o N a, on_succ]
    by_cases c : o.testBit N = true
    · simp only [if_pos c]
      rw [show N + 1 - (on o N + 1) = N - on o N by omega, conv_hit]
    · simp only [if_neg c, Nat.add_zero]
      rw [show N + 1 - on o N = N - on o N + 1 by omega, conv_miss]
theorem setS_all (o a b : Nat) : setS o (a + b) a (fun _ => 1) = pas (a + b) a := by
  rw [setS_is, ← tail_zero (n := a) (m := b) (on_le o (a + b))]
  unfold conv tail
  refine sumF_move _ _ _ _ _ fun i _ => ?_
  rw [Nat.mul_one]; rfl
/-- THE SECOND THEOREM: over all divisions, set by set. -/
theorem divided_law (o a b num den : Nat) (is : Nat → Bool) (his : ∀ k, k ≤ a → is k = decide (tail k a (on o (a + b)) b * den ≤ num * pas (a + b) a)) :
    setS o (a + b) a (fun k => if is k = true then 1 else 0) * den ≤ num * pas (a + b) a := by
  rw [setS_is]
  have := share_law a (on o (a + b)) b num den 0 (a + 1) (by omega) is (fun k _ h2 => his k h2) (by omega)
  refine Nat.le_trans (Nat.mul_le_mul_right den (Nat.le_of_eq ?_)) this
  unfold conv
  refine sumF_move _ _ _ _ _ fun i _ => ?_
  unfold term
  by_cases c : is (0 + i) = true
  · rw [if_pos c]; simp only [if_pos c, Nat.mul_one]
  · rw [if_neg c]; simp only [if_neg c, Nat.mul_zero]
end Go.Proofs.Ytnalbchggjepdaa
