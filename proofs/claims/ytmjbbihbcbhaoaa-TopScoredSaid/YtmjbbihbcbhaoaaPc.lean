/- Bits: how many are one, by Go's way of adding them up; plain mathematics, no program in sight. No condition. -/
namespace Go.Proofs.Ytmjbbihbcbhaoaa

/-- So many bytes that are alike. -/
def rep (p : Nat) : Nat → Nat
  | 0 => 0
  | n + 1 => rep p n * 256 + p
theorem and_split (hi lo M p : Nat) (hl : lo < 256) (hp : p < 256) : (hi * 256 + lo) &&& (M * 256 + p) = (hi &&& M) * 256 + (lo &&& p) := by
  have h1 : ((hi * 256 + lo) &&& (M * 256 + p)) / 2 ^ 8 = hi &&& M := by
    rw [Nat.and_div_two_pow, show (hi * 256 + lo) / 2 ^ 8 = hi by omega, show (M * 256 + p) / 2 ^ 8 = M by omega]
  have h2 : ((hi * 256 + lo) &&& (M * 256 + p)) % 2 ^ 8 = lo &&& p := by
    rw [Nat.and_mod_two_pow, show (hi * 256 + lo) % 2 ^ 8 = lo by omega, show (M * 256 + p) % 2 ^ 8 = p by omega]
  have h3 := Nat.div_add_mod ((hi * 256 + lo) &&& (M * 256 + p)) (2 ^ 8)
  omega
def w1 (n x : Nat) : Nat := (x / 2 &&& rep 0x55 n) + (x &&& rep 0x55 n)
def w2 (n x : Nat) : Nat := (x / 4 &&& rep 0x33 n) + (x &&& rep 0x33 n)
def w3 (n x : Nat) : Nat := (x / 16 + x) &&& rep 0x0f n
def hB (b : Nat) : Nat := w2 1 (w1 1 b)
def gB (b : Nat) : Nat := w3 1 (hB b)
theorem m1 : ∀ a : Fin 2, ∀ b : Fin 256, (a.val * 128 + b.val / 2) &&& 0x55 = b.val / 2 &&& rep 0x55 1 ∧ a.val * 128 + b.val / 2 < 256 ∧ b.val &&& 0x55 = b.val &&& rep 0x55 1 := by decide +kernel
theorem m2 : ∀ a : Fin 4, ∀ b : Fin 256, (a.val * 64 + b.val / 4) &&& 0x33 = b.val / 4 &&& rep 0x33 1 ∧ a.val * 64 + b.val / 4 < 256 ∧ b.val &&& 0x33 = b.val &&& rep 0x33 1 := by decide +kernel
theorem m3 : ∀ a : Fin 16, ∀ b : Fin 256, (a.val * 16 + b.val / 16 + b.val) % 16 = (b.val / 16 + b.val) % 16 := by decide +kernel
theorem b1 : ∀ b : Fin 256, w1 1 b.val < 256 := by decide +kernel
theorem b2 : ∀ b : Fin 256, hB b.val ≤ 68 ∧ hB b.val % 16 ≤ 4 ∧ gB b.val ≤ 8 := by decide +kernel
theorem w1_split (n hi lo : Nat) (hl : lo < 256) : w1 (n + 1) (hi * 256 + lo) = w1 n hi * 256 + w1 1 lo := by
  obtain ⟨e1, e2, e3⟩ := m1 ⟨hi % 2, by omega⟩ ⟨lo, hl⟩
  simp only at e1 e2 e3
  unfold w1
  rw [show (hi * 256 + lo) / 2 = hi / 2 * 256 + (hi % 2 * 128 + lo / 2) by omega, rep, and_split _ _ _ _ e2 (by decide), and_split _ _ _ _ hl (by decide), e1, e3]
  omega
theorem w2_split (n hi lo : Nat) (hl : lo < 256) : w2 (n + 1) (hi * 256 + lo) = w2 n hi * 256 + w2 1 lo := by
  obtain ⟨e1, e2, e3⟩ := m2 ⟨hi % 4, by omega⟩ ⟨lo, hl⟩
  simp only at e1 e2 e3
  unfold w2
  rw [show (hi * 256 + lo) / 4 = hi / 4 * 256 + (hi % 4 * 64 + lo / 4) by omega, rep, and_split _ _ _ _ e2 (by decide), and_split _ _ _ _ hl (by decide), e1, e3]
  omega
def vB (n x : Nat) : Nat := w2 n (w1 n x)
theorem vB_zero (x : Nat) : vB 0 x = 0 := by simp [vB, w2, rep]
theorem vB_split (n hi lo : Nat) (hl : lo < 256) : vB (n + 1) (hi * 256 + lo) = vB n hi * 256 + hB lo := by
  unfold vB hB
  rw [w1_split _ _ _ hl, w2_split _ _ _ (b1 ⟨lo, hl⟩)]
theorem vB_nib (n x : Nat) : vB n x % 16 ≤ 4 := by
  cases n with
  | zero => rw [vB_zero]; omega
  | succ n =>
    have h := vB_split n (x / 256) (x % 256) (Nat.mod_lt _ (by decide))
    rw [show x / 256 * 256 + x % 256 = x by omega] at h
    rw [h]
    have := (b2 ⟨x % 256, Nat.mod_lt _ (by decide)⟩).2.1
    simp only at this
    omega
theorem and15 (x : Nat) : x &&& 15 = x % 16 := Nat.and_two_pow_sub_one_eq_mod x 4
def pB (n x : Nat) : Nat := w3 n (vB n x)
theorem pB_zero (x : Nat) : pB 0 x = 0 := by simp [pB, w3, rep]
theorem pB_split (n hi lo : Nat) (hl : lo < 256) : pB (n + 1) (hi * 256 + lo) = pB n hi * 256 + gB lo := by
  unfold pB
  rw [vB_split _ _ _ hl]
  have h1 := vB_nib n hi
  obtain ⟨h2, h3, _⟩ := b2 ⟨lo, hl⟩
  simp only at h2 h3
  have hg : gB lo = (hB lo / 16 + hB lo) &&& 15 := rfl
  have e3 := m3 ⟨vB n hi % 16, by omega⟩ ⟨hB lo, by omega⟩
  simp only at e3
  rw [hg]
  generalize hB lo = q at *
  generalize vB n hi = v at *
  unfold w3
  rw [show (v * 256 + q) / 16 + (v * 256 + q) = (v / 16 + v) * 256 + (v % 16 * 16 + q / 16 + q) by omega, rep, and_split _ _ _ _ (by omega) (by decide), and15, and15, e3]
/-- How many of the bits of so many bytes are one. -/
def sB : Nat → Nat → Nat
  | 0, _ => 0
  | n + 1, x => sB n (x / 256) + gB (x % 256)
theorem gB_le (x : Nat) : gB (x % 256) ≤ 8 := (b2 ⟨x % 256, Nat.mod_lt _ (by decide)⟩).2.2
theorem sB_le : ∀ n x, sB n x ≤ 8 * n
  | 0, _ => Nat.le_refl _
  | n + 1, x => by have := sB_le n (x / 256); have := gB_le x; simp only [sB]; omega
theorem pB_step (n x : Nat) : pB (n + 1) x = pB n (x / 256) * 256 + gB (x % 256) := by
  have h := pB_split n (x / 256) (x % 256) (Nat.mod_lt _ (by decide))
  rwa [show x / 256 * 256 + x % 256 = x by omega] at h
/-- The bits of 64 that are one. -/
def ones (x : Nat) : Nat := sB 8 x
theorem ones_le (x : Nat) : ones x ≤ 64 := sB_le 8 x
theorem ones_sum (x : Nat) : ∃ c0 c1 c2 c3 c4 c5 c6 c7 : Nat, (c0 ≤ 8 ∧ c1 ≤ 8 ∧ c2 ≤ 8 ∧ c3 ≤ 8 ∧ c4 ≤ 8 ∧ c5 ≤ 8 ∧ c6 ≤ 8 ∧ c7 ≤ 8) ∧
    pB 8 x = c0 + 256 * c1 + 65536 * c2 + 16777216 * c3 + 4294967296 * c4 + 1099511627776 * c5 + 281474976710656 * c6 + 72057594037927936 * c7 ∧ ones x = c0 + c1 + c2 + c3 + c4 + c5 + c6 + c7 := by
  have l0 := gB_le x
  have l1 := gB_le (x / 256)
  have l2 := gB_le (x / 256 / 256)
  have l3 := gB_le (x / 256 / 256 / 256)
  have l4 := gB_le (x / 256 / 256 / 256 / 256)
  have l5 := gB_le (x / 256 / 256 / 256 / 256 / 256)
  have l6 := gB_le (x / 256 / 256 / 256 / 256 / 256 / 256)
  have l7 := gB_le (x / 256 / 256 / 256 / 256 / 256 / 256 / 256)
  simp only [pB_step, pB_zero, ones, sB]
  generalize gB (x % 256) = c0 at *
  generalize gB (x / 256 % 256) = c1 at *
  generalize gB (x / 256 / 256 % 256) = c2 at *
  generalize gB (x / 256 / 256 / 256 % 256) = c3 at *
  generalize gB (x / 256 / 256 / 256 / 256 % 256) = c4 at *
  generalize gB (x / 256 / 256 / 256 / 256 / 256 % 256) = c5 at *
  generalize gB (x / 256 / 256 / 256 / 256 / 256 / 256 % 256) = c6 at *
  generalize gB (x / 256 / 256 / 256 / 256 / 256 / 256 / 256 % 256) = c7 at *
  exact ⟨c0, c1, c2, c3, c4, c5, c6, c7, by omega, by omega, by omega⟩
theorem div_of {y c q K : Nat} (h : y = c + K * q) (hc : c < K) : y / K = q := by
  subst h
  rw [Nat.add_mul_div_left _ _ (by omega), Nat.div_eq_of_lt hc, Nat.zero_add]
theorem mod_of {y c q K : Nat} (h : y = c + K * q) (hc : c < K) : y % K = c := by
  subst h
  rw [Nat.add_mul_mod_self_left, Nat.mod_eq_of_lt hc]
/-- The sums of the bytes. -/
theorem ones_fold {x y z1 z2 z3 : Nat} (hy : y = pB 8 x) (h1 : z1 = y + y / 256) (h2 : z2 = z1 + z1 / 65536) (h3 : z3 = z2 + z2 / 4294967296) :
    z3 % 128 = ones x ∧ z1 < 18446744073709551616 ∧ z2 < 18446744073709551616 ∧ z3 < 9223372036854775808 := by
  obtain ⟨c0, c1, c2, c3, c4, c5, c6, c7, hc, h, ho⟩ := ones_sum x
  rw [← hy] at h
  rw [ho]
  clear hy ho
  obtain ⟨k0, k1, k2, k3, k4, k5, k6, k7⟩ := hc
  have e1 := div_of (y := y) (c := c0) (K := 256) (q := c1 + 256 * c2 + 65536 * c3 + 16777216 * c4 + 4294967296 * c5 + 1099511627776 * c6 + 281474976710656 * c7) (by rw [h]; simp only [Nat.mul_add, ← Nat.mul_assoc]; simp only [Nat.reduceMul, Nat.add_assoc]) (by omega)
  rw [e1, h] at h1
  clear e1 h
  have e2 := div_of (y := z1) (c := (c0 + c1) + 256 * (c1 + c2)) (K := 65536) (q := (c2 + c3) + 256 * (c3 + c4) + 65536 * (c4 + c5) + 16777216 * (c5 + c6) + 4294967296 * (c6 + c7) + 1099511627776 * c7) (by rw [h1]; simp only [Nat.mul_add, ← Nat.mul_assoc, Nat.reduceMul]; omega) (by omega)
  rw [e2, h1] at h2
  have b1 : z1 < 18446744073709551616 := by rw [h1]; omega
  clear e2 h1
  have e3 := div_of (y := z2) (c := (c0 + c1 + c2 + c3) + 256 * (c1 + c2 + c3 + c4) + 65536 * (c2 + c3 + c4 + c5) + 16777216 * (c3 + c4 + c5 + c6)) (K := 4294967296) (q := (c4 + c5 + c6 + c7) + 256 * (c5 + c6 + c7) + 65536 * (c6 + c7) + 16777216 * c7) (by rw [h2]; simp only [Nat.mul_add, ← Nat.mul_assoc, Nat.reduceMul]; omega) (by omega)
  rw [e3, h2] at h3
  have b2 : z2 < 18446744073709551616 := by rw [h2]; omega
  clear e3 h2
  have b3 : z3 < 9223372036854775808 := by rw [h3]; omega
  refine ⟨?_, b1, b2, b3⟩
  refine mod_of (q := 2 * (c1 + c2 + c3 + c4 + c5 + c6 + c7) + 512 * (c2 + c3 + c4 + c5 + c6 + c7) + 131072 * (c3 + c4 + c5 + c6 + c7) + 33554432 * (c4 + c5 + c6 + c7) + 8589934592 * (c5 + c6 + c7) + 2199023255552 * (c6 + c7) + 562949953421312 * c7) ?_ (by omega)
  rw [h3]
  simp only [Nat.mul_add, ← Nat.mul_assoc, Nat.reduceMul]
  omega
theorem gB_bits : ∀ b : Fin 256, gB b.val = b.val / 2 ^ 0 % 2 + b.val / 2 ^ 1 % 2 + b.val / 2 ^ 2 % 2 + b.val / 2 ^ 3 % 2 + b.val / 2 ^ 4 % 2 + b.val / 2 ^ 5 % 2 + b.val / 2 ^ 6 % 2 + b.val / 2 ^ 7 % 2 := by decide +kernel
theorem bit_mono (x m i : Nat) : (x &&& m) / 2 ^ i % 2 ≤ m / 2 ^ i % 2 := by
  rw [Nat.and_div_two_pow]
  have := Nat.and_mod_two_pow (a := x / 2 ^ i) (b := m / 2 ^ i) (n := 1)
  rw [Nat.pow_one] at this
  rw [this]
  exact Nat.and_le_right
theorem g_mono (a b : Nat) (hb : b < 256) : gB (a &&& b) ≤ gB b := by
  have h1 := gB_bits ⟨b, hb⟩
  have h2 := gB_bits ⟨a &&& b, Nat.lt_of_le_of_lt Nat.and_le_right hb⟩
  simp only at h1 h2
  rw [h1, h2]
  have k0 := bit_mono a b 0
  have k1 := bit_mono a b 1
  have k2 := bit_mono a b 2
  have k3 := bit_mono a b 3
  have k4 := bit_mono a b 4
  have k5 := bit_mono a b 5
  have k6 := bit_mono a b 6
  have k7 := bit_mono a b 7
  generalize (a &&& b) = z at *
  exact Nat.add_le_add (Nat.add_le_add (Nat.add_le_add (Nat.add_le_add (Nat.add_le_add (Nat.add_le_add (Nat.add_le_add k0 k1) k2) k3) k4) k5) k6) k7
theorem sB_mono : ∀ n x m, sB n (x &&& m) ≤ sB n m
  | 0, _, _ => Nat.le_refl _
  | n + 1, x, m => by
    simp only [sB]
    have h1 : (x &&& m) / 256 = x / 256 &&& m / 256 := Nat.and_div_two_pow (n := 8)
    have h2 : (x &&& m) % 256 = x % 256 &&& m % 256 := Nat.and_mod_two_pow (n := 8)
    have h3 := g_mono (x % 256) (m % 256) (Nat.mod_lt _ (by decide))
    have := sB_mono n (x / 256) (m / 256)
    rw [h1, h2]
    omega
theorem ones_mono (x m : Nat) : ones (x &&& m) ≤ ones m := sB_mono 8 x m
end Go.Proofs.Ytmjbbihbcbhaoaa
