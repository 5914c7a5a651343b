/- Codes: rests, errors, distances, decoding; plain mathematics, no program in sight. No condition. -/
namespace Go.Proofs.YtnienfgaidccpaaDoor

/-- One step of the rest: bit number i is struck by the generator g, whose highest bit is number f. -/
def stp (g f i w : Nat) : Nat := if w.testBit i then w ^^^ (g <<< (i - f)) else w
/-- The steps for the bits f + j - 1, .., f. -/
def rst (g f : Nat) : Nat → Nat → Nat
  | 0, w => w
  | j + 1, w => rst g f j (stp g f (f + j) w)

theorem stp_xor (g f i x y : Nat) : stp g f i (x ^^^ y) = stp g f i x ^^^ stp g f i y := by
  unfold stp
  rw [Nat.testBit_xor]
  generalize g <<< (i - f) = A
  cases hx : x.testBit i <;> cases hy : y.testBit i <;> simp only [Bool.xor_false, Bool.xor_true, Bool.not_true, Bool.not_false, if_true, if_false, Bool.false_eq_true]
  all_goals
    apply Nat.eq_of_testBit_eq
    intro j
    simp only [Nat.testBit_xor]
    cases A.testBit j <;> cases x.testBit j <;> cases y.testBit j <;> rfl
theorem rst_xor (g f j : Nat) : ∀ x y, rst g f j (x ^^^ y) = rst g f j x ^^^ rst g f j y := by
  induction j with
  | zero => intro x y; rfl
  | succ j ih => intro x y; simp only [rst, stp_xor, ih]

theorem lt_of_top {w i : Nat} (h : w < 2 ^ (i + 1)) (ht : w.testBit i = false) : w < 2 ^ i := by
  apply Nat.lt_pow_two_of_testBit
  intro j hj
  rcases Nat.eq_or_lt_of_le hj with e | e
  · subst e; exact ht
  · exact Nat.testBit_lt_two_pow (Nat.lt_of_lt_of_le h (Nat.pow_le_pow_right (by omega) e))
/-- A generator: its highest bit is number f. -/
def Gen (g f : Nat) : Prop := g < 2 ^ (f + 1) ∧ g.testBit f = true
theorem stp_lt {g f i w : Nat} (hg : Gen g f) (hf : f ≤ i) (h : w < 2 ^ (i + 1)) : stp g f i w < 2 ^ i := by
  unfold stp
  split
  · rename_i ht
    have hs : g <<< (i - f) < 2 ^ (i + 1) := by
      rw [Nat.shiftLeft_eq]
      calc g * 2 ^ (i - f) < 2 ^ (f + 1) * 2 ^ (i - f) := Nat.mul_lt_mul_of_pos_right hg.1 (Nat.two_pow_pos _)
        _ = 2 ^ (i + 1) := by rw [← Nat.pow_add]; congr 1; omega
    refine lt_of_top (Nat.xor_lt_two_pow h hs) ?_
    rw [Nat.testBit_xor, ht, Nat.testBit_shiftLeft]
    have e : i - (i - f) = f := by omega
    rw [e, hg.2]
    simp
  · rename_i ht
    exact lt_of_top h (by simpa using ht)
theorem rst_lt {g f : Nat} (hg : Gen g f) : ∀ j w, w < 2 ^ (f + j) → rst g f j w < 2 ^ f := by
  intro j
  induction j with
  | zero => intro w h; exact h
  | succ j ih => intro w h; exact ih _ (stp_lt hg (by omega) h)
theorem rst_small {g f : Nat} : ∀ j w, w < 2 ^ f → rst g f j w = w := by
  intro j
  induction j with
  | zero => intro w _; rfl
  | succ j ih =>
    intro w h
    have : w.testBit (f + j) = false := Nat.testBit_lt_two_pow (Nat.lt_of_lt_of_le h (Nat.pow_le_pow_right (by omega) (by omega)))
    rw [rst, stp, if_neg (by simp [this])]
    exact ih w h
/-- The number of bits that a number needs. -/
def len (w : Nat) : Nat := if w = 0 then 0 else w.log2 + 1
theorem lt_len (w : Nat) : w < 2 ^ len w := by
  unfold len
  split
  · subst w; decide
  · exact Nat.lt_log2_self
theorem len_top {w : Nat} (h : 0 < len w) : w.testBit (len w - 1) = true ∧ 2 ^ (len w - 1) ≤ w := by
  unfold len at h ⊢
  split
  · rename_i h0; simp [h0] at h
  · rename_i h0
    exact ⟨by rw [Nat.add_sub_cancel]; exact Nat.testBit_log2 h0, by rw [Nat.add_sub_cancel]; exact Nat.log2_self_le h0⟩
/-- Bits above the length need no step. -/
theorem rst_skip {g f : Nat} : ∀ j i w, i ≤ j → w < 2 ^ (f + i) → rst g f j w = rst g f i w := by
  intro j
  induction j with
  | zero => intro i w hi _; obtain rfl : i = 0 := by omega
            rfl
  | succ j ih =>
    intro i w hi h
    rcases Nat.eq_or_lt_of_le hi with e | e
    · subst e; rfl
    · have : w.testBit (f + j) = false := Nat.testBit_lt_two_pow (Nat.lt_of_lt_of_le h (Nat.pow_le_pow_right (by omega) (by omega)))
      rw [rst, stp, if_neg (by simp [this])]
      exact ih i w (by omega) h
/-- One round of the program's loop. -/
theorem rst_round {g f j w : Nat} (hg : Gen g f) (h : f < len w) (hj : len w ≤ f + j) : rst g f j w = rst g f j (w ^^^ (g <<< (len w - f - 1))) ∧ len (w ^^^ (g <<< (len w - f - 1))) < len w := by
  have ht := len_top (w := w) (by omega)
  have e : stp g f (len w - 1) w = w ^^^ (g <<< (len w - f - 1)) := by
    rw [stp, if_pos ht.1]
    congr 2
    omega
  have hl : stp g f (len w - 1) w < 2 ^ (len w - 1) := stp_lt hg (by omega) (by rw [Nat.sub_add_cancel (by omega)]; exact lt_len w)
  obtain ⟨i, hi⟩ : ∃ i, len w = f + i + 1 := ⟨len w - f - 1, by omega⟩
  have h1 : rst g f j w = rst g f (i + 1) w := rst_skip j (i + 1) w (by omega) (by rw [← Nat.add_assoc, ← hi]; exact lt_len w)
  have e2 : len w - 1 = f + i := by omega
  have h2 : rst g f (i + 1) w = rst g f i (stp g f (len w - 1) w) := by rw [e2]; rfl
  have h3 : rst g f j (stp g f (len w - 1) w) = rst g f i (stp g f (len w - 1) w) := rst_skip j i _ (by omega) (by rw [← e2]; exact hl)
  refine ⟨by rw [h1, h2, ← h3, e], ?_⟩
  rw [← e]
  generalize stp g f (len w - 1) w = v at hl
  rcases Nat.lt_or_ge (len v) (len w) with c | c
  · exact c
  · have := (len_top (w := v) (by omega)).2
    have : 2 ^ (len w - 1) ≤ 2 ^ (len v - 1) := Nat.pow_le_pow_right (by omega) (by omega)
    omega

/-- How many of the lowest n bits are set. -/
def cntN (w : Nat) : Nat → Nat
  | 0 => 0
  | n + 1 => cntN w n + (if w.testBit n then 1 else 0)
def cnt (w : Nat) : Nat := cntN w 16

theorem cntN_top (w : Nat) : ∀ n m, w < 2 ^ n → cntN w (n + m) = cntN w n := by
  intro n m h
  induction m with
  | zero => rfl
  | succ m ih =>
    have : w.testBit (n + m) = false := Nat.testBit_lt_two_pow (Nat.lt_of_lt_of_le h (Nat.pow_le_pow_right (by omega) (by omega)))
    rw [← Nat.add_assoc, cntN, ih, this]
    rfl
theorem cnt15 {w : Nat} (h : w < 2 ^ 15) : cnt w = cntN w 15 := cntN_top w 15 1 h
theorem cntN_xor (x y : Nat) : ∀ n, cntN (x ^^^ y) n ≤ cntN x n + cntN y n := by
  intro n
  induction n with
  | zero => simp [cntN]
  | succ n ih =>
    simp only [cntN, Nat.testBit_xor]
    cases x.testBit n <;> cases y.testBit n <;> simp <;> omega
theorem cnt_xor (x y : Nat) : cnt (x ^^^ y) ≤ cnt x + cnt y := cntN_xor x y 16
theorem cntN_zero : ∀ n, cntN 0 n = 0 := by
  intro n
  induction n with
  | zero => rfl
  | succ n ih => simp [cntN, ih]
theorem eq_zero_of_cntN {w : Nat} : ∀ n, w < 2 ^ n → cntN w n = 0 → w = 0 := by
  intro n h hc
  apply Nat.eq_of_testBit_eq
  intro j
  rw [Nat.zero_testBit]
  rcases Nat.lt_or_ge j n with hj | hj
  · clear h
    induction n with
    | zero => omega
    | succ n ih =>
      simp only [cntN] at hc
      rcases Nat.lt_succ_iff_lt_or_eq.1 hj with e | e
      · exact ih (by omega) e
      · subst e
        cases hb : w.testBit j
        · rfl
        · rw [hb] at hc; simp at hc
  · exact Nat.testBit_lt_two_pow (Nat.lt_of_lt_of_le h (Nat.pow_le_pow_right (by omega) hj))

/-- The bits from number i on, n of them, that are set in w, in order. -/
def bitsFrom (w : Nat) : Nat → Nat → List Nat
  | _, 0 => []
  | i, n + 1 => if w.testBit i then i :: bitsFrom w (i + 1) n else bitsFrom w (i + 1) n
theorem cntN_bits (w : Nat) : ∀ n i, cntN w i + (bitsFrom w i n).length = cntN w (i + n) := by
  intro n
  induction n with
  | zero => intro i; rfl
  | succ n ih =>
    intro i
    have := ih (i + 1)
    rw [bitsFrom, show i + (n + 1) = i + 1 + n from by omega, ← this, cntN]
    split <;> simp_all <;> omega
/-- A number with some bits set besides. -/
def setAll (e : Nat) (l : List Nat) : Nat := l.foldl (fun e i => e ||| 1 <<< i) e
theorem one_shift_bit (i j : Nat) : (1 <<< i : Nat).testBit j = decide (i = j) := by
  rw [Nat.shiftLeft_eq, Nat.one_mul, Nat.testBit_two_pow]
theorem setAll_bit (l : List Nat) : ∀ e j, (setAll e l).testBit j = (e.testBit j || l.contains j) := by
  induction l with
  | nil => intro e j; simp [setAll]
  | cons i l ih =>
    intro e j
    have : setAll e (i :: l) = setAll (e ||| 1 <<< i) l := rfl
    rw [this, ih, Nat.testBit_or, one_shift_bit, List.contains_cons, Bool.or_assoc]
    congr 2
    rw [Bool.beq_eq_decide_eq]
    simp [eq_comm]
theorem bitsFrom_mem (w : Nat) : ∀ n i j, j ∈ bitsFrom w i n ↔ i ≤ j ∧ j < i + n ∧ w.testBit j = true := by
  intro n
  induction n with
  | zero => intro i j; simp [bitsFrom]; omega
  | succ n ih =>
    intro i j
    rw [bitsFrom]
    split
    · rename_i h
      rw [List.mem_cons, ih]
      constructor
      · rintro (rfl | h1)
        · exact ⟨by omega, by omega, h⟩
        · exact ⟨by omega, by omega, h1.2.2⟩
      · rintro ⟨h1, h2, h3⟩
        by_cases e : j = i
        · exact .inl e
        · exact .inr ⟨by omega, by omega, h3⟩
    · rename_i h
      rw [ih]
      constructor
      · rintro ⟨h1, h2, h3⟩; exact ⟨by omega, by omega, h3⟩
      · rintro ⟨h1, h2, h3⟩
        by_cases e : j = i
        · subst e; exact absurd h3 h
        · exact ⟨by omega, by omega, h3⟩
theorem setAll_bits {w : Nat} (h : w < 2 ^ 15) : setAll 0 (bitsFrom w 0 15) = w := by
  apply Nat.eq_of_testBit_eq
  intro j
  rw [setAll_bit, Nat.zero_testBit, Bool.false_or]
  cases hb : w.testBit j
  · rw [← Bool.not_eq_true, List.contains_iff_mem, bitsFrom_mem]
    simp [hb]
  · rw [List.contains_iff_mem, bitsFrom_mem]
    refine ⟨by omega, ?_, hb⟩
    rcases Nat.lt_or_ge j (0 + 15) with c | c
    · exact c
    · rw [Nat.testBit_lt_two_pow (Nat.lt_of_lt_of_le h (Nat.pow_le_pow_right (by omega) (by omega)))] at hb
      cases hb

/-- The first of n tries from i on that finds something. -/
def tries (F : Nat → Option Nat) : Nat → Nat → Option Nat
  | _, 0 => none
  | i, n + 1 => match F i with
    | some x => some x
    | none => tries F (i + 1) n
theorem tries_some {F : Nat → Option Nat} : ∀ n i x, tries F i n = some x → ∃ j, i ≤ j ∧ j < i + n ∧ F j = some x := by
  intro n
  induction n with
  | zero => intro i x h; simp [tries] at h
  | succ n ih =>
    intro i x h
    rw [tries] at h
    split at h
    · rename_i y hy
      exact ⟨i, by omega, by omega, by rw [hy]; exact h⟩
    · obtain ⟨j, h1, h2, h3⟩ := ih _ _ h
      exact ⟨j, by omega, by omega, h3⟩
theorem tries_isSome {F : Nat → Option Nat} : ∀ n i j, i ≤ j → j < i + n → (F j).isSome = true → (tries F i n).isSome = true := by
  intro n
  induction n with
  | zero => intro i j h1 h2 _; omega
  | succ n ih =>
    intro i j h1 h2 h3
    rw [tries]
    split
    · rfl
    · rename_i hn
      by_cases e : j = i
      · subst e; rw [hn] at h3; cases h3
      · exact ih (i + 1) j (by omega) (by omega) h3

/-- The search of an error: bit after bit is changed. -/
def dfs (r : Nat → Nat) (s : Nat) : Nat → Nat → Nat → Option Nat
  | 0, _, e => if r e = s then some e else none
  | l + 1, fr, e => if r e = s then some e else tries (fun i => dfs r s l (i + 1) (e ||| 1 <<< i)) fr (15 - fr)
theorem setBit_lt {e i : Nat} (he : e < 2 ^ 15) (hi : i < 15) : e ||| 1 <<< i < 2 ^ 15 :=
  Nat.or_lt_two_pow he (by rw [Nat.shiftLeft_eq, Nat.one_mul]; exact Nat.pow_lt_pow_right (by omega) hi)
theorem cntN_setBit (e i : Nat) : ∀ n, cntN (e ||| 1 <<< i) n ≤ cntN e n + 1 ∧ (n ≤ i → cntN (e ||| 1 <<< i) n = cntN e n) := by
  intro n
  induction n with
  | zero => simp [cntN]
  | succ n ih =>
    simp only [cntN, Nat.testBit_or, one_shift_bit]
    by_cases hin : i = n
    · subst hin
      have := ih.2 (Nat.le_refl _)
      rw [this]
      refine ⟨by cases e.testBit i <;> simp, fun h => by omega⟩
    · have e1 : decide (i = n) = false := by simp [hin]
      rw [e1, Bool.or_false]
      exact ⟨by omega, fun h => by rw [ih.2 (by omega)]⟩
theorem dfs_some (r : Nat → Nat) (s : Nat) : ∀ l fr e x, e < 2 ^ 15 → dfs r s l fr e = some x → r x = s ∧ x < 2 ^ 15 ∧ cnt x ≤ cnt e + l := by
  intro l
  induction l with
  | zero =>
    intro fr e x he h
    rw [dfs] at h
    split at h
    · rename_i hr
      injection h with h
      subst h
      exact ⟨hr, he, by omega⟩
    · cases h
  | succ l ih =>
    intro fr e x he h
    rw [dfs] at h
    split at h
    · rename_i hr
      injection h with h
      subst h
      exact ⟨hr, he, by omega⟩
    · obtain ⟨j, h1, h2, h3⟩ := tries_some _ _ _ h
      have hj := setBit_lt he (show j < 15 by omega)
      obtain ⟨g1, g2, g3⟩ := ih _ _ _ hj h3
      have := (cntN_setBit e j 16).1
      unfold cnt at g3 ⊢
      exact ⟨g1, g2, by omega⟩
theorem dfs_isSome (r : Nat → Nat) (s : Nat) : ∀ l fr e (ds : List Nat), ds.length ≤ l → ds.Pairwise (· < ·) → (∀ d ∈ ds, fr ≤ d ∧ d < 15) → r (setAll e ds) = s → (dfs r s l fr e).isSome = true := by
  intro l
  induction l with
  | zero =>
    intro fr e ds hl _ _ hr
    obtain rfl : ds = [] := List.eq_nil_of_length_eq_zero (by omega)
    have hr' : r e = s := hr
    rw [dfs, if_pos hr']
    rfl
  | succ l ih =>
    intro fr e ds hl hp hd hr
    rw [dfs]
    split
    · rfl
    · rename_i hne
      cases ds with
      | nil => exact absurd hr hne
      | cons d ds =>
        have hp' := List.pairwise_cons.1 hp
        have hdd := hd d (by simp)
        refine tries_isSome _ _ d hdd.1 (by omega) ?_
        exact ih (d + 1) _ ds (by simpa using hl) hp'.2 (fun x hx => ⟨hp'.1 x hx, (hd x (by simp [hx])).2⟩) hr
theorem bitsFrom_sorted (w : Nat) : ∀ n i, (bitsFrom w i n).Pairwise (· < ·) := by
  intro n
  induction n with
  | zero => intro i; simp [bitsFrom]
  | succ n ih =>
    intro i
    rw [bitsFrom]
    split
    · exact List.pairwise_cons.2 ⟨fun j hj => by have := (bitsFrom_mem w n (i + 1) j).1 hj; omega, ih _⟩
    · exact ih _
/-- If there is an error of at most t bits, one is found. -/
theorem dfs_finds {r : Nat → Nat} {s t x : Nat} (hx : x < 2 ^ 15) (hr : r x = s) (hc : cnt x ≤ t) : (dfs r s t 0 0).isSome = true := by
  refine dfs_isSome r s t 0 0 (bitsFrom x 0 15) ?_ (bitsFrom_sorted _ _ _) (fun d hd => ?_) (by rw [setAll_bits hx]; exact hr)
  · have := cntN_bits x 15 0
    rw [cnt15 hx] at hc
    rw [show cntN x 0 = 0 from rfl, Nat.zero_add, Nat.zero_add] at this
    omega
  · have := (bitsFrom_mem x 15 0 d).1 hd
    omega

structure Kd where
  g : Nat
  k : Nat
  t : Nat
def kd : Nat → Kd
  | 1 => ⟨0x13, 11, 1⟩
  | 2 => ⟨0x1d1, 7, 2⟩
  | 3 => ⟨0x537, 5, 3⟩
  | _ => ⟨0, 0, 0⟩
/-- How many bits a sketch has. -/
def Kd.f (c : Kd) : Nat := 15 - c.k
def Kd.rest (c : Kd) (w : Nat) : Nat := rst c.g c.f c.k w
def Kd.code (c : Kd) (m : Nat) : Nat := (m <<< c.f) ^^^ c.rest (m <<< c.f)
/-- Is one of the three. -/
def Kd.ok (c : Kd) : Prop := c = kd 1 ∨ c = kd 2 ∨ c = kd 3
theorem kd_ok {n : Nat} (h1 : 1 ≤ n) (h3 : n ≤ 3) : (kd n).ok := by
  obtain rfl | rfl | rfl : n = 1 ∨ n = 2 ∨ n = 3 := by omega
  · exact .inl rfl
  · exact .inr (.inl rfl)
  · exact .inr (.inr rfl)
theorem Kd.ok.gen {c : Kd} (h : c.ok) : Gen c.g c.f := by
  rcases h with rfl | rfl | rfl <;> exact ⟨by decide, by decide⟩
theorem Kd.ok.sum {c : Kd} (h : c.ok) : c.f + c.k = 15 ∧ 1 ≤ c.k ∧ c.k ≤ 11 ∧ 4 ≤ c.f ∧ c.t ≤ 3 ∧ 1 ≤ c.t := by
  rcases h with rfl | rfl | rfl <;> decide

theorem Kd.rest_xor (c : Kd) (x y : Nat) : c.rest (x ^^^ y) = c.rest x ^^^ c.rest y := rst_xor _ _ _ _ _
theorem Kd.rest_lt {c : Kd} (h : c.ok) {w : Nat} (hw : w < 2 ^ 15) : c.rest w < 2 ^ c.f := rst_lt h.gen _ _ (by rw [h.sum.1]; exact hw)
theorem Kd.rest_small {c : Kd} {w : Nat} (hw : w < 2 ^ c.f) : c.rest w = w := rst_small _ _ hw
theorem xor_self (x : Nat) : x ^^^ x = 0 := by simp
theorem xor_xor (x y : Nat) : x ^^^ y ^^^ y = x := by rw [Nat.xor_assoc, xor_self, Nat.xor_zero]
theorem Kd.rest_zero (c : Kd) : c.rest 0 = 0 := rst_small _ _ (Nat.two_pow_pos _)
theorem shl_lt {c : Kd} (h : c.ok) {m : Nat} (hm : m < 2 ^ c.k) : m <<< c.f < 2 ^ 15 := by
  rw [Nat.shiftLeft_eq, ← h.sum.1, Nat.add_comm, Nat.pow_add]
  exact Nat.mul_lt_mul_of_pos_right hm (Nat.two_pow_pos _)
theorem pow_f_le {c : Kd} (h : c.ok) : 2 ^ c.f ≤ 2 ^ 15 := Nat.pow_le_pow_right (by omega) (by have := h.sum; omega)
theorem Kd.code_lt {c : Kd} (h : c.ok) {m : Nat} (hm : m < 2 ^ c.k) : c.code m < 2 ^ 15 :=
  Nat.xor_lt_two_pow (shl_lt h hm) (Nat.lt_of_lt_of_le (c.rest_lt h (shl_lt h hm)) (pow_f_le h))
theorem Kd.rest_code {c : Kd} (h : c.ok) {m : Nat} (hm : m < 2 ^ c.k) : c.rest (c.code m) = 0 := by
  rw [Kd.code, c.rest_xor, c.rest_small (c.rest_lt h (shl_lt h hm)), xor_self]
theorem Kd.code_top {c : Kd} (h : c.ok) {m : Nat} (hm : m < 2 ^ c.k) : c.code m >>> c.f = m := by
  rw [Kd.code, Nat.shiftRight_xor_distrib, Nat.shiftRight_eq_div_pow (c.rest _), Nat.div_eq_of_lt (c.rest_lt h (shl_lt h hm)), Nat.xor_zero, Nat.shiftLeft_shiftRight]
theorem shr_lt {c : Kd} (h : c.ok) {w : Nat} (hw : w < 2 ^ 15) : w >>> c.f < 2 ^ c.k := by
  rw [Nat.shiftRight_eq_div_pow]
  exact Nat.div_lt_of_lt_mul (by rw [← Nat.pow_add, h.sum.1]; exact hw)
/-- What has the sketch 0 is a code word. -/
theorem Kd.of_rest_zero {c : Kd} (h : c.ok) {w : Nat} (hw : w < 2 ^ 15) (hr : c.rest w = 0) : c.code (w >>> c.f) = w := by
  have hm := shr_lt h hw
  have h1 : c.rest (w ^^^ c.code (w >>> c.f)) = 0 := by rw [c.rest_xor, hr, c.rest_code h hm]; rfl
  have h2 : w ^^^ c.code (w >>> c.f) < 2 ^ c.f := by
    have : (w ^^^ c.code (w >>> c.f)) >>> c.f = 0 := by rw [Nat.shiftRight_xor_distrib, c.code_top h hm, xor_self]
    rw [Nat.shiftRight_eq_div_pow] at this
    exact (Nat.div_eq_zero_iff_lt (Nat.two_pow_pos _)).1 this
  rw [c.rest_small h2] at h1
  have := xor_xor w (c.code (w >>> c.f))
  rw [h1, Nat.zero_xor] at this
  exact this
def farB (c : Kd) : Bool := (List.range (2 ^ c.k)).all fun m => m == 0 || decide (2 * c.t < cnt (c.code m))
theorem far1 : farB (kd 1) = true := by decide +kernel
theorem far2 : farB (kd 2) = true := by decide +kernel
theorem far3 : farB (kd 3) = true := by decide +kernel
/-- A code word other than 0 has more than 2 t bits. -/
theorem Kd.far {c : Kd} (h : c.ok) {m : Nat} (hm : m < 2 ^ c.k) (h0 : m ≠ 0) : 2 * c.t < cnt (c.code m) := by
  have hb : farB c = true := by rcases h with rfl | rfl | rfl; exact far1; exact far2; exact far3
  have := List.all_eq_true.1 hb m (List.mem_range.2 hm)
  simpa [h0] using this
theorem Kd.code_xor (c : Kd) (a b : Nat) : c.code (a ^^^ b) = c.code a ^^^ c.code b := by
  unfold Kd.code
  rw [Nat.shiftLeft_xor_distrib, c.rest_xor]
  generalize a <<< c.f = A
  generalize b <<< c.f = B
  generalize c.rest A = C
  generalize c.rest B = D
  rw [Nat.xor_assoc, Nat.xor_assoc, ← Nat.xor_assoc B, Nat.xor_comm B C, Nat.xor_assoc]
/-- Two words with one sketch that differ in at most 2 t bits are one word. -/
theorem Kd.unique {c : Kd} (h : c.ok) {x y : Nat} (hx : x < 2 ^ 15) (hy : y < 2 ^ 15) (hr : c.rest x = c.rest y) (hc : cnt (x ^^^ y) ≤ 2 * c.t) : x = y := by
  have hz : x ^^^ y < 2 ^ 15 := Nat.xor_lt_two_pow hx hy
  have hr0 : c.rest (x ^^^ y) = 0 := by rw [c.rest_xor, hr, xor_self]
  have hw := c.of_rest_zero h hz hr0
  have hm := shr_lt h hz
  have h0 : (x ^^^ y) >>> c.f = 0 := by
    rcases Nat.eq_zero_or_pos ((x ^^^ y) >>> c.f) with e | e
    · exact e
    · have := c.far h hm (by omega)
      rw [hw] at this
      omega
  rw [h0] at hw
  have hz0 : x ^^^ y = 0 := by
    rw [← hw]
    rcases h with rfl | rfl | rfl <;> decide +kernel
  have := xor_xor x y
  rw [hz0, Nat.zero_xor] at this
  exact this.symm

/-- The error with a sketch. -/
def Kd.err (c : Kd) (s : Nat) : Option Nat := dfs c.rest s c.t 0 0
theorem Kd.err_some {c : Kd} {s e : Nat} (h : c.err s = some e) : c.rest e = s ∧ e < 2 ^ 15 ∧ cnt e ≤ c.t := by
  have := dfs_some c.rest s c.t 0 0 e (by decide) h
  rw [show cnt 0 = 0 from by decide, Nat.zero_add] at this
  exact this
theorem Kd.err_eq {c : Kd} (h : c.ok) {s e : Nat} (he : e < 2 ^ 15) (hr : c.rest e = s) (hc : cnt e ≤ c.t) : c.err s = some e := by
  have hs := dfs_finds (r := c.rest) he hr hc
  obtain ⟨x, hx⟩ := Option.isSome_iff_exists.1 hs
  obtain ⟨h1, h2, h3⟩ := Kd.err_some (c := c) hx
  have hxe : x = e := c.unique h h2 he (h1.trans hr.symm) (by have := cnt_xor x e; omega)
  rw [← hxe]
  exact hx

/-- The message of the code word that is near to a word, as the reference seeks it: the first of n from m on. -/
def Kd.near (c : Kd) (w : Nat) : Nat → Nat → Option (Nat × Nat)
  | _, 0 => none
  | m, n + 1 => if cnt (w ^^^ c.code m) ≤ c.t then some (m, cnt (w ^^^ c.code m)) else c.near w (m + 1) n
def Kd.dec (c : Kd) (w : Nat) : Option (Nat × Nat) := c.near w 0 (2 ^ c.k)
theorem Kd.near_some {c : Kd} {w : Nat} : ∀ n m r, c.near w m n = some r → m ≤ r.1 ∧ r.1 < m + n ∧ r.2 = cnt (w ^^^ c.code r.1) ∧ r.2 ≤ c.t := by
  intro n
  induction n with
  | zero => intro m r h; cases h
  | succ n ih =>
    intro m r h
    rw [Kd.near] at h
    split at h
    · rename_i hc
      injection h with h
      subst h
      exact ⟨Nat.le_refl _, by omega, rfl, hc⟩
    · have := ih _ _ h
      omega
theorem Kd.near_finds {c : Kd} {w : Nat} : ∀ n m j, m ≤ j → j < m + n → cnt (w ^^^ c.code j) ≤ c.t → (c.near w m n).isSome = true := by
  intro n
  induction n with
  | zero => intro m j h1 h2; omega
  | succ n ih =>
    intro m j h1 h2 hc
    rw [Kd.near]
    split
    · rfl
    · rename_i hn
      by_cases e : j = m
      · subst e; exact absurd hc hn
      · exact ih (m + 1) j (by omega) (by omega) hc
theorem Kd.dec_eq {c : Kd} (h : c.ok) {w m : Nat} (hm : m < 2 ^ c.k) (hc : cnt (w ^^^ c.code m) ≤ c.t) : c.dec w = some (m, cnt (w ^^^ c.code m)) := by
  have hs := Kd.near_finds (c := c) (w := w) (2 ^ c.k) 0 m (by omega) (by omega) hc
  obtain ⟨x, hx⟩ := Option.isSome_iff_exists.1 hs
  obtain ⟨h1, h2, h3, h4⟩ := Kd.near_some _ _ _ hx
  have hxm : x.1 = m := by
    have e := c.unique h (c.code_lt h (show x.1 < 2 ^ c.k by omega)) (c.code_lt h hm) (by rw [c.rest_code h (by omega), c.rest_code h hm]) (by
      have := cnt_xor (w ^^^ c.code x.1) (w ^^^ c.code m)
      have e2 : w ^^^ c.code x.1 ^^^ (w ^^^ c.code m) = c.code x.1 ^^^ c.code m := by
        rw [Nat.xor_comm w, Nat.xor_assoc, ← Nat.xor_assoc w w, xor_self, Nat.zero_xor]
      rw [e2] at this
      omega)
    have := congrArg (· >>> c.f) e
    simp only [c.code_top h (show x.1 < 2 ^ c.k by omega), c.code_top h hm] at this
    exact this
  have : x = (m, cnt (w ^^^ c.code m)) := by
    rcases x with ⟨a, b⟩
    simp only at hxm h3
    subst hxm; subst h3
    rfl
  rw [Kd.dec, hx, this]
/-- The program decodes by errors, the reference by messages: it is the same. -/
theorem Kd.dec_err {c : Kd} (h : c.ok) {w : Nat} (hw : w < 2 ^ 15) : c.dec w = (c.err (c.rest w)).map fun e => ((w ^^^ e) >>> c.f, cnt e) := by
  cases he : c.err (c.rest w) with
  | some e =>
    obtain ⟨h1, h2, h3⟩ := Kd.err_some he
    have hz : w ^^^ e < 2 ^ 15 := Nat.xor_lt_two_pow hw h2
    have hc := c.of_rest_zero h hz (by rw [c.rest_xor, h1, xor_self])
    have hd : w ^^^ c.code ((w ^^^ e) >>> c.f) = e := by rw [hc, ← Nat.xor_assoc, xor_self, Nat.zero_xor]
    have := c.dec_eq h (shr_lt h hz) (by rw [hd]; exact h3)
    rw [this, hd]
    rfl
  | none =>
    cases hd : c.dec w with
    | none => rfl
    | some x =>
      obtain ⟨h1, h2, h3, h4⟩ := Kd.near_some _ _ _ hd
      have hm : x.1 < 2 ^ c.k := by omega
      have := c.err_eq (s := c.rest w) h (Nat.xor_lt_two_pow hw (c.code_lt h hm)) (by rw [c.rest_xor, c.rest_code h hm, Nat.xor_zero]) (by omega)
      rw [he] at this
      cases this
end Go.Proofs.YtnienfgaidccpaaDoor
