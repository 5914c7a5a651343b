/- Sketch: K, T, Kind, IsMessage, IsSketch, Far, Rest, Coded of the reference. No condition. -/
import Derived.Test.YtnienfgaidccpaaDoorKa
namespace Go.Proofs.YtnienfgaidccpaaDoor
open Go.RowKit Go.Shelf
attribute [local go_sem] Oper.semAt_some

theorem i64_and_nat (a b : Nat) (ha : a < 9223372036854775808) (hb : b < 9223372036854775808) : bits .and .i64 (a : Int) (b : Int) = ((a &&& b : Nat) : Int) := by
  have hx : a &&& b < 2 ^ 63 := Nat.and_lt_two_pow _ (by omega)
  show IntKind.i64.wrap ((BitVec.ofInt 64 (a : Int) &&& BitVec.ofInt 64 (b : Int)).toNat : Int) = _
  rw [BitVec.toNat_and, ofInt_u64 a (by omega), ofInt_u64 b (by omega)]
  exact IntWalk.i64_in _ (by omega)
theorem i64_xor_nat (a b : Nat) (ha : a < 9223372036854775808) (hb : b < 9223372036854775808) : bits .xor .i64 (a : Int) (b : Int) = ((a ^^^ b : Nat) : Int) := by
  have hx : a ^^^ b < 2 ^ 63 := Nat.xor_lt_two_pow (by omega) (by omega)
  show IntKind.i64.wrap ((BitVec.ofInt 64 (a : Int) ^^^ BitVec.ofInt 64 (b : Int)).toNat : Int) = _
  rw [BitVec.toNat_xor, ofInt_u64 a (by omega), ofInt_u64 b (by omega)]
  exact IntWalk.i64_in _ (by omega)
/-- Bit number i, as a number. -/
def bitN (x i : Nat) : Nat := x / 2 ^ i % 2
theorem bitN_le (x i : Nat) : bitN x i ≤ 1 := by unfold bitN; omega
theorem bitN_test (x i : Nat) : bitN x i = if x.testBit i then 1 else 0 := by
  unfold bitN
  rw [Nat.testBit_eq_decide_div_mod_eq]
  by_cases h : x / 2 ^ i % 2 = 1
  · rw [h]; rfl
  · have : x / 2 ^ i % 2 = 0 := by omega
    rw [this]; rfl
theorem div_pow_cast (x i : Nat) : ((x : Int) / 2 ^ i) = ((x / 2 ^ i : Nat) : Int) := by push_cast; rfl
theorem and_bit_i64 {x : Nat} (h : x < 2 ^ 16) (i : Nat) : bits .and .i64 ((x : Int) / 2 ^ i) 1 = (bitN x i : Nat) := by
  rw [div_pow_cast]
  have h1 : x / 2 ^ i ≤ x := Nat.div_le_self _ _
  have := i64_and_nat (x / 2 ^ i) 1 (by omega) (by omega)
  rw [nat_mask1] at this
  exact this
theorem and_bit_u16 {x : Nat} (h : x < 2 ^ 16) (i : Nat) : bits .and .u16 ((x : Int) / 2 ^ i) 1 = (bitN x i : Nat) := by
  rw [div_pow_cast]
  have h1 : x / 2 ^ i ≤ x := Nat.div_le_self _ _
  have := u16_and_nat (x / 2 ^ i) 1 (by omega) (by omega)
  rw [nat_mask1] at this
  exact this

theorem kd_sum {n : Nat} (h1 : 1 ≤ n) (h3 : n ≤ 3) : (kd n).f + (kd n).k = 15 ∧ 1 ≤ (kd n).k ∧ (kd n).k ≤ 11 ∧ 4 ≤ (kd n).f ∧ (kd n).t ≤ 3 ∧ 1 ≤ (kd n).t := (kd_ok h1 h3).sum
theorem K_any (n : Nat) (h1 : 1 ≤ n) (h3 : n ≤ 3) (w : World) : Calls Tryd.prog 35 #[.int .u8 (n : Nat)] w fun e w' => e = .returned (.int .i64 ((kd n).k : Nat)) ∧ Below w.heap.size w w' := by
  obtain rfl | rfl | rfl : n = 1 ∨ n = 2 ∨ n = 3 := by omega
  all_goals
    go_enter Tryd.func35, Tryd.ntmps35
    go_wp2_with fail
    go_ret
    exact ⟨rfl, below_alloc _ _⟩
theorem T_any (n : Nat) (h1 : 1 ≤ n) (h3 : n ≤ 3) (w : World) : Calls Tryd.prog 33 #[.int .u8 (n : Nat)] w fun e w' => e = .returned (.int .i64 ((kd n).t : Nat)) ∧ Below w.heap.size w w' := by
  obtain rfl | rfl | rfl : n = 1 ∨ n = 2 ∨ n = 3 := by omega
  all_goals
    go_enter Tryd.func33, Tryd.ntmps33
    go_wp2_with fail
    go_ret
    exact ⟨rfl, below_alloc _ _⟩
theorem gen_any (n : Nat) (h1 : 1 ≤ n) (h3 : n ≤ 3) (w : World) : Calls Tryd.prog 87 #[.int .u8 (n : Nat)] w fun e w' => e = .returned (.int .i64 ((kd n).g : Nat)) ∧ Below w.heap.size w w' := by
  obtain rfl | rfl | rfl : n = 1 ∨ n = 2 ∨ n = 3 := by omega
  all_goals
    go_enter Tryd.func87, Tryd.ntmps87
    go_wp2_with fail
    go_ret
    exact ⟨rfl, below_alloc _ _⟩
theorem Kind_any (k : Int) (w : World) : Calls Tryd.prog 29 #[.int .u8 k] w fun e w' => e = .returned (.bool (kindB k)) ∧ Below w.heap.size w w' := by
  by_cases h1 : 1 ≤ k
  · by_cases h3 : k ≤ 3
    all_goals
      have HB := Lib.hid (show kindB k = decide (k ≤ 3) by simp [kindB, h1])
      go_enter Tryd.func29, Tryd.ntmps29
      go_wp2_with fail
      go_ret
      exact ⟨by rw [HB.out]; simp [*], Below.refl _ _⟩
  · have HB := Lib.hid (show kindB k = false by simp [kindB, h1])
    go_enter Tryd.func29, Tryd.ntmps29
    go_wp2_with fail
    go_ret
    exact ⟨by rw [HB.out]; rfl, Below.refl _ _⟩
theorem pow_cast (k : Nat) : ((2 : Int) ^ k) = ((2 ^ k : Nat) : Int) := by push_cast; rfl
theorem pow_wrap {k : Nat} (h : k ≤ 16) : IntKind.i64.wrap ((2 : Int) ^ k) = 2 ^ k := by
  have hp : 2 ^ k ≤ 2 ^ 16 := Nat.pow_le_pow_right (by decide) h
  rw [pow_cast]
  generalize 2 ^ k = q at hp
  exact IntWalk.i64_in _ (by omega)
theorem isMessage_any (n : Nat) (h1 : 1 ≤ n) (h3 : n ≤ 3) (m : Nat) (hm : m < 2 ^ 16) (w : World) : Calls Tryd.prog 30 #[.int .u8 (n : Nat), .int .u16 (m : Nat)] w fun e w' => e = .returned (.bool (decide (m < 2 ^ (kd n).k))) ∧ Below w.heap.size w w' := by
  have hs := kd_sum h1 h3
  have HK := Lib.hid (fun W => K_any n h1 h3 W)
  have HB := Lib.hid (show decide ((m : Int) < 2 ^ (kd n).k) = decide (m < 2 ^ (kd n).k) by rw [pow_cast, decide_eq_decide]; omega)
  generalize kd n = c at *
  obtain ⟨s1, s2, s3, s4, s5, s6⟩ := hs
  have e1 : IntKind.i64.wrap (m : Int) = m := IntWalk.i64_in _ (by omega)
  have e2 : IntKind.i64.wrap ((2 : Int) ^ c.k) = 2 ^ c.k := pow_wrap (by omega)
  go_enter Tryd.func30, Tryd.ntmps30
  go_wp2_with fail
  refine (HK.out _).mono ?_
  rintro e w1 ⟨rfl, hb1⟩
  go_wp2_with fail
  go_ret
  exact ⟨by rw [← HB.out]; rfl, hb1⟩
theorem isSketch_any (n : Nat) (h1 : 1 ≤ n) (h3 : n ≤ 3) (m : Nat) (hm : m < 2 ^ 16) (w : World) : Calls Tryd.prog 37 #[.int .u8 (n : Nat), .int .u16 (m : Nat)] w fun e w' => e = .returned (.bool (decide (m < 2 ^ (kd n).f))) ∧ Below w.heap.size w w' := by
  have hs := kd_sum h1 h3
  have HK := Lib.hid (fun W => K_any n h1 h3 W)
  have HB := Lib.hid (show decide ((m : Int) < 2 ^ (kd n).f) = decide (m < 2 ^ (kd n).f) by rw [pow_cast, decide_eq_decide]; omega)
  generalize kd n = c at *
  obtain ⟨s1, s2, s3, s4, s5, s6⟩ := hs
  have e1 : IntKind.i64.wrap (m : Int) = m := IntWalk.i64_in _ (by omega)
  have e3 : IntKind.i64.wrap (15 - (c.k : Int)) = c.f := by rw [IntWalk.i64_in _ (by omega)]; omega
  have e2 : IntKind.i64.wrap ((2 : Int) ^ c.f) = 2 ^ c.f := pow_wrap (by omega)
  have b1 : 0 ≤ (c.f : Int) := by omega
  have b2 : (c.f : Int) ≤ 64 := by omega
  go_enter Tryd.func37, Tryd.ntmps37
  go_wp2_with fail
  refine (HK.out _).mono ?_
  rintro e w1 ⟨rfl, hb1⟩
  go_wp2_with fail
  go_ret
  exact ⟨by rw [← HB.out]; rfl, hb1⟩
set_option maxRecDepth 100000 in
theorem far_any (a b : Nat) (ha : a < 2 ^ 16) (hb : b < 2 ^ 16) (w : World) : Calls Tryd.prog 34 #[.int .u16 (a : Nat), .int .u16 (b : Nat)] w fun e w' => e = .returned (.int .i64 (cnt (a ^^^ b) : Nat)) ∧ w = w' := by
  have hx : a ^^^ b < 2 ^ 16 := Nat.xor_lt_two_pow ha hb
  have e1 : bits .xor .u16 (a : Int) (b : Int) = ((a ^^^ b : Nat) : Int) := u16_xor_nat _ _ ha hb
  have HE := Lib.hid (show cnt (a ^^^ b) = cntN (a ^^^ b) 16 from rfl)
  generalize a ^^^ b = x at *
  have HL := Lib.hid (show ∀ i, cntN x i ≤ i from fun i => by
    induction i with
    | zero => exact Nat.le_refl _
    | succ i ih => rw [cntN]; split <;> omega)
  go_enter Tryd.func34, Tryd.ntmps34
  go_wp2_with fail
  go_loopg [5, 6] 16 (fun q u5 u6 wr => ∃ i m : Nat, i ≤ 16 ∧ m ≤ i ∧ u5 = .int .i64 (m : Nat) ∧ u6 = .int .i64 (i : Nat) ∧ Hid (m = cntN x i ∧ i + q = 16 ∧ wr = w))
  case atStart => exact ⟨0, 0, by omega, by omega, rfl, rfl, rfl, by omega, rfl⟩
  case round =>
    obtain ⟨i, m, hi, hm, rfl, rfl, hI⟩ := hrel
    have I1 := Lib.hid hI.out.1
    have I2 := Lib.hid hI.out.2.1
    have I3 := Lib.hid hI.out.2.2
    clear hI
    by_cases hlt : i < 16
    · as_aux_lemma =>
      have i1 : (i : Int) < 16 := by omega
      have b1 : (i : Int) ≤ 16 := by omega
      have e2 := and_bit_u16 hx i
      have hbl := bitN_le x i
      have HS := Lib.hid (show cntN x (i + 1) = m + bitN x i by rw [cntN, bitN_test, ← I1.out])
      generalize bitN x i = d at *
      have e3 : IntKind.i64.wrap (d : Int) = d := IntWalk.i64_in _ (by omega)
      have e4 : IntKind.i64.wrap ((m : Int) + d) = (m : Int) + d := IntWalk.i64_in _ (by omega)
      go_wp2_with fail
      go_roundg (gk - 1)
      case measure => have := I2.out; omega
      case rel => exact ⟨i + 1, m + d, by omega, by omega, by go_num, by go_num, HS.out.symm, by have := I2.out; omega, I3.out⟩
    · as_aux_lemma =>
      have hi16 : ¬ (i : Int) < 16 := by omega
      have HI := Lib.hid (show i = 16 by omega)
      go_wp2_with fail
      go_ret
      exact ⟨by rw [HE.out, ← HI.out, ← I1.out]; rfl, I3.out.symm⟩
end Go.Proofs.YtnienfgaidccpaaDoor
