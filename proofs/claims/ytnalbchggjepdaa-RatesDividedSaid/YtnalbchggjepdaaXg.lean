/- Rates: the ones of a number. No condition. -/
import Derived.Test.YtnalbchggjepdaaXe
import Derived.Laws.BitsAllLaws
namespace Go.Proofs.Ytnalbchggjepdaa
open Go.RowKit Go.Shelf
attribute [local go_sem] Oper.semAt_some

theorem i64_and_nat (a b : Nat) (ha : a < 9223372036854775808) (hb : b < 9223372036854775808) : bits .and .i64 (a : Int) (b : Int) = ((a &&& b : Nat) : Int) := by
  have hx : a &&& b < 2 ^ 63 := Nat.and_lt_two_pow _ (by omega)
  show IntKind.i64.wrap ((BitVec.ofInt 64 (a : Int) &&& BitVec.ofInt 64 (b : Int)).toNat : Int) = _
  rw [BitVec.toNat_and, ofInt_u64 a (by omega), ofInt_u64 b (by omega)]
  exact IntWalk.i64_in _ (by omega)
theorem i64_andnot_nat (a b : Nat) (hb : b < 9223372036854775808) : bits .and .i64 (-(a : Int) - 1) (b : Int) = ((b ^^^ (a &&& b) : Nat) : Int) := by
  have hx : b ^^^ (a &&& b) < 2 ^ 63 := Nat.xor_lt_two_pow (by omega) (Nat.and_lt_two_pow _ (by omega))
  show IntKind.i64.wrap ((BitVec.ofInt 64 (-(a : Int) - 1) &&& BitVec.ofInt 64 (b : Int)).toNat : Int) = _
  have e : BitVec.ofInt 64 (-(a : Int) - 1) = ~~~(BitVec.ofNat 64 a) := by
    rw [show -(a : Int) - 1 = Int.negSucc a by omega]
    exact BitVec.ofInt_negSucc_eq_not_ofNat
  have e2 : (~~~(BitVec.ofNat 64 a) &&& BitVec.ofInt 64 (b : Int)).toNat = b ^^^ (a &&& b) := by
    have h2 : BitVec.ofInt 64 (b : Int) = BitVec.ofNat 64 b := BitVec.ofInt_natCast 64 b
    rw [h2]
    have h3 : ~~~(BitVec.ofNat 64 a) &&& BitVec.ofNat 64 b = BitVec.ofNat 64 (b ^^^ (a &&& b)) := by
      apply BitVec.eq_of_getLsbD_eq
      intro i hi
      simp only [BitVec.getLsbD_and, BitVec.getLsbD_not, BitVec.getLsbD_ofNat, Nat.testBit_xor, Nat.testBit_and, hi, decide_true, Bool.true_and]
      cases a.testBit i <;> cases b.testBit i <;> rfl
    rw [h3, BitVec.toNat_ofNat, Nat.mod_eq_of_lt (by omega)]
  rw [e, e2]
  exact IntWalk.i64_in _ (by omega)
theorem i64_not_nat (a : Nat) (ha : a < 9223372036854775808) : bits .xor .i64 (-1) (a : Int) = -(a : Int) - 1 := by
  show IntKind.i64.wrap ((BitVec.ofInt 64 (-1) ^^^ BitVec.ofInt 64 (a : Int)).toNat : Int) = _
  have h1 : BitVec.ofInt 64 (-1) = BitVec.allOnes 64 := by decide
  rw [h1, BitVec.allOnes_xor, BitVec.toNat_not, ofInt_u64 a (by omega), IntKind.wrap_i64]
  omega
theorem on_split (o x n : Nat) : on (x &&& o) n + on (o ^^^ (x &&& o)) n = on o n := by
  induction n with
  | zero => rfl
  | succ n ih =>
    rw [on_succ, on_succ, on_succ, Nat.testBit_xor, Nat.testBit_and]
    cases x.testBit n <;> cases o.testBit n <;> simp <;> omega
theorem on_not_le (o x n : Nat) : on (o ^^^ (x &&& o)) n ≤ n - on x n := by
  induction n with
  | zero => simp [on]
  | succ n ih =>
    have := on_le x n
    rw [on_succ, on_succ, Nat.testBit_xor, Nat.testBit_and]
    cases x.testBit n <;> cases o.testBit n <;> simp <;> omega
def bitN (x i : Nat) : Nat := x / 2 ^ i % 2
theorem bitN_le (x i : Nat) : bitN x i ≤ 1 := by unfold bitN; omega
theorem bitN_test (x i : Nat) : bitN x i = if x.testBit i = true then 1 else 0 := by
  unfold bitN
  rw [Nat.testBit_eq_decide_div_mod_eq]
  by_cases h : x / 2 ^ i % 2 = 1
  · rw [h]; rfl
  · have : x / 2 ^ i % 2 = 0 := by omega
    rw [this]; rfl
theorem and_bit_i64 {x : Nat} (h : x < 2 ^ 16) (i : Nat) : bits .and .i64 ((x : Int) / 2 ^ i) 1 = (bitN x i : Nat) := by
  rw [show ((x : Int) / 2 ^ i) = ((x / 2 ^ i : Nat) : Int) by push_cast; rfl]
  have h1 : x / 2 ^ i ≤ x := Nat.div_le_self _ _
  have := i64_and_nat (x / 2 ^ i) 1 (by omega) (by omega)
  rw [nat_mask1] at this
  exact this
set_option maxRecDepth 100000 in
set_option maxHeartbeats 2000000 in
theorem ones_any (x n : Nat) (w : World) (hx : x < 2 ^ 16) (hn : n ≤ 16) : Calls Try.prog 52 #[.int .i64 (x : Nat), .int .i64 (n : Nat)] w fun e w' => e = .returned (.int .i64 (on x n : Nat)) ∧ Below w.heap.size w w' := by
  have HX := Lib.hid hx
  clear hx
  go_enter Try.func52, Try.ntmps52
  go_wp2_with fail
  go_loopg [5, 8] n (fun q u5 u8 wr => ∃ i a : Nat, (i ≤ n ∧ a ≤ i) ∧ u8 = .int .i64 (i : Nat) ∧ u5 = .int .i64 (a : Nat) ∧ Hid (i + q = n ∧ a = on x i ∧ Own w wr []))
  case atStart => exact ⟨0, 0, by omega, rfl, rfl, by omega, rfl, Own.start w⟩
  case round =>
    obtain ⟨i, a, ⟨hi, ha⟩, rfl, rfl, hI⟩ := hrel
    have I1 := Lib.hid hI.out.1
    have I3 := Lib.hid hI.out.2.1
    have I2 := Lib.hid hI.out.2.2
    clear hI
    by_cases hlt : i < n
    · have hix : (i : Int) < (n : Int) := by omega
      have hb := and_bit_i64 HX.out i
      have HS := Lib.hid (show a + bitN x i = on x (i + 1) by rw [on_succ, I3.out, bitN_test])
      have hle := bitN_le x i
      generalize bitN x i = c at *
      have z1 : IntKind.i64.wrap ((a : Int) + (c : Int)) = ((a + c : Nat) : Int) := by rw [← Int.natCast_add]; exact IntWalk.i64_in _ (by omega)
      have z2 : (0 : Int) ≤ (i : Int) := by omega
      have z3 : (i : Int) ≤ 64 := by omega
      go_wp2_with fail
      go_roundg (gk - 1)
      case measure => have := I1.out; omega
      case rel => exact ⟨i + 1, a + c, by omega, by go_num, rfl, by have := I1.out; omega, HS.out, I2.out⟩
    · obtain rfl : i = n := by omega
      have hni : ¬ (i : Int) < (i : Int) := by omega
      go_wp2_with fail
      go_ret
      exact ⟨by rw [I3.out]; rfl, I2.out.bel⟩
end Go.Proofs.Ytnalbchggjepdaa
