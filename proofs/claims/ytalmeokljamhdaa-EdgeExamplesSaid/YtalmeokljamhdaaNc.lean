/- Mixing two numbers of 64 bits: different numbers are kept apart; seals. -/
import Derived.Test.YtalmeokljamhdaaMb
namespace Go.Proofs.Ytalmeokljamhdaa
open Go.RowKit
def mixB (a b : BitVec 64) : BitVec 64 :=
  let x := (a ^^^ b) * 11400714819323198485#64
  let y := (x ^^^ (x >>> 29)) * 13787848793156543929#64
  y ^^^ (y >>> 32)
theorem shr_self {d : BitVec 64} {k : Nat} (hk : 0 < k) (h : d = d >>> k) : d = 0#64 := by
  have h1 : d.toNat = d.toNat / 2 ^ k := by
    have := congrArg BitVec.toNat h
    rw [BitVec.toNat_ushiftRight, Nat.shiftRight_eq_div_pow] at this
    exact this
  apply BitVec.eq_of_toNat_eq
  rcases Nat.eq_zero_or_pos d.toNat with h0 | h0
  · simpa using h0
  · have := Nat.div_lt_self h0 (Nat.one_lt_two_pow (by omega : k ≠ 0))
    omega
theorem xor_shr_inj {x y : BitVec 64} {k : Nat} (hk : 0 < k) (h : x ^^^ (x >>> k) = y ^^^ (y >>> k)) : x = y := by
  have hd : (x ^^^ y) = (x ^^^ y) >>> k := by
    apply BitVec.eq_of_getLsbD_eq
    intro i hi
    have h1 := congrArg (fun z => BitVec.getLsbD z i) h
    simp only [BitVec.getLsbD_xor, BitVec.getLsbD_ushiftRight] at h1 ⊢
    revert h1
    cases x.getLsbD i <;> cases y.getLsbD i <;> cases x.getLsbD (k + i) <;> cases y.getLsbD (k + i) <;> simp
  have h0 := shr_self hk hd
  apply BitVec.eq_of_getLsbD_eq
  intro i hi
  have h1 := congrArg (fun z => BitVec.getLsbD z i) h0
  simp only [BitVec.getLsbD_xor, BitVec.getLsbD_zero] at h1
  revert h1
  cases x.getLsbD i <;> cases y.getLsbD i <;> simp
theorem mul_inj {x y c d : BitVec 64} (hc : c * d = 1#64) (h : x * c = y * c) : x = y := by
  have := congrArg (· * d) h
  simp only [BitVec.mul_assoc, hc, BitVec.mul_one] at this
  exact this
theorem xor_inj {a b c : BitVec 64} (h : a ^^^ b = a ^^^ c) : b = c := by
  have := congrArg (a ^^^ ·) h
  simpa only [← BitVec.xor_assoc, BitVec.xor_self, BitVec.zero_xor] using this
theorem mixB_inj {a b c : BitVec 64} (h : mixB a b = mixB a c) : b = c := by
  unfold mixB at h
  have h1 := xor_shr_inj (by decide) h
  have h2 := mul_inj (d := 10871156337175269513#64) (by decide) h1
  have h3 := xor_shr_inj (by decide) h2
  have h4 := mul_inj (d := 17428512612931826493#64) (by decide) h3
  exact xor_inj h4
theorem mixB_comm (a b : BitVec 64) : mixB a b = mixB b a := by unfold mixB; rw [BitVec.xor_comm a b]
theorem mixB_inj1 {a b c : BitVec 64} (h : mixB a b = mixB c b) : a = c := by
  rw [mixB_comm a, mixB_comm c] at h; exact mixB_inj h
theorem wrap_mul64 (a : BitVec 64) (c : Nat) : IntKind.u64.wrap ((a.toNat : Int) * (c : Int)) = ((a * BitVec.ofNat 64 c).toNat : Int) := by
  rw [IntKind.wrap_u64, BitVec.toNat_mul, BitVec.toNat_ofNat]
  have : ((a.toNat : Int) * (c : Int)) = ((a.toNat * c : Nat) : Int) := by simp
  rw [this]
  have h2 : a.toNat * (c % 2 ^ 64) % 2 ^ 64 = a.toNat * c % 2 ^ 64 := by rw [Nat.mul_mod_mod]
  rw [h2]
  omega
theorem div_shr64 (a : BitVec 64) (k : Nat) : (a.toNat : Int) / ((2 ^ k : Nat) : Int) = ((a >>> k).toNat : Int) := by
  rw [BitVec.toNat_ushiftRight, Nat.shiftRight_eq_div_pow]
  simp
theorem mixI_eq (a b : BitVec 64) : mixI a.toNat b.toNat = ((mixB a b).toNat : Int) := by
  unfold mixI mixB
  rw [bits_xor64]
  have e1 := wrap_mul64 (a ^^^ b) 11400714819323198485
  have e2 := div_shr64 ((a ^^^ b) * 11400714819323198485#64) 29
  rw [show ((11400714819323198485 : Nat) : Int) = 11400714819323198485 from rfl] at e1
  rw [e1]
  rw [show ((2 ^ 29 : Nat) : Int) = 536870912 from rfl] at e2
  rw [e2, bits_xor64]
  have e3 := wrap_mul64 ((a ^^^ b) * 11400714819323198485#64 ^^^ ((a ^^^ b) * 11400714819323198485#64) >>> 29) 13787848793156543929
  rw [show ((13787848793156543929 : Nat) : Int) = 13787848793156543929 from rfl] at e3
  rw [e3]
  have e4 := div_shr64 (((a ^^^ b) * 11400714819323198485#64 ^^^ ((a ^^^ b) * 11400714819323198485#64) >>> 29) * 13787848793156543929#64) 32
  rw [show ((2 ^ 32 : Nat) : Int) = 4294967296 from rfl] at e4
  rw [e4, bits_xor64]
def sealM (asOf maxAge set key : BitVec 64) : BitVec 64 := mixB (mixB (mixB key asOf) set) maxAge
theorem wrap_time {n : Int} (h : inB 0 1099511627776 n = true) : IntKind.u64.wrap n = ((BitVec.ofNat 64 n.toNat).toNat : Int) := by
  simp only [inB, decide_eq_true_eq] at h
  rw [IntKind.wrap_u64, BitVec.toNat_ofNat]
  omega
theorem time_inj {n m : Int} (h : inB 0 1099511627776 n = true) (h' : inB 0 1099511627776 m = true) (he : BitVec.ofNat 64 n.toNat = BitVec.ofNat 64 m.toNat) : n = m := by
  simp only [inB, decide_eq_true_eq] at h h'
  have := congrArg BitVec.toNat he
  rw [BitVec.toNat_ofNat, BitVec.toNat_ofNat] at this
  omega
theorem sealI_eq {a m : Int} (s key : BitVec 64) (h1 : inB 0 1099511627776 a = true) (h2 : inB 0 1099511627776 m = true) : sealI a m s.toNat key.toNat = ((sealM (BitVec.ofNat 64 a.toNat) (BitVec.ofNat 64 m.toNat) s key).toNat : Int) := by
  unfold sealI sealM
  rw [wrap_time h1, wrap_time h2, mixI_eq, mixI_eq, mixI_eq]
theorem toNat_inj64 {a b : BitVec 64} (h : (a.toNat : Int) = (b.toNat : Int)) : a = b := BitVec.eq_of_toNat_eq (by omega)
end Go.Proofs.Ytalmeokljamhdaa
