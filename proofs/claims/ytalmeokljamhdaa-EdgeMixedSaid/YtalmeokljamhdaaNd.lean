/- EdgeMixed: mixing keeps numbers apart. -/
import Derived.Test.YtalmeokljamhdaaNb
import Derived.Test.YtalmeokljamhdaaNc
namespace Go.Proofs.Ytalmeokljamhdaa
open Go.RowKit

set_option maxHeartbeats 1000000 in
theorem edgeMixed_walk (a b c : BitVec 64) (w : World) : Calls Try.prog 9 #[.int .u64 a.toNat, .int .u64 b.toNat, .int .u64 c.toNat] w fun e w' => e = .returned (.bool true) ∧ Below w.heap.size w w' := by
  have hc : (mixI b.toNat a.toNat) = mixI a.toNat b.toNat := by rw [mixI_eq, mixI_eq, mixB_comm]
  have HC := Lib.hid hc
  clear hc
  by_cases h : b = c
  · subst h
    go_enter Try.func9, Try.ntmps9
    go_wp2_with fail
    refine (alive_any _).mono ?_
    rintro e w1 ⟨rfl, hb⟩
    have hcc : (mixI a.toNat b.toNat == mixI b.toNat a.toNat) = true := by rw [HC.out]; simp
    go_wp2_with (go_at_call 33; refine (mix_any _ _ _).mono ?_; rintro e w' ⟨rfl, rfl⟩)
    go_ret
    exact ⟨rfl, hb⟩
  · have h1 : ((b.toNat : Int) == (c.toNat : Int)) = false := by
      rw [beq_eq_false_iff_ne]
      intro he
      exact h (toNat_inj64 he)
    have h2 : (mixI a.toNat b.toNat == mixI a.toNat c.toNat) = false := by
      rw [beq_eq_false_iff_ne, mixI_eq, mixI_eq]
      intro he
      exact h (mixB_inj (toNat_inj64 he))
    have h3 : (b.toNat == c.toNat) = false := by simp at h1 ⊢; omega
    go_enter Try.func9, Try.ntmps9
    go_wp2_with fail
    refine (alive_any _).mono ?_
    rintro e w1 ⟨rfl, hb⟩
    have hcc : (mixI a.toNat b.toNat == mixI b.toNat a.toNat) = true := by rw [HC.out]; simp
    go_wp2_with (go_at_call 33; refine (mix_any _ _ _).mono ?_; rintro e w' ⟨rfl, rfl⟩)
    go_ret
    exact ⟨rfl, hb⟩
end Go.Proofs.Ytalmeokljamhdaa
