/- Ridge: the fill of the program, where it goes on. No condition. -/
import Derived.Test.YtjelnbfnoliocaaPg
namespace Go.Proofs.Ytjelnbfnoliocaa
open Go.RowKit

def cx (P : Pic) (i : Nat) : Int := ((i % (P.W + 2).toNat : Nat) : Int)
def cy (P : Pic) (i : Nat) : Int := ((i / (P.W + 2).toNat : Nat) : Int)
/-- The places of the padded picture that have the colour. -/
def KP (P : Pic) (i : Nat) : Prop := (i : Int) < (P.W + 2) * (P.H + 2) ∧ isF P.W P.H P.l (cx P i - 1) (cy P i - 1) = P.black
def allowF (P : Pic) (d : Nat) : Bool := !P.diag || decide (d % 2 = 0)
/-- The neighbours of a place, as far as they have been asked. -/
def DP (P : Pic) (k i j : Nat) : Prop := ∃ d, d < k ∧ allowF P d = true ∧ cx P j = cx P i + dx d ∧ cy P j = cy P i + dy d
def AP (P : Pic) (i j : Nat) : Prop := DP P 8 i j
def mkd (l : List Bool) (v : Nat) : Prop := l.getD v false = true
def inP (P : Pic) (x y : Int) : Prop := (0 ≤ x ∧ x ≤ P.W + 1) ∧ 0 ≤ y ∧ y ≤ P.H + 1
def idx (P : Pic) (x y : Int) : Nat := (y * (P.W + 2) + x).toNat
def FillXY (P : Pic) (S T : List Bool) (x y : Int) : Prop := (inP P x y → Fill (KP P) (AP P) (mkd S) (mkd T) (idx P x y)) ∧ (¬ inP P x y → T = S)
theorem idx_cx {P : Pic} {x y : Int} (h : inP P x y) : cx P (idx P x y) = x ∧ cy P (idx P x y) = y := by
  obtain ⟨⟨a, b⟩, c, d⟩ := h
  obtain ⟨x, rfl⟩ := Int.eq_ofNat_of_zero_le a
  obtain ⟨y, rfl⟩ := Int.eq_ofNat_of_zero_le c
  obtain ⟨m, hm⟩ : ∃ m : Nat, P.W + 2 = m := ⟨(P.W + 2).toNat, by omega⟩
  have e : ((y : Int) * (P.W + 2) + x).toNat = x + y * m := by rw [hm, ← Int.natCast_mul, ← Int.natCast_add, Int.toNat_natCast, Nat.add_comm]
  have hx : x < m := by omega
  unfold cx cy idx
  rw [e, hm, Int.toNat_natCast, Nat.add_mul_mod_self_right, Nat.add_mul_div_right _ _ (by omega), Nat.mod_eq_of_lt hx, Nat.div_eq_of_lt hx, Nat.zero_add]
  exact ⟨rfl, rfl⟩
theorem idx_of {P : Pic} (hW : 1 ≤ P.W) {u : Nat} (hu : (u : Int) < (P.W + 2) * (P.H + 2)) : inP P (cx P u) (cy P u) ∧ idx P (cx P u) (cy P u) = u := by
  obtain ⟨m, hm⟩ : ∃ m : Nat, P.W + 2 = m := ⟨(P.W + 2).toNat, by omega⟩
  have hm0 : 0 < m := by omega
  have hdm := Nat.mod_add_div u m
  have hml := Nat.mod_lt u hm0
  unfold inP idx cx cy
  rw [hm, Int.toNat_natCast]
  have e : (((u / m : Nat) : Int) * (m : Int) + ((u % m : Nat) : Int)).toNat = u := by
    rw [← Int.natCast_mul, ← Int.natCast_add, Int.toNat_natCast, Nat.mul_comm, Nat.add_comm]; exact hdm
  have hd : ((u / m : Nat) : Int) < P.H + 2 := by
    rw [hm] at hu
    rcases Int.lt_or_le ((u / m : Nat) : Int) (P.H + 2) with h | h
    · exact h
    · have h2 : (m : Int) * (P.H + 2) ≤ (m : Int) * ((u / m : Nat) : Int) := Int.mul_le_mul_of_nonneg_left h (by omega)
      rw [← Int.natCast_mul] at h2
      have : m * (u / m) ≤ u := by omega
      omega
  generalize u % m = r at *
  generalize u / m = q at *
  exact ⟨by omega, e⟩
theorem half_step {P : Pic} (hW : 1 ≤ P.W) {S T T' : List Bool} {p k : Nat} (hk : k < 8) (ha : allowF P k = true) (hp : KP P p) (h : Half (KP P) (AP P) (mkd S) (mkd T) (DP P k p) p)
    (hf : FillXY P T T' (cx P p + dx k) (cy P p + dy k)) : Half (KP P) (AP P) (mkd S) (mkd T') (DP P (k + 1) p) p := by
  by_cases hi : inP P (cx P p + dx k) (cy P p + dy k)
  · obtain ⟨e1, e2⟩ := idx_cx hi
    have h2 := h.step hp (u := idx P (cx P p + dx k) (cy P p + dy k)) ⟨k, hk, ha, e1, e2⟩ (hf.1 hi)
    refine ⟨h2.sub, h2.at_, h2.new, h2.shut, fun v ⟨d, hd, had, f1, f2⟩ hkv => h2.done v ?_ hkv⟩
    by_cases e : d = k
    · subst e
      have hv := (idx_of hW hkv.1).2
      exact .inr (by rw [← hv, f1, f2])
    · exact .inl ⟨d, by omega, had, f1, f2⟩
  · rw [hf.2 hi]
    refine ⟨h.sub, h.at_, h.new, h.shut, fun v ⟨d, hd, had, f1, f2⟩ hkv => ?_⟩
    by_cases e : d = k
    · subst e
      have hv := (idx_of hW hkv.1).1
      rw [f1, f2] at hv
      exact absurd hv hi
    · exact h.done v ⟨d, by omega, had, f1, f2⟩ hkv
theorem half_pass {P : Pic} {S T : List Bool} {p k : Nat} (ha : allowF P k = false) (h : Half (KP P) (AP P) (mkd S) (mkd T) (DP P k p) p) : Half (KP P) (AP P) (mkd S) (mkd T) (DP P (k + 1) p) p := by
  refine ⟨h.sub, h.at_, h.new, h.shut, fun v ⟨d, hd, had, f1, f2⟩ hkv => ?_⟩
  by_cases e : d = k
  · subst e; rw [ha] at had; exact absurd had (by decide)
  · exact h.done v ⟨d, by omega, had, f1, f2⟩ hkv
end Go.Proofs.Ytjelnbfnoliocaa
