/- Ridge: what thinning does; plain mathematics. No condition. -/
import Derived.Test.YtjelnbfnoliocaaPd
import Derived.Test.YtjelnbfnoliocaaPq
namespace Go.Proofs.Ytjelnbfnoliocaa
open Go.RowKit

/-- How many of the first neighbours are ridge. -/
def cntN (r : Nat → Bool) : Nat → Nat
  | 0 => 0
  | j + 1 => cntN r j + (if r j then 1 else 0)
theorem cntN_le (r : Nat → Bool) (j : Nat) : cntN r j ≤ j := by
  induction j with
  | zero => exact Nat.le_refl _
  | succ j ih => rw [cntN]; split <;> omega
/-- The neighbours of the pixel with a number. -/
def nbI (W H : Int) (l : List Bool) (i d : Nat) : Bool := nbF W H l (plc W i).1 (plc W i).2 d
/-- Whether thinning takes a ridge pixel, apart from its pass. -/
def simpleB (W H : Int) (T : List Bool) (i : Nat) : Bool := (turnsN (nbI W H T i) 4 == 1) && (cntN (nbI W H T i) 8 != 1)
def wantB (W H : Int) (l : List Bool) (d i : Nat) : Bool := l.getD i false && !nbI W H l i d
def takeIf (b : Bool) (T : List Bool) (i : Nat) : List Bool := if b then T.set i false else T
theorem takeIf_len (b : Bool) (T : List Bool) (i : Nat) : (takeIf b T i).length = T.length := by unfold takeIf; split <;> simp
/-- A pass, as far as the pixels below k. -/
def passN (W H : Int) (l : List Bool) (d : Nat) : Nat → List Bool
  | 0 => l
  | k + 1 => takeIf (wantB W H l d k && simpleB W H (passN W H l d k) k) (passN W H l d k) k
theorem passN_len (W H : Int) (l : List Bool) (d k : Nat) : (passN W H l d k).length = l.length := by
  induction k with
  | zero => rfl
  | succ k ih => rw [passN, takeIf_len, ih]
def passF (W H : Int) (l : List Bool) (d : Nat) : List Bool := passN W H l d l.length
theorem passF_len (W H : Int) (l : List Bool) (d : Nat) : (passF W H l d).length = l.length := passN_len _ _ _ _ _
def pass4 (W H : Int) (l : List Bool) : List Bool := passF W H (passF W H (passF W H (passF W H l 6) 2) 0) 4
theorem pass4_len (W H : Int) (l : List Bool) : (pass4 W H l).length = l.length := by simp only [pass4, passF_len]
theorem getD_keep (T : List Bool) (i j : Nat) (h : j ≠ i) : (T.set i false).getD j false = T.getD j false := by
  simp only [List.getD_eq_getElem?_getD]
  rw [List.getElem?_set_ne (Ne.symm h)]
theorem passN_at {W H : Int} {l : List Bool} {d j : Nat} : ∀ {k : Nat}, k ≤ j → (passN W H l d k).getD j false = l.getD j false
  | 0, _ => rfl
  | k + 1, h => by
    rw [passN, takeIf]
    split
    · rw [getD_keep _ _ _ (by omega)]; exact passN_at (by omega)
    · exact passN_at (by omega)
/-- How many pixels are ridge. -/
def trueN (l : List Bool) : Nat := l.countP id
theorem trueN_set : ∀ (l : List Bool) (k : Nat), l.getD k false = true → trueN (l.set k false) + 1 = trueN l
  | [], k, h => by simp at h
  | b :: l, 0, h => by
    have : b = true := by simpa using h
    subst this
    simp [trueN]
  | b :: l, k + 1, h => by
    have ih := trueN_set l k (by simpa using h)
    simp only [trueN, List.set_cons_succ, List.countP_cons] at ih ⊢
    omega
theorem passN_true (W H : Int) (l : List Bool) (d : Nat) : ∀ k, trueN (passN W H l d k) ≤ trueN l ∧ (trueN (passN W H l d k) = trueN l → passN W H l d k = l)
  | 0 => ⟨Nat.le_refl _, fun _ => rfl⟩
  | k + 1 => by
    obtain ⟨h1, h2⟩ := passN_true W H l d k
    rw [passN, takeIf]
    by_cases hb : (wantB W H l d k && simpleB W H (passN W H l d k) k) = true
    · rw [if_pos hb]
      have hw : l.getD k false = true := by
        simp only [wantB, Bool.and_eq_true] at hb
        exact hb.1.1
      have := trueN_set (passN W H l d k) k (by rw [passN_at (Nat.le_refl _)]; exact hw)
      exact ⟨by omega, fun h => by omega⟩
    · rw [if_neg hb]
      exact ⟨h1, h2⟩
theorem passF_true (W H : Int) (l : List Bool) (d : Nat) : trueN (passF W H l d) ≤ trueN l ∧ (trueN (passF W H l d) = trueN l → passF W H l d = l) := passN_true W H l d _
theorem pass4_true (W H : Int) (l : List Bool) : trueN (pass4 W H l) ≤ trueN l ∧ (trueN (pass4 W H l) = trueN l → pass4 W H l = l) := by
  have h1 := passF_true W H l 6
  have h2 := passF_true W H (passF W H l 6) 2
  have h3 := passF_true W H (passF W H (passF W H l 6) 2) 0
  have h4 := passF_true W H (passF W H (passF W H (passF W H l 6) 2) 0) 4
  unfold pass4
  refine ⟨by omega, fun h => ?_⟩
  rw [h4.2 (by omega), h3.2 (by omega), h2.2 (by omega), h1.2 (by omega)]
def thinN (W H : Int) : Nat → List Bool → List Bool
  | 0, l => l
  | k + 1, l => if pass4 W H l = l then l else thinN W H k (pass4 W H l)
theorem thinN_more (W H : Int) : ∀ (k : Nat) (l : List Bool), trueN l ≤ k → ∀ m, thinN W H (k + m) l = thinN W H k l
  | 0, l, h, m => by
    have h1 := pass4_true W H l
    have h2 : pass4 W H l = l := h1.2 (by omega)
    cases m with
    | zero => rfl
    | succ m => rw [Nat.zero_add]; show (if pass4 W H l = l then l else _) = l; rw [if_pos h2]
  | k + 1, l, h, m => by
    rw [show k + 1 + m = (k + m) + 1 by omega, thinN, thinN]
    by_cases hp : pass4 W H l = l
    · rw [if_pos hp, if_pos hp]
    · rw [if_neg hp, if_neg hp]
      have h1 := pass4_true W H l
      exact thinN_more W H k _ (by
        rcases Nat.lt_or_ge (trueN (pass4 W H l)) (trueN l) with h2 | h2
        · omega
        · exact absurd (h1.2 (by omega)) hp) m
/-- The thinned picture. -/
def thinF (W H : Int) (l : List Bool) : List Bool := thinN W H (trueN l) l
theorem thinF_stop {W H : Int} {l : List Bool} (h : pass4 W H l = l) : thinF W H l = l := by
  unfold thinF
  cases trueN l with
  | zero => rfl
  | succ k => rw [thinN, if_pos h]
theorem thinF_step {W H : Int} {l : List Bool} : thinF W H (pass4 W H l) = thinF W H l := by
  by_cases h : pass4 W H l = l
  · rw [h]
  · have h1 := pass4_true W H l
    have h2 : trueN (pass4 W H l) < trueN l := by
      rcases Nat.lt_or_ge (trueN (pass4 W H l)) (trueN l) with h2 | h2
      · exact h2
      · exact absurd (h1.2 (by omega)) h
    unfold thinF
    obtain ⟨k, hk⟩ : ∃ k, trueN l = k + 1 := ⟨trueN l - 1, by omega⟩
    rw [hk, thinN, if_neg h]
    have h3 := thinN_more W H (trueN (pass4 W H l)) (pass4 W H l) (Nat.le_refl _) (k - trueN (pass4 W H l))
    rw [show trueN (pass4 W H l) + (k - trueN (pass4 W H l)) = k by omega] at h3
    exact h3.symm
theorem thinN_len (W H : Int) : ∀ (k : Nat) (l : List Bool), (thinN W H k l).length = l.length
  | 0, _ => rfl
  | k + 1, l => by
    rw [thinN]
    split
    · rfl
    · rw [thinN_len W H k, pass4_len]
theorem thinF_len (W H : Int) (l : List Bool) : (thinF W H l).length = l.length := thinN_len _ _ _ _
end Go.Proofs.Ytjelnbfnoliocaa
