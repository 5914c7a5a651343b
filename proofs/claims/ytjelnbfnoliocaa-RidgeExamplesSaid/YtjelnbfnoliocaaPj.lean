/- Ridge: the fill of the program. No condition. -/
import Derived.Test.YtjelnbfnoliocaaPi
namespace Go.Proofs.Ytjelnbfnoliocaa
open Go.RowKit

theorem not_inP {P : Pic} {x y : Int} (h : inB 0 (P.W + 1) x = false ∨ inB 0 (P.H + 1) y = false) : ¬ inP P x y := by
  rintro ⟨a, b⟩
  rcases h with h | h
  · have : inB 0 (P.W + 1) x = true := by simpa [inB] using a
    rw [this] at h; exact absurd h (by decide)
  · have : inB 0 (P.H + 1) y = true := by simpa [inB] using b
    rw [this] at h; exact absurd h (by decide)
theorem fill_any (P : Pic) (b : Blk) : ∀ (fuel : Nat) (T : List Bool) (x y : Int) (w : World), openN T ≤ fuel → Env P b T w → (-1 ≤ x ∧ x ≤ 22) → (-1 ≤ y ∧ y ≤ 22) →
    Calls Try.prog 79 (#[.int .i64 x, .int .i64 y] ++ b.ptrs) w fun e w' => ∃ T', e = .returned (.bool (goesF P T x y)) ∧ T'.length = T.length ∧ openN T' ≤ openN T ∧ Env P b T' w' ∧ BelX w.heap.size b.m w w' ∧ FillXY P T T' x y := by
  intro fuel
  induction fuel with
  | zero =>
    intro T x y w hf he hx hy
    cases h1 : inB 0 (P.W + 1) x
    · exact (fill_x P b T x y w he h1).mono fun e w' ⟨a, hb⟩ => ⟨T, by rw [a]; simp [goesF, h1], rfl, Nat.le_refl _, he.below hb, belX_of hb _, fun hi => absurd hi (not_inP (.inl h1)), fun _ => rfl⟩
    cases h2 : inB 0 (P.H + 1) y
    · exact (fill_y P b T x y w he h1 h2).mono fun e w' ⟨a, hb⟩ => ⟨T, by rw [a]; simp [goesF, h2], rfl, Nat.le_refl _, he.below hb, belX_of hb _, fun hi => absurd hi (not_inP (.inr h2)), fun _ => rfl⟩
    cases h3 : T.getD (y * (P.W + 2) + x).toNat false
    · cases h4 : (isF P.W P.H P.l (x - 1) (y - 1) == P.black)
      · have h5 : isF P.W P.H P.l (x - 1) (y - 1) = !P.black := by cases hq : isF P.W P.H P.l (x - 1) (y - 1) <;> cases hb : P.black <;> simp_all
        exact (fill_else P b T x y w he h1 h2 h3 h5).mono fun e w' ⟨a, hb⟩ => ⟨T, by rw [a]; simp [goesF, h1, h2, h4], rfl, Nat.le_refl _, he.below hb, belX_of hb _, fun hi => Fill.none fun hk => by have := hk.2; rw [(idx_cx hi).1, (idx_cx hi).2, h5] at this; cases hq : P.black <;> simp_all, fun _ => rfl⟩
      · have h5 : isF P.W P.H P.l (x - 1) (y - 1) = P.black := by simpa using h4
        exfalso
        have hi : inP P x y := ⟨by simpa [inB] using h1, by simpa [inB] using h2⟩
        have hN := he.len
        obtain ⟨hW, hH, _⟩ := valid_bd P.ok
        obtain ⟨p1, p2, _, _⟩ := place_lt (W := P.W + 2) (H := P.H + 2) he.len ⟨hi.1.1, by have := hi.1.2; omega⟩ ⟨hi.2.1, by have := hi.2.2; omega⟩
        have hk : (y * (P.W + 2) + x).toNat < T.length := by omega
        rw [List.getD_eq_getElem?_getD, List.getElem?_eq_getElem hk] at h3
        have := openN_set T _ (by rw [List.getElem?_eq_getElem hk]; exact congrArg some h3)
        omega
    · exact (fill_seen P b T x y w he h1 h2 h3).mono fun e w' ⟨a, hb⟩ => ⟨T, by rw [a]; simp only [goesF, h1, h2, h3]; rfl, rfl, Nat.le_refl _, he.below hb, belX_of hb _, fun hi => Fill.none fun _ => h3, fun _ => rfl⟩
  | succ fuel ih =>
    intro T x y w hf he hx hy
    cases h1 : inB 0 (P.W + 1) x
    · exact (fill_x P b T x y w he h1).mono fun e w' ⟨a, hb⟩ => ⟨T, by rw [a]; simp [goesF, h1], rfl, Nat.le_refl _, he.below hb, belX_of hb _, fun hi => absurd hi (not_inP (.inl h1)), fun _ => rfl⟩
    cases h2 : inB 0 (P.H + 1) y
    · exact (fill_y P b T x y w he h1 h2).mono fun e w' ⟨a, hb⟩ => ⟨T, by rw [a]; simp [goesF, h2], rfl, Nat.le_refl _, he.below hb, belX_of hb _, fun hi => absurd hi (not_inP (.inr h2)), fun _ => rfl⟩
    cases h3 : T.getD (y * (P.W + 2) + x).toNat false
    · cases h4 : (isF P.W P.H P.l (x - 1) (y - 1) == P.black)
      · have h5 : isF P.W P.H P.l (x - 1) (y - 1) = !P.black := by cases hq : isF P.W P.H P.l (x - 1) (y - 1) <;> cases hb : P.black <;> simp_all
        exact (fill_else P b T x y w he h1 h2 h3 h5).mono fun e w' ⟨a, hb⟩ => ⟨T, by rw [a]; simp [goesF, h1, h2, h4], rfl, Nat.le_refl _, he.below hb, belX_of hb _, fun hi => Fill.none fun hk => by have := hk.2; rw [(idx_cx hi).1, (idx_cx hi).2, h5] at this; cases hq : P.black <;> simp_all, fun _ => rfl⟩
      · have h5 : isF P.W P.H P.l (x - 1) (y - 1) = P.black := by simpa using h4
        exact (fill_on P b fuel T x y w he (fun T X Y w1 q1 q2 q3 q4 => (ih T X Y w1 q1 q2 q3 q4).mono fun e w' ⟨T', a, r⟩ => ⟨T', _, a, r⟩) hf h1 h2 h3 h5).mono fun e w' ⟨T', a, r⟩ => ⟨T', by rw [a]; simp only [goesF, h1, h2, h3, h4]; rfl, r⟩
    · exact (fill_seen P b T x y w he h1 h2 h3).mono fun e w' ⟨a, hb⟩ => ⟨T, by rw [a]; simp only [goesF, h1, h2, h3]; rfl, rfl, Nat.le_refl _, he.below hb, belX_of hb _, fun hi => Fill.none fun _ => h3, fun _ => rfl⟩
end Go.Proofs.Ytjelnbfnoliocaa
