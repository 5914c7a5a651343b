/- Rates: lists of trials as arguments: element by element. No condition. -/
import Derived.Test.YtnalbchggjepdaaGa
import Derived.Test.YtnalbchggjepdaaOpen
namespace Go.Proofs.Ytnalbchggjepdaa
open Go.ChangeShapes Go.WideShapes Go.ChangeAt Go.RowKit Go.Deep Go.Joins

theorem open_trials {H : Type} {enc : TypeId × Value → H} {w : World} {base : Nat} {spare : Nat → Bool} {held : Bool} {v : Value} {d : DataW H} {p : List MemPlace}
    (hv : ∃ a n c, v = .slice a n c) (h : DataW.Trod enc Try.prog w base spare held 49 v d p) : ∃ (A : Option Addr) (l : List Dbl) (n c : Nat), v = .slice A n c ∧ n = l.length ∧ Rd w A (flat encD l) ∧ n ≤ c := by
  obtain ⟨fuel, hf⟩ := h
  obtain ⟨a0, n0, c0, rfl⟩ := hv
  rcases open_rows Try.underlying49 Try.underlying64 (by kernel_rfl) (by kernel_rfl) hf with h0 | ⟨a, len, cap, h0, hl, _, hi⟩
  · exact ⟨none, [], 0, 0, h0, rfl, .inl rfl, Nat.le_refl _⟩
  · obtain ⟨l, hll, hr, _⟩ := rd_of_cells (Q := fun _ => True) encD 3 encD_len (by omega) (w := w) (a := a) (n := len) (fun i hil => by
      obtain ⟨n, hf⟩ := hi i hil
      obtain ⟨v0, y0, hc0, ht0⟩ := hf 0 _ rfl
      obtain ⟨v1, y1, hc1, ht1⟩ := hf 1 _ rfl
      obtain ⟨v2, y2, hc2, ht2⟩ := hf 2 _ rfl
      obtain ⟨g0, rfl, _⟩ := trod_int_val Try.underlying3 ht0
      obtain ⟨g1, rfl, _⟩ := trod_int_val Try.underlying3 ht1
      obtain ⟨g2, rfl⟩ := trod_bool_val Try.underlying4 ht2
      refine ⟨⟨g0, g1, g2⟩, trivial, ?_⟩
      rintro (_ | _ | _ | j) u hu
      · simp [encD] at hu; subst hu; exact hc0
      · simp [encD] at hu; subst hu; exact hc1
      · simp [encD] at hu; subst hu; exact hc2
      · simp [encD] at hu)
    exact ⟨some a, l, len, cap, h0, hll.symm, hr, hl⟩
end Go.Proofs.Ytnalbchggjepdaa
