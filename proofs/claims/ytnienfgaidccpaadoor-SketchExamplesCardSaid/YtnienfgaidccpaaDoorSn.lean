/- General lemmas on memory, further part: a slice that a callee made, of which only what it reads as is known, as a piece; no program in sight. No condition. -/
import Derived.Test.YtnienfgaidccpaaDoorBase
namespace Go.Proofs.YtnienfgaidccpaaDoor
open Go.RowKit

/-- The block of a slice that has cells. -/
def ownOf (A : Option Addr) : List Value → Option Nat
  | [] => none
  | _ :: _ => A.map (·.block)
/-- A slice that reads as these cells. -/
def seen (A : Option Addr) (xs : List Value) : Piece where
  own := ownOf A xs
  holds := fun w => Rd w A xs
  loc := fun w w' h k => by
    cases xs with
    | nil => exact .inl rfl
    | cons x xs =>
      rcases k with k | ⟨b, off, e, hb, hc⟩
      · cases k
      · have hh := h b (by rw [e]; rfl)
        refine .inr ⟨b, off, e, ?_, fun j u hu => ?_⟩
        · have h1 : (w.heap[b]?).isSome = true := by simp [hb]
          rw [← hh] at h1
          simpa using h1
        · have := hc j u hu
          simp only [World.cell?, hh] at this ⊢
          exact this
  lt := fun w b h e => by
    cases xs with
    | nil => cases e
    | cons x xs =>
      rcases h with h | ⟨b', off, e', hb, _⟩
      · cases h
      · rw [e'] at e
        injection e with e
        subst e
        exact hb
section
variable {w0 w w' : World} {ps : List Piece}
theorem Own.addSeen (h : Own w0 w ps) {A : Option Addr} {xs : List Value} (ho : Ow w' w.heap.size A xs) (hb : Below w.heap.size w w') : Own w0 w' (seen A xs :: ps) :=
  h.call (qs := [seen A xs]) ⟨hb, ho.rd, fun b e => by
    cases xs with
    | nil => cases e
    | cons x xs =>
      rcases ho with ho | ⟨b', off, e', h1, _⟩
      · cases ho
      · rw [e'] at e
        injection e with e
        subst e
        exact h1, fun _ h => by simp at h, trivial⟩
theorem Own.rdS {A : Option Addr} {xs : List Value} (h : Own w0 w ps) (i : Nat) (hp : ps[i]? = some (seen A xs)) : Rd w A xs := h.get i hp
theorem rd_cell {w : World} {b off j : Nat} {xs : List Value} {u : Value} (h : Rd w (some ⟨b, off, none⟩) xs) (hu : xs[j]? = some u) : w.cell? ⟨b, off + j, none⟩ = some u := by
  obtain ⟨b', off', e, _, hc⟩ := h.at_ hu
  injection e with e
  injection e with e1 e2
  subst e1; subst e2
  exact hc j u hu
theorem rd_some {w : World} {A : Option Addr} {xs : List Value} (h : Rd w A xs) {j : Nat} (hj : j < xs.length) : ∃ b off, A = some ⟨b, off, none⟩ := by
  obtain ⟨b, off, e, _⟩ := h.at_ (List.getElem?_eq_getElem hj)
  exact ⟨b, off, e⟩
theorem rd_lt {w : World} {b off j : Nat} {xs : List Value} (h : Rd w (some ⟨b, off, none⟩) xs) (hj : j < xs.length) : b < w.heap.size := by
  obtain ⟨b', off', e, hb, _⟩ := h.at_ (List.getElem?_eq_getElem hj)
  injection e with e
  injection e with e1 e2
  subst e1
  exact hb
end
end Go.Proofs.YtnienfgaidccpaaDoor
