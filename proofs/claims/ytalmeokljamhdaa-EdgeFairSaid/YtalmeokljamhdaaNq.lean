/- EdgeFirst: when the first of the line is called: plain mathematics, and rows of guests that are rewritten. -/
import Derived.Test.YtalmeokljamhdaaNb
namespace Go.Proofs.Ytalmeokljamhdaa
open Go.RowKit

/-- The first k of a list, changed; the rest as it was. -/
def halfM (f : Gst → Gst) (t : List Gst) (k : Nat) : List Gst := (t.take k).map f ++ t.drop k
theorem halfM_get {f : Gst → Gst} {t : List Gst} {k : Nat} {g : Gst} (h : t[k]? = some g) : (halfM f t k)[k]? = some g := by
  have hk := (List.getElem?_eq_some_iff.1 h).1
  unfold halfM
  rw [List.getElem?_append_right (by simp; omega)]
  simp
  rw [show k - min k t.length = 0 from by omega]
  simpa using h
theorem halfM_set {f : Gst → Gst} {t : List Gst} {k : Nat} {g : Gst} (h : t[k]? = some g) : (halfM f t k).set k (f g) = halfM f t (k + 1) := by
  obtain ⟨hk, hg⟩ := List.getElem?_eq_some_iff.1 h
  unfold halfM
  rw [List.set_append_right _ _ (by simp; omega)]
  rw [List.take_succ_eq_append_getElem hk, List.map_append, List.drop_eq_getElem_cons hk, hg]
  simp
  rw [show k - min k t.length = 0 from by omega]
  rfl
theorem halfM_all {f : Gst → Gst} {t : List Gst} {k : Nat} (h : t.length ≤ k) : halfM f t k = t.map f := by
  unfold halfM
  rw [List.take_of_length_le h, List.drop_eq_nil_of_le h, List.append_nil]
theorem halfM_len (f : Gst → Gst) (t : List Gst) (k : Nat) : (halfM f t k).length = t.length := by
  unfold halfM
  simp
  omega
theorem flat_set1 : ∀ (L : List Gst) (k : Nat) (g : Gst) (x : Bool), L[k]? = some g → (flat genc L).set (k * 3 + 1) (.bool x) = flat genc (L.set k ⟨g.id, x, g.skips⟩) := by
  intro L
  induction L with
  | nil => intro k g x h; simp at h
  | cons y L ih =>
    intro k g x h
    cases k with
    | zero =>
      simp at h
      subst h
      rfl
    | succ k =>
      simp at h
      rw [List.set_cons_succ, flat_cons, flat_cons, ← ih k g x h]
      rw [show (k + 1) * 3 + 1 = (k * 3 + 1) + 3 from by omega]
      rfl
theorem nextGo_none (lim : Int) : ∀ (l : List Gst) (j : Nat), (∀ g ∈ l, g.fast = false) → nextGo lim j l = 0
  | [], _, _ => rfl
  | g :: l, j, h => by
    have hg := h g (by simp)
    by_cases hs : g.skips = lim
    · exact nextGo_lim rfl hg hs
    · rw [nextGo_on rfl hg hs]; exact nextGo_none lim l (j + 1) (fun d hd => h d (by simp [hd]))
theorem nextGo_head_fast (lim : Int) (l : List Gst) (h : ∀ g ∈ l, g.fast = true) : nextGo lim 0 l = 0 := by
  cases l with
  | nil => rfl
  | cons g l => exact nextGo_fast rfl (h g (by simp))
theorem nextGo_head_lim (lim : Int) (l : List Gst) (h : ∀ g ∈ l, g.skips = lim) : nextGo lim 0 l = 0 := by
  cases l with
  | nil => rfl
  | cons g l =>
    cases hf : g.fast
    · exact nextGo_lim rfl hf (h g (by simp))
    · exact nextGo_fast rfl hf
def setA (all : Bool) (g : Gst) : Gst := ⟨g.id, all, if all then 0 else g.skips⟩
def setN (g : Gst) : Gst := ⟨g.id, g.fast, 0⟩
/-- If the first is next, it is called, or nobody is. -/
theorem callF_first {lim next : Int} {l : List Gst} (h : nextGo lim 0 l = 0) : (∃ K, (callF lim next l).2.2.2.2 = K ∧ (K == 0) = false) ∨ ∃ g r, l = g :: r ∧ (callF lim next l).2.2.2.1 = g.id ∧ (callF lim next l).2.2.2.2 = 0 := by
  unfold callF
  by_cases h1 : chkQ lim next l = false
  · rw [if_pos h1]; exact .inl ⟨_, rfl, rfl⟩
  · rw [if_neg h1]
    by_cases h2 : l.length = 0
    · rw [if_pos h2]; exact .inl ⟨_, rfl, rfl⟩
    · rw [if_neg h2, h]
      cases l with
      | nil => simp at h2
      | cons g r => exact .inr ⟨g, r, rfl, rfl, rfl⟩
theorem nextGo_setA (lim : Int) (all : Bool) (l : List Gst) : nextGo lim 0 (l.map (setA all)) = 0 := by
  cases all
  · exact nextGo_none lim _ 0 (fun g hg => by obtain ⟨x, _, rfl⟩ := List.mem_map.1 hg; rfl)
  · exact nextGo_head_fast lim _ (fun g hg => by obtain ⟨x, _, rfl⟩ := List.mem_map.1 hg; rfl)
theorem nextGo_setN (l : List Gst) : nextGo 0 0 (l.map setN) = 0 :=
  nextGo_head_lim 0 _ (fun g hg => by obtain ⟨x, _, rfl⟩ := List.mem_map.1 hg; rfl)
end Go.Proofs.Ytalmeokljamhdaa
