/- Nobody is passed over too often, or waits too long: the invariant of a line, plain mathematics. -/
import Derived.Test.YtalmeokljamhdaaOa
namespace Go.Proofs.Ytalmeokljamhdaa
open Go.RowKit

/-- What holds of a line, of the waits, and of the last numbers that were called. -/
structure Fair (lim next : Int) (L : List Gst) (f : Int → Wt) (lf ls : Int) : Prop where
  chk : chkQ lim next L = true
  wt : ∀ (i : Nat) (g : Gst), L[i]? = some g → (f g.id).passed = g.skips ∧ (f g.id).calls = (f g.id).before - i + g.skips ∧ 0 ≤ (f g.id).before ∧ (f g.id).before ≤ 20
  fast : ∀ g ∈ L, g.fast = true → lf < g.id
  slow : ∀ g ∈ L, g.fast = false → ls < g.id
  lfn : -1 ≤ lf ∧ lf < next
  lsn : -1 ≤ ls ∧ ls < next
theorem Fair.q {lim next : Int} {L : List Gst} {f : Int → Wt} {lf ls : Int} (h : Fair lim next L f lf ls) : (0 ≤ lim ∧ lim ≤ 8) ∧ (0 ≤ next ∧ next ≤ 1099511627776) ∧ L.length ≤ 20 ∧ qGo next (-1) lim L = true := by
  have := h.chk
  simp only [chkQ, Bool.and_eq_true, inB, decide_eq_true_eq] at this
  exact ⟨this.1.1.1, this.1.1.2, this.1.2, this.2⟩
theorem Fair.start {lim : Int} (h : 0 ≤ lim ∧ lim ≤ 8) : Fair lim 0 [] (fun _ => ⟨0, 0, 0⟩) (-1) (-1) :=
  ⟨by simp [chkQ, inB, qGo, h], fun i g hg => by simp at hg, fun g hg => by simp at hg, fun g hg => by simp at hg, by omega, by omega⟩
theorem qGo_snoc {next : Int} : ∀ {l : List Gst} {id sk : Int} {g : Gst}, qGo next id sk l = true → 0 ≤ sk → id < g.id → (∀ x ∈ l, x.id < g.id) → g.id = next → g.skips = 0 → qGo (next + 1) id sk (l ++ [g]) = true
  | [], id, sk, g, _, hs, h1, _, h3, h4 => by
    refine qGo_cons.2 ⟨h1, by omega, by omega, ?_, rfl⟩
    rw [h4]
    split <;> omega
  | x :: l, id, sk, g, h, hs, h1, h2, h3, h4 => by
    obtain ⟨a, b, c, d, e⟩ := qGo_cons.1 h
    refine qGo_cons.2 ⟨a, by omega, c, d, qGo_snoc e ?_ (h2 x (by simp)) (fun y hy => h2 y (by simp [hy])) h3 h4⟩
    split
    · exact hs
    · exact c
theorem Fair.join {lim next : Int} {L : List Gst} {f : Int → Wt} {lf ls : Int} (h : Fair lim next L f lf ls) (fast : Bool) (h1 : L.length ≠ 20) (h2 : next ≠ 1099511627776) :
    Fair lim (next + 1) (L ++ [⟨next, fast, 0⟩]) (upd f next ⟨L.length, 0, 0⟩) lf ls := by
  obtain ⟨q1, q2, q3, q4⟩ := h.q
  have hid : ∀ x ∈ L, x.id < next := fun x hx => (qGo_all q4 x hx).2
  refine ⟨?_, ?_, ?_, ?_, ⟨h.lfn.1, by have := h.lfn; omega⟩, ⟨h.lsn.1, by have := h.lsn; omega⟩⟩
  · simp only [chkQ, Bool.and_eq_true, inB, decide_eq_true_eq]
    refine ⟨⟨⟨q1, by omega⟩, by simp; omega⟩, qGo_snoc q4 q1.1 (by simp only; omega) (fun x hx => hid x hx) rfl rfl⟩
  · intro i g hg
    by_cases hi : i < L.length
    · rw [List.getElem?_append_left hi] at hg
      have hne : g.id ≠ next := by have := hid g (List.mem_of_getElem? hg); omega
      unfold upd
      rw [if_neg hne]
      exact h.wt i g hg
    · rw [List.getElem?_append_right (by omega)] at hg
      have hl : i - L.length < 1 := by have := (List.getElem?_eq_some_iff.1 hg).1; simpa using this
      have hi0 : i = L.length := by omega
      subst hi0
      simp at hg
      subst hg
      simp only [upd, if_true]
      refine ⟨trivial, by omega, by omega, by omega⟩
  · intro g hg hf
    rcases List.mem_append.1 hg with hg | hg
    · exact h.fast g hg hf
    · simp at hg; subst hg; exact h.lfn.2
  · intro g hg hf
    rcases List.mem_append.1 hg with hg | hg
    · exact h.slow g hg hf
    · simp at hg; subst hg; exact h.lsn.2
/-- What a call makes of a guest's waits. -/
def newW (f : Int → Wt) (p i : Nat) (g : Gst) : Wt := ⟨(f g.id).before, (f g.id).calls + 1, (f g.id).passed + if i < p then 1 else 0⟩
theorem Fair.ok {lim next : Int} {L : List Gst} {f : Int → Wt} {lf ls : Int} (h : Fair lim next L f lf ls) {p i : Nat} {g : Gst} (ht : Takes lim L p) (hg : L[i]? = some g) :
    (newW f p i g).calls ≤ (newW f p i g).before + lim + 1 ∧ (newW f p i g).passed ≤ lim := by
  obtain ⟨q1, q2, q3, q4⟩ := h.q
  obtain ⟨w1, w2, w3, w4⟩ := h.wt i g hg
  have hs := qGo_sk q4 (Int.le_refl _) q1.1 g (List.mem_of_getElem? hg)
  refine ⟨?_, ?_⟩
  · simp only [newW]; omega
  · simp only [newW]
    split
    · rename_i hip
      rcases ht with ⟨x, _, _, h3⟩ | ⟨rfl, _⟩
      · have := (h3 i g hip hg).2; omega
      · omega
    · omega
theorem Fair.call {lim next : Int} {L : List Gst} {f f' : Int → Wt} {lf ls : Int} (h : Fair lim next L f lf ls) {p : Nat} {g : Gst} (ht : Takes lim L p) (hg : L[p]? = some g)
    (hf' : ∀ (i : Nat) (x : Gst), L[i]? = some x → f' x.id = newW f p i x) : Fair lim next (remL L p) f' (if g.fast then g.id else lf) (if g.fast then ls else g.id) := by
  obtain ⟨q1, q2, q3, q4⟩ := h.q
  have hp : p < L.length := (List.getElem?_eq_some_iff.1 hg).1
  have hgm := List.mem_of_getElem? hg
  have hgn := qGo_all q4 g hgm
  have hmem : ∀ x ∈ remL L p, ∃ (i : Nat) (y : Gst), L[i]? = some y ∧ x.id = y.id ∧ x.fast = y.fast ∧ i ≠ p := by
    intro x hx
    unfold remL at hx
    rcases List.mem_append.1 hx with hx | hx
    · obtain ⟨y, hy, rfl⟩ := List.mem_map.1 hx
      obtain ⟨i, hi⟩ := List.getElem?_of_mem hy
      rw [List.getElem?_take] at hi
      split at hi
      · exact ⟨i, y, hi, rfl, rfl, by omega⟩
      · cases hi
    · obtain ⟨i, hi⟩ := List.getElem?_of_mem hx
      rw [List.getElem?_drop] at hi
      exact ⟨p + 1 + i, x, hi, rfl, rfl, by omega⟩
  have hgt : (g.fast = true → ∀ (i : Nat) (y : Gst), L[i]? = some y → y.fast = true → i ≠ p → g.id < y.id) ∧ (g.fast = false → ∀ (i : Nat) (y : Gst), L[i]? = some y → i ≠ p → g.id < y.id) := by
    rcases ht with ⟨x, h1, h2, h3⟩ | ⟨rfl, h3⟩
    · rw [hg] at h1
      injection h1 with h1
      subst h1
      refine ⟨fun _ i y hy hyf hip => ?_, fun hc => by rw [h2] at hc; cases hc⟩
      rcases Nat.lt_or_gt_of_ne hip with hlt | hlt
      · have := (h3 i y hlt hy).1; rw [hyf] at this; cases this
      · exact qGo_lt q4 p i g y hlt hg hy
    · refine ⟨fun _ i y hy _ hip => qGo_lt q4 0 i g y (by omega) hg hy, fun _ i y hy hip => qGo_lt q4 0 i g y (by omega) hg hy⟩
  refine ⟨chkQ_rem h.chk hp ht, ?_, ?_, ?_, ?_, ?_⟩
  · intro i x hx
    by_cases hi : i < p
    · have hil : i < L.length := by omega
      have hy : L[i]? = some L[i] := List.getElem?_eq_getElem hil
      have hr := remL_lt hi hy
      rw [hx] at hr
      injection hr with hr
      obtain ⟨w1, w2, w3, w4⟩ := h.wt i _ hy
      have hn := hf' i _ hy
      rw [hr]
      simp only [inc]
      rw [hn]
      simp only [newW, if_pos hi]
      refine ⟨by omega, by omega, w3, w4⟩
    · rw [remL_gt hp (by omega)] at hx
      obtain ⟨w1, w2, w3, w4⟩ := h.wt (i + 1) x hx
      rw [hf' (i + 1) x hx]
      simp only [newW, if_neg (show ¬ i + 1 < p by omega)]
      refine ⟨by omega, by omega, w3, w4⟩
  · intro x hx hxf
    obtain ⟨i, y, hy, e1, e2, hip⟩ := hmem x hx
    cases hgf : g.fast
    · simp only [Bool.false_eq_true, if_false]
      rw [e1]
      exact h.fast y (List.mem_of_getElem? hy) (by rw [← e2]; exact hxf)
    · simp only [if_true]
      rw [e1]
      exact hgt.1 hgf i y hy (by rw [← e2]; exact hxf) hip
  · intro x hx hxf
    obtain ⟨i, y, hy, e1, e2, hip⟩ := hmem x hx
    cases hgf : g.fast
    · simp only [Bool.false_eq_true, if_false]
      rw [e1]
      exact hgt.2 hgf i y hy hip
    · simp only [if_true]
      rw [e1]
      exact h.slow y (List.mem_of_getElem? hy) (by rw [← e2]; exact hxf)
  · have := h.lfn; split <;> omega
  · have := h.lsn; split <;> omega
end Go.Proofs.Ytalmeokljamhdaa
