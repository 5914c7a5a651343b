/- Changes between times, split and applied: plain mathematics. -/
import Derived.Test.YtalmeokljamhdaaNj
namespace Go.Proofs.Ytalmeokljamhdaa
open Go.RowKit

theorem vGo_mono {t t' : Int} {l : List Chg} (h : vGo t' l = true) (ht : t ≤ t') : vGo t l = true := by
  cases l with
  | nil => rfl
  | cons c l =>
    simp only [vGo, Bool.and_eq_true, decide_eq_true_eq] at h ⊢
    exact ⟨⟨h.1.1, by omega⟩, h.2⟩
theorem vGo_filter (q : Chg → Bool) : ∀ (l : List Chg) (t : Int), vGo t l = true → vGo t (l.filter q) = true
  | [], _, _ => rfl
  | c :: l, t, h => by
    obtain ⟨h1, h2, h3⟩ := vGo_tail h
    have ih := vGo_filter q l c.time h3
    rw [List.filter_cons]
    split
    · simp only [vGo, Bool.and_eq_true, decide_eq_true_eq]
      exact ⟨⟨h1, h2⟩, ih⟩
    · exact vGo_mono ih h2
theorem chkC_bet {l : List Chg} (h : chkC l = true) (a z : Int) : chkC (betF l a z) = true := by
  have h1 := chkC_len h
  have h2 := betF_len l a z
  have h3 := vGo_filter (fun c => decide (a < c.time) && decide (c.time ≤ z)) l 0 (chkC_v h)
  unfold chkC
  rw [Bool.and_eq_true]
  exact ⟨by simp; omega, h3⟩
theorem betF_split {a b z : Int} (hab : a ≤ b) (hbz : b ≤ z) : ∀ (l : List Chg) (t : Int), vGo t l = true → betF l a z = betF l a b ++ betF l b z
  | [], _, _ => rfl
  | c :: l, t, h => by
    obtain ⟨h1, h2, h3⟩ := vGo_tail h
    have ih := betF_split hab hbz l c.time h3
    by_cases hc : c.time ≤ b
    · by_cases ha : a < c.time
      · have e1 : betF (c :: l) a z = c :: betF l a z := by unfold betF; rw [List.filter_cons, if_pos (by simp; omega)]
        have e2 : betF (c :: l) a b = c :: betF l a b := by unfold betF; rw [List.filter_cons, if_pos (by simp; omega)]
        have e3 : betF (c :: l) b z = betF l b z := by unfold betF; rw [List.filter_cons, if_neg (by simp; omega)]
        rw [e1, e2, e3, ih]; rfl
      · have e1 : betF (c :: l) a z = betF l a z := by unfold betF; rw [List.filter_cons, if_neg (by simp; omega)]
        have e2 : betF (c :: l) a b = betF l a b := by unfold betF; rw [List.filter_cons, if_neg (by simp; omega)]
        have e3 : betF (c :: l) b z = betF l b z := by unfold betF; rw [List.filter_cons, if_neg (by simp; omega)]
        rw [e1, e2, e3, ih]
    · have hall : ∀ d ∈ c :: l, b < d.time := by
        intro d hd
        rcases List.mem_cons.1 hd with rfl | hd
        · omega
        · have := (vGo_ge l c.time h3 d hd).2; omega
      have e2 : betF (c :: l) a b = [] := by
        unfold betF
        apply List.filter_eq_nil_iff.2
        intro d hd
        have := hall d hd
        simp; omega
      have e3 : betF (c :: l) a z = betF (c :: l) b z := by
        unfold betF
        apply List.filter_congr
        intro d hd
        have := hall d hd
        have h1 : decide (a < d.time) = true := by simp; omega
        have h2 : decide (b < d.time) = true := by simp; omega
        rw [h1, h2]
      rw [e2, e3]; rfl
theorem aftF_append (s : BitVec 64) (l m : List Chg) : aftF s (l ++ m) = aftF (aftF s l) m := by simp [aftF]
theorem betF_mem {l : List Chg} {a z : Int} {c : Chg} (h : c ∈ betF l a z) : c ∈ l ∧ a < c.time ∧ c.time ≤ z := by
  unfold betF at h
  have := List.mem_filter.1 h
  simp at this
  exact this
theorem fits_bet (l : List Chg) (a z : Int) : fitsB (betF l a z) a z = true := by
  unfold fitsB
  rw [decide_eq_true_eq]
  unfold betF
  rw [List.filter_filter]
  simp
theorem selP_mem {l : List Chg} {p : Int} {c : Chg} (h : c ∈ selP p l) : c ∈ l ∧ c.person = p := by
  unfold selP at h
  have := List.mem_filter.1 h
  simpa using this
theorem aft_sel (p : Int) (hp : 0 ≤ p ∧ p ≤ 63) : ∀ (l : List Chg) (s : BitVec 64), (∀ c ∈ l, 0 ≤ c.person ∧ c.person ≤ 63) → (aftF s l).getLsbD p.toNat = match (selP p l).getLast? with | some c => c.on | none => s.getLsbD p.toNat
  | [], s, _ => rfl
  | c :: l, s, h => by
    have hc := h c (by simp)
    show (aftF (stepC s c) l).getLsbD p.toNat = _
    rw [aft_sel p hp l (stepC s c) (fun d hd => h d (by simp [hd])), stepC_get s c p hc hp]
    by_cases hcp : c.person = p
    · have e : selP p (c :: l) = c :: selP p l := by unfold selP; rw [List.filter_cons, if_pos (by simpa using hcp)]
      rw [e, List.getLast?_cons, if_pos hcp]
      cases (selP p l).getLast? <;> rfl
    · have e : selP p (c :: l) = selP p l := by unfold selP; rw [List.filter_cons, if_neg (by simpa using hcp)]
      rw [e, if_neg hcp]
end Go.Proofs.Ytalmeokljamhdaa
