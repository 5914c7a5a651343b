/- Whom Call takes, and what it leaves: plain mathematics. -/
import Derived.Test.YtalmeokljamhdaaNq
namespace Go.Proofs.Ytalmeokljamhdaa
open Go.RowKit

theorem qGo_cons {next id sk : Int} {g : Gst} {l : List Gst} : qGo next id sk (g :: l) = true ↔ id < g.id ∧ g.id < next ∧ 0 ≤ g.skips ∧ g.skips ≤ (if g.fast then 0 else sk) ∧ qGo next g.id (if g.fast then sk else g.skips) l = true := by
  rw [qGo]
  by_cases h : g.id ≤ id ∨ next ≤ g.id ∨ inB 0 (if g.fast then 0 else sk) g.skips = false
  · rw [if_pos h]
    constructor
    · intro h; cases h
    · rintro ⟨h1, h2, h3, h4, h5⟩
      rcases h with h | h | h
      · omega
      · omega
      · simp only [inB, decide_eq_false_iff_not] at h
        exact absurd ⟨h3, h4⟩ h
  · rw [if_neg h]
    have h3 : inB 0 (if g.fast = true then 0 else sk) g.skips = true := by
      cases hb : inB 0 (if g.fast = true then 0 else sk) g.skips
      · exact absurd (Or.inr (Or.inr hb)) h
      · rfl
    simp only [inB, decide_eq_true_eq] at h3
    constructor
    · intro h5; exact ⟨by omega, by omega, h3.1, h3.2, h5⟩
    · rintro ⟨_, _, _, _, h5⟩; exact h5
theorem qGo_mono {next id id' sk sk' : Int} : ∀ {l : List Gst}, qGo next id sk l = true → id' ≤ id → sk ≤ sk' → qGo next id' sk' l = true
  | [], _, _, _ => rfl
  | g :: l, h, h1, h2 => by
    obtain ⟨a, b, c, d, e⟩ := qGo_cons.1 h
    refine qGo_cons.2 ⟨by omega, b, c, ?_, ?_⟩
    · cases hf : g.fast <;> rw [hf] at d <;> simp only [Bool.false_eq_true, if_false, if_true] at d ⊢ <;> omega
    · cases hf : g.fast
      · rw [hf] at e; exact e
      · rw [hf] at e; exact qGo_mono e (Int.le_refl _) h2
theorem qGo_all {next : Int} : ∀ {l : List Gst} {id sk : Int}, qGo next id sk l = true → ∀ g ∈ l, id < g.id ∧ g.id < next
  | [], _, _, _, g, hg => by simp at hg
  | x :: l, id, sk, h, g, hg => by
    obtain ⟨a, b, _, _, e⟩ := qGo_cons.1 h
    rcases List.mem_cons.1 hg with rfl | hg
    · exact ⟨a, b⟩
    · have := qGo_all e g hg; omega
theorem qGo_lt {next : Int} : ∀ {l : List Gst} {id sk : Int}, qGo next id sk l = true → ∀ (i j : Nat) (a b : Gst), i < j → l[i]? = some a → l[j]? = some b → a.id < b.id
  | [], _, _, _, i, j, a, b, _, ha, _ => by simp at ha
  | x :: l, id, sk, h, i, j, a, b, hij, ha, hb => by
    obtain ⟨_, _, _, _, e⟩ := qGo_cons.1 h
    cases j with
    | zero => omega
    | succ j =>
      simp only [List.getElem?_cons_succ] at hb
      cases i with
      | zero =>
        simp at ha
        subst ha
        exact (qGo_all e b (List.mem_of_getElem? hb)).1
      | succ i =>
        simp only [List.getElem?_cons_succ] at ha
        exact qGo_lt e i j a b (by omega) ha hb
theorem qGo_sk {next lim : Int} : ∀ {l : List Gst} {id sk : Int}, qGo next id sk l = true → sk ≤ lim → 0 ≤ lim → ∀ g ∈ l, 0 ≤ g.skips ∧ g.skips ≤ lim
  | [], _, _, _, _, _, g, hg => by simp at hg
  | x :: l, id, sk, h, hs, h0, g, hg => by
    obtain ⟨_, _, c, d, e⟩ := qGo_cons.1 h
    have hx : x.skips ≤ lim := by cases hf : x.fast <;> simp [hf] at d <;> omega
    rcases List.mem_cons.1 hg with rfl | hg
    · exact ⟨c, hx⟩
    · exact qGo_sk e (by cases hf : x.fast <;> simp <;> omega) h0 g hg

/-- Whom Call takes. -/
def Takes (lim : Int) (l : List Gst) (p : Nat) : Prop :=
  (∃ g, l[p]? = some g ∧ g.fast = true ∧ ∀ (i : Nat) (a : Gst), i < p → l[i]? = some a → a.fast = false ∧ a.skips ≠ lim) ∨
  (p = 0 ∧ ∀ (i : Nat) (a : Gst), l[i]? = some a → a.fast = true → ∃ (j : Nat) (b : Gst), j < i ∧ l[j]? = some b ∧ b.skips = lim)
theorem takes_go (lim : Int) : ∀ (l : List Gst) (j : Nat),
    (∃ i g, nextGo lim j l = j + i ∧ l[i]? = some g ∧ g.fast = true ∧ ∀ (i' : Nat) (a : Gst), i' < i → l[i']? = some a → a.fast = false ∧ a.skips ≠ lim) ∨
    (nextGo lim j l = 0 ∧ ∀ (i : Nat) (a : Gst), l[i]? = some a → a.fast = true → ∃ (j : Nat) (b : Gst), j < i ∧ l[j]? = some b ∧ b.skips = lim)
  | [], j => .inr ⟨rfl, fun i a h => by simp at h⟩
  | g :: l, j => by
    cases hf : g.fast
    · by_cases hs : g.skips = lim
      · refine .inr ⟨nextGo_lim rfl hf hs, fun i a ha hfa => ?_⟩
        cases i with
        | zero => simp at ha; subst ha; rw [hf] at hfa; cases hfa
        | succ i => exact ⟨0, g, by omega, rfl, hs⟩
      · rw [nextGo_on rfl hf hs]
        rcases takes_go lim l (j + 1) with ⟨i, x, h1, h2, h3, h4⟩ | ⟨h1, h2⟩
        · refine .inl ⟨i + 1, x, by omega, by simpa using h2, h3, fun i' a hi ha => ?_⟩
          cases i' with
          | zero => simp at ha; subst ha; exact ⟨hf, hs⟩
          | succ i' => exact h4 i' a (by omega) (by simpa using ha)
        · refine .inr ⟨h1, fun i a ha hfa => ?_⟩
          cases i with
          | zero => simp at ha; subst ha; rw [hf] at hfa; cases hfa
          | succ i =>
            obtain ⟨k, b, hk, hb, hbs⟩ := h2 i a (by simpa using ha) hfa
            exact ⟨k + 1, b, by omega, by simpa using hb, hbs⟩
    · exact .inl ⟨0, g, by rw [nextGo_fast rfl hf]; omega, rfl, hf, fun i' a h => by omega⟩
theorem takes_next (lim : Int) (l : List Gst) : Takes lim l (nextGo lim 0 l) := by
  rcases takes_go lim l 0 with ⟨i, g, h1, h2, h3, h4⟩ | ⟨h1, h2⟩
  · rw [h1, Nat.zero_add]; exact .inl ⟨g, h2, h3, h4⟩
  · rw [h1]; exact .inr ⟨rfl, h2⟩

/-- What Call leaves of the line. -/
def remL (l : List Gst) (p : Nat) : List Gst := (l.take p).map inc ++ l.drop (p + 1)
theorem remL_len {l : List Gst} {p : Nat} (h : p < l.length) : (remL l p).length = l.length - 1 := by
  unfold remL; simp; omega
theorem remL_lt {l : List Gst} {p i : Nat} {g : Gst} (hi : i < p) (hg : l[i]? = some g) : (remL l p)[i]? = some (inc g) := by
  have := (List.getElem?_eq_some_iff.1 hg).1
  unfold remL
  rw [List.getElem?_append_left (by simp; omega), List.getElem?_map, List.getElem?_take, if_pos hi, hg]
  rfl
theorem remL_gt {l : List Gst} {p i : Nat} (hp : p < l.length) (hi : p ≤ i) : (remL l p)[i]? = l[i + 1]? := by
  unfold remL
  rw [List.getElem?_append_right (by simp; omega), List.getElem?_drop]
  congr 1
  simp
  omega
theorem qGo_rem_fast {next lim : Int} : ∀ {l : List Gst} {id sk sk' : Int} (i : Nat) (g : Gst), qGo next id sk l = true → sk ≤ lim → (sk + 1 ≤ sk' ∨ lim ≤ sk') → l[i]? = some g → g.fast = true →
    (∀ (i' : Nat) (a : Gst), i' < i → l[i']? = some a → a.fast = false ∧ a.skips ≠ lim) → qGo next id sk' (remL l i) = true
  | [], _, _, _, i, g, _, _, _, h, _, _ => by simp at h
  | x :: l, id, sk, sk', i, g, h, hs, hs', hg, hf, hb => by
    obtain ⟨a, b, c, d, e⟩ := qGo_cons.1 h
    cases i with
    | zero =>
      simp at hg
      subst hg
      rw [hf] at e
      simp only [if_true] at e
      show qGo next id sk' ((List.take 0 (x :: l)).map inc ++ (x :: l).drop 1) = true
      simp only [List.take_zero, List.map_nil, List.nil_append, List.drop_one, List.tail_cons]
      exact qGo_mono e (by omega) (by omega)
    | succ i =>
      obtain ⟨h1, h2⟩ := hb 0 x (by omega) rfl
      rw [h1] at d e
      simp only [Bool.false_eq_true, if_false] at d e
      have ih := qGo_rem_fast (lim := lim) (sk' := x.skips + 1) i g e (by omega) (.inl (Int.le_refl _)) (by simpa using hg) hf (fun i' a hi ha => hb (i' + 1) a (by omega) (by simpa using ha))
      show qGo next id sk' (inc x :: remL l i) = true
      refine qGo_cons.2 ⟨a, b, by show 0 ≤ x.skips + 1; omega, ?_, ?_⟩
      · show x.skips + 1 ≤ if x.fast = true then 0 else sk'
        rw [h1]
        simp only [Bool.false_eq_true, if_false]
        omega
      · show qGo next x.id (if x.fast = true then sk' else x.skips + 1) (remL l i) = true
        rw [h1]
        exact ih
theorem chkQ_rem {lim next : Int} {l : List Gst} {p : Nat} (hv : chkQ lim next l = true) (hp : p < l.length) (ht : Takes lim l p) : chkQ lim next (remL l p) = true := by
  simp only [chkQ, Bool.and_eq_true, decide_eq_true_eq] at hv ⊢
  refine ⟨⟨hv.1.1, by rw [remL_len hp]; omega⟩, ?_⟩
  rcases ht with ⟨g, h1, h2, h3⟩ | ⟨rfl, _⟩
  · exact qGo_rem_fast p g hv.2 (Int.le_refl _) (.inr (Int.le_refl _)) h1 h2 h3
  · cases l with
    | nil => simp at hp
    | cons x l =>
      obtain ⟨a, b, c, d, e⟩ := qGo_cons.1 hv.2
      have hl : inB 0 8 lim = true := hv.1.1.1
      simp only [inB, decide_eq_true_eq] at hl
      show qGo next (-1) lim l = true
      refine qGo_mono e (by omega) ?_
      cases hf : x.fast <;> simp [hf] at d ⊢ <;> omega
theorem callF_ok {lim next : Int} {l : List Gst} {g : Gst} (hv : chkQ lim next l = true) (hg : l[nextGo lim 0 l]? = some g) : callF lim next l = (lim, next, remL l (nextGo lim 0 l), g.id, 0) := by
  have h0 : l.length ≠ 0 := by intro h; rw [List.eq_nil_of_length_eq_zero h] at hg; simp at hg
  unfold callF
  rw [if_neg (by rw [hv]; simp), if_neg h0, hg]
  rfl
theorem takes_lt {lim : Int} {l : List Gst} {p : Nat} (h : Takes lim l p) (h0 : 0 < l.length) : p < l.length := by
  rcases h with ⟨g, h1, _⟩ | ⟨rfl, _⟩
  · exact (List.getElem?_eq_some_iff.1 h1).1
  · exact h0
theorem callF_two (lim next : Int) (l : List Gst) : (∃ K, callF lim next l = (0, 0, [], 0, K) ∧ (K = 8 ∨ K = 6 ∧ l.length = 0)) ∨
    ∃ p g, chkQ lim next l = true ∧ l[p]? = some g ∧ Takes lim l p ∧ callF lim next l = (lim, next, remL l p, g.id, 0) := by
  cases hv : chkQ lim next l
  · exact .inl ⟨8, by simp [callF, hv], .inl rfl⟩
  · by_cases h0 : l.length = 0
    · exact .inl ⟨6, by simp [callF, hv, h0], .inr ⟨rfl, h0⟩⟩
    · have ht := takes_next lim l
      have hp := takes_lt ht (by omega)
      exact .inr ⟨_, _, rfl, List.getElem?_eq_getElem hp, ht, callF_ok hv (List.getElem?_eq_getElem hp)⟩
end Go.Proofs.Ytalmeokljamhdaa
