/- Rates: the laws of thresholds and chances; plain mathematics. No condition. -/
import Derived.Test.YtnalbchggjepdaaUd
namespace Go.Proofs.Ytnalbchggjepdaa

/-- The place of a share for so many numbers. -/
def plaF (n : Nat) (num den : Int) : Int := num * ((n : Int) + 1) / den
theorem limF_eq (l : List Int) (num den : Int) : limF l num den = if plaF l.length num den = 0 then -1 else if (l.length : Int) < plaF l.length num den then 1000 else (srtI l).getD (plaF l.length num den - 1).toNat 0 - 1 := rfl
theorem plaF_nonneg {n : Nat} {num den : Int} (h : shareB num den = true) : 0 ≤ plaF n num den := by
  obtain ⟨h1, h2, _⟩ := share_of h
  exact Int.ediv_nonneg (Int.mul_nonneg h1.1 (by omega)) (by omega)
theorem srtI_rng {l : List Int} (hl : frB 0 1000 l = true) {k : Nat} (h : k < (srtI l).length) : 0 ≤ (srtI l)[k] ∧ (srtI l)[k] ≤ 1000 := by
  have h1 : (srtI l)[k] ∈ l := (srtI_perm l).mem_iff.1 (List.getElem_mem h)
  have h2 := List.all_eq_true.1 hl _ h1
  simpa [inB] using h2
/-- A score is accepted exactly if at most so many are at most it. -/
theorem limF_le {l : List Int} {num den s : Int} (hs : inB 0 1000 s = true) (h : shareB num den = true) :
    s ≤ limF l num den ↔ 1 + ((atm l s : Nat) : Int) ≤ plaF l.length num den := by
  have hs : 0 ≤ s ∧ s ≤ 1000 := by simpa [inB] using hs
  have p0 := plaF_nonneg (n := l.length) h
  have a0 := atm_le l s
  rw [limF_eq]
  generalize plaF l.length num den = r at *
  by_cases e0 : r = 0
  · rw [if_pos e0]; omega
  rw [if_neg e0]
  by_cases e1 : (l.length : Int) < r
  · rw [if_pos e1]; omega
  rw [if_neg e1]
  obtain ⟨k, hk⟩ : ∃ k : Nat, r = (k : Int) + 1 := ⟨(r - 1).toNat, by omega⟩
  subst hk
  have hkn : k < (srtI l).length := by rw [srtI_len]; omega
  rw [show ((k : Int) + 1 - 1).toNat = k by omega, List.getD_eq_getElem?_getD, List.getElem?_eq_getElem hkn, Option.getD_some]
  by_cases c : s < (srtI l)[k]
  · have := atm_lt hkn c; omega
  · have := atm_ge hkn (by omega : (srtI l)[k] ≤ s); omega
theorem pla_iff {n : Nat} {num den x : Int} (h : shareB num den = true) : x ≤ plaF n num den ↔ x * den ≤ num * ((n : Int) + 1) := by
  obtain ⟨_, h2, _⟩ := share_of h
  exact Int.le_ediv_iff_mul_le (by omega)
theorem max_of : ∀ (m : List Int), m ≠ [] → ∃ x ∈ m, ∀ y ∈ m, y ≤ x
  | [], h => absurd rfl h
  | [x], _ => ⟨x, by simp, by simp⟩
  | x :: y :: m, _ => by
    obtain ⟨z, h1, h2⟩ := max_of (y :: m) (by simp)
    by_cases c : z ≤ x
    · exact ⟨x, by simp, fun w hw => by
        rcases List.mem_cons.1 hw with e | e
        · omega
        · have := h2 w e; omega⟩
    · exact ⟨z, by simp [h1], fun w hw => by
        rcases List.mem_cons.1 hw with e | e
        · omega
        · exact h2 w e⟩
/-- At most k numbers of a list have at most k numbers that are at most them. -/
theorem count_law (l : List Int) (k : Nat) : (l.countP fun x => decide (atm l x ≤ k)) ≤ k := by
  by_cases e : (l.filter fun x => decide (atm l x ≤ k)) = []
  · rw [List.countP_eq_length_filter, e]; exact Nat.zero_le _
  · obtain ⟨x, h1, h2⟩ := max_of _ e
    obtain ⟨hx1, hx2⟩ := List.mem_filter.1 h1
    refine Nat.le_trans ?_ (of_decide_eq_true hx2)
    unfold atm
    refine List.countP_mono_left fun y hy hyk => ?_
    exact decide_eq_true (h2 y (List.mem_filter.2 ⟨hy, hyk⟩))
/-- A list without the element of a place. -/
def wo {α : Type} (l : List α) (i : Nat) : List α := l.take i ++ l.drop (i + 1)
theorem wo_len {α : Type} {l : List α} {i : Nat} (h : i < l.length) : (wo l i).length = l.length - 1 := by
  unfold wo; rw [List.length_append, List.length_take, List.length_drop]; omega
theorem wo_atm {l : List Int} {i : Nat} (h : i < l.length) : 1 + atm (wo l i) l[i] = atm l l[i] := by
  have e : l = l.take i ++ l[i] :: l.drop (i + 1) := by rw [← List.drop_eq_getElem_cons h, List.take_append_drop]
  have h1 : atm l l[i] = atm (l.take i ++ l[i] :: l.drop (i + 1)) l[i] := by rw [← e]
  rw [h1]
  unfold atm wo
  rw [List.countP_append, List.countP_append, List.countP_cons]
  simp
  omega
theorem frB_wo {l : List Int} {i : Nat} (h : frB 0 1000 l = true) : frB 0 1000 (wo l i) = true := by
  rw [frB, List.all_eq_true] at h ⊢
  intro x hx
  rcases List.mem_append.1 hx with e | e
  · exact h x (List.mem_of_mem_take e)
  · exact h x (List.mem_of_mem_drop e)
theorem mul_le_of {a b c : Int} (h : a ≤ b) (hc : 0 ≤ c) : a * c ≤ b * c := Int.mul_le_mul_of_nonneg_right h hc
/-- A greater share has no lesser place. -/
theorem pla_mono {n : Nat} {num den num' den' : Int} (h : shareB num den = true) (h' : shareB num' den' = true) (hs : num * den' ≤ num' * den) : plaF n num den ≤ plaF n num' den' := by
  obtain ⟨_, d1, _⟩ := share_of h
  obtain ⟨_, d2, _⟩ := share_of h'
  rw [pla_iff h']
  have k := (pla_iff (n := n) (x := plaF n num den) h).1 (Int.le_refl _)
  generalize plaF n num den = r at *
  have hN : 0 ≤ (n : Int) + 1 := by omega
  generalize (n : Int) + 1 = N at *
  refine Int.le_of_mul_le_mul_right (a := den) ?_ (by omega)
  calc r * den' * den = r * den * den' := by rw [Int.mul_assoc, Int.mul_comm den', ← Int.mul_assoc]
    _ ≤ num * N * den' := mul_le_of k (by omega)
    _ = num * den' * N := by rw [Int.mul_assoc, Int.mul_comm N, ← Int.mul_assoc]
    _ ≤ num' * den * N := mul_le_of hs hN
    _ = num' * N * den := by rw [Int.mul_assoc, Int.mul_comm den, ← Int.mul_assoc]
theorem limF_rng {l : List Int} {num den : Int} (hl : frB 0 1000 l = true) (h : shareB num den = true) : -1 ≤ limF l num den ∧ limF l num den ≤ 1000 := by
  have p0 := plaF_nonneg (n := l.length) h
  rw [limF_eq]
  generalize plaF l.length num den = r at *
  by_cases e0 : r = 0
  · rw [if_pos e0]; omega
  rw [if_neg e0]
  by_cases e1 : (l.length : Int) < r
  · rw [if_pos e1]; omega
  rw [if_neg e1]
  obtain ⟨k, hk⟩ : ∃ k : Nat, r = (k : Int) + 1 := ⟨(r - 1).toNat, by omega⟩
  subst hk
  have hkn : k < (srtI l).length := by rw [srtI_len]; omega
  rw [show ((k : Int) + 1 - 1).toNat = k by omega, List.getD_eq_getElem?_getD, List.getElem?_eq_getElem hkn, Option.getD_some]
  have := srtI_rng hl hkn
  omega
/-- A greater share has no lesser threshold. -/
theorem lim_mono {l : List Int} {num den num' den' : Int} (hl : frB 0 1000 l = true) (h : shareB num den = true) (h' : shareB num' den' = true) (hs : num * den' ≤ num' * den) :
    limF l num den ≤ limF l num' den' := by
  have r1 := limF_rng hl h
  by_cases c : limF l num den < 0
  · have := limF_rng hl h'; omega
  · have hs1 : inB 0 1000 (limF l num den) = true := by simp only [inB, decide_eq_true_eq]; omega
    rw [limF_le hs1 h']
    have := (limF_le hs1 h).1 (Int.le_refl _)
    have := pla_mono (n := l.length) h h' hs
    omega
theorem srtI_congr {l l' : List Int} (h : l.Perm l') : srtI l = srtI l' := by
  have h1 := srtI_pair l
  have h2 := srtI_pair l'
  exact ((srtI_perm l).trans (h.trans (srtI_perm l').symm)).eq_of_pairwise (fun a b _ _ h1 h2 => Int.le_antisymm h1 h2) h1 h2
theorem scoE_congr {l l' : List Int} (h : l.Perm l') : scoE l = scoE l' := by
  unfold scoE
  rw [h.length_eq]
  have : frB 0 1000 l = frB 0 1000 l' := by
    rw [Bool.eq_iff_iff, frB, frB, List.all_eq_true, List.all_eq_true]
    exact ⟨fun k x hx => k x (h.mem_iff.2 hx), fun k x hx => k x (h.mem_iff.1 hx)⟩
  rw [this]
/-- In another order the numbers have the same threshold. -/
theorem thrF_congr {l l' : List Int} (h : l.Perm l') (num den : Int) : thrF l num den = thrF l' num den := by
  unfold thrF limF
  rw [scoE_congr h, srtI_congr h, h.length_eq]
/-- THE STAGE's THEOREM. -/
theorem kept_law {l : List Int} {num den : Int} (h : shareB num den = true) (h0 : 0 < l.length) :
    ((l.countP fun x => decide (((atm l x : Nat) : Int) ≤ plaF (l.length - 1) num den) : Nat) : Int) * den ≤ num * (l.length : Int) := by
  obtain ⟨_, d1, _⟩ := share_of h
  have p0 := plaF_nonneg (n := l.length - 1) h
  have k := (pla_iff (n := l.length - 1) (x := plaF (l.length - 1) num den) h).1 (Int.le_refl _)
  rw [show ((l.length - 1 : Nat) : Int) + 1 = (l.length : Int) by omega] at k
  have hc := count_law l (plaF (l.length - 1) num den).toNat
  have e : (l.countP fun x => decide (((atm l x : Nat) : Int) ≤ plaF (l.length - 1) num den)) = l.countP fun x => decide (atm l x ≤ (plaF (l.length - 1) num den).toNat) := by
    refine List.countP_congr fun x _ => ?_
    rw [decide_eq_true_iff, decide_eq_true_iff]
    omega
  rw [e]
  refine Int.le_trans (mul_le_of ?_ (by omega)) k
  omega
end Go.Proofs.Ytnalbchggjepdaa
