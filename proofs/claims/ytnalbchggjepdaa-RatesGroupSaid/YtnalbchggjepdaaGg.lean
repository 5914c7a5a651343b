/- Rates: thresholds of groups: plain laws. No condition. -/
import Derived.Test.YtnalbchggjepdaaGd
import Derived.Test.YtnalbchggjepdaaVt
namespace Go.Proofs.Ytnalbchggjepdaa
open Go.RowKit

theorem dif_app (a b : List Dbl) (g : Int) : dif (a ++ b) g = dif a g ++ dif b g := by
  unfold dif
  rw [List.filter_append, List.map_append]
theorem dif_cons (x : Dbl) (l : List Dbl) (g : Int) : dif (x :: l) g = (if difB g x = true then [x.b] else []) ++ dif l g := by
  unfold dif
  by_cases c : difB g x = true
  · rw [if_pos c, List.filter_cons_of_pos c]; rfl
  · rw [if_neg c, List.filter_cons_of_neg c]; rfl
theorem dif_split {l : List Dbl} {i : Nat} (h : i < l.length) (g : Int) : dif l g = dif (l.take i) g ++ ((if difB g l[i] = true then [l[i].b] else []) ++ dif (l.drop (i + 1)) g) := by
  rw [← dif_cons, ← dif_app, ← List.drop_eq_getElem_cons h, List.take_append_drop]
theorem dif_wo_no {l : List Dbl} {i : Nat} (h : i < l.length) {g : Int} (c : difB g l[i] = false) : dif (wo l i) g = dif l g := by
  rw [dif_split h, c, wo, dif_app]
  simp
theorem wo_mid {P Q : List Int} {b : Int} : wo (P ++ ([b] ++ Q)) P.length = P ++ Q := by
  unfold wo
  rw [List.take_left, ← List.append_assoc, show P.length + 1 = (P ++ [b]).length by simp, List.drop_left]
theorem dif_wo_yes {l : List Dbl} {i : Nat} (h : i < l.length) {g : Int} (c : difB g l[i] = true) : ∃ j, ∃ hj : j < (dif l g).length, dif (wo l i) g = wo (dif l g) j ∧ (dif l g)[j] = l[i].b := by
  have e := dif_split h g
  rw [if_pos c] at e
  have e2 : dif (wo l i) g = dif (l.take i) g ++ dif (l.drop (i + 1)) g := by rw [wo, dif_app]
  generalize dif l g = X at *
  subst e
  exact ⟨(dif (l.take i) g).length, by simp, by rw [e2, wo_mid], by simp⟩
theorem okT_wo {l : List Dbl} {i : Nat} (h : okT l = true) : okT (wo l i) = true := by
  rw [okT, List.all_eq_true] at h ⊢
  intro x hx
  rcases List.mem_append.1 hx with e | e
  · exact h x (List.mem_of_mem_take e)
  · exact h x (List.mem_of_mem_drop e)
theorem trlE_wo {l : List Dbl} {i : Nat} (hi : i < l.length) (h : trlE l = 0) : trlE (wo l i) = 0 := by
  obtain ⟨h1, h2, h3⟩ := trlE_ok h
  unfold trlE
  rw [if_neg (by rw [wo_len hi]; omega), if_pos (okT_wo h2), if_pos]
  unfold few at h3 ⊢
  rw [List.all_eq_true] at h3 ⊢
  intro g hg
  have := h3 g hg
  simp only [decide_eq_true_eq] at this ⊢
  cases c : difB (g : Nat) l[i]
  · rw [dif_wo_no hi c]; exact this
  · obtain ⟨j, hj, e, _⟩ := dif_wo_yes hi c
    rw [e, wo_len hj]; omega
theorem dif_fr {l : List Dbl} (h : okT l = true) (g : Int) : frB 0 1000 (dif l g) = true := by
  rw [frB, List.all_eq_true]
  intro z hz
  obtain ⟨x, hx, rfl⟩ := List.mem_map.1 hz
  have := List.all_eq_true.1 h x (List.mem_filter.1 hx).1
  simp only [trB, Bool.and_eq_true] at this
  exact this.2
/-- The thresholds of the groups. -/
def thsF (l : List Dbl) (num den : Int) : List Int := (List.range 8).map fun g => limF (dif l (g : Nat)) num den
theorem thsF_len (l : List Dbl) (num den : Int) : (thsF l num den).length = 8 := by simp [thsF]
theorem thsF_at (l : List Dbl) (num den : Int) {g : Nat} (hg : g < 8) : (thsF l num den)[g]? = some (limF (dif l (g : Nat)) num den) := by simp [thsF, hg]
def thsE (l : List Dbl) (num den : Int) : Int := if trlE l = 0 then if shareB num den then 0 else 2 else trlE l
def thsR (l : List Dbl) (num den : Int) : List Int := if thsE l num den = 0 then thsF l num den else []
def thsN (l : List Dbl) (num den : Int) : Nat := if thsE l num den = 0 then 8 else 0
theorem thsN_is (l : List Dbl) (num den : Int) : thsN l num den = (thsR l num den).length := by
  unfold thsN thsR
  split
  · rw [thsF_len]
  · rfl
theorem thsE_ok {l : List Dbl} {num den : Int} (h : thsE l num den = 0) : trlE l = 0 ∧ shareB num den = true := by
  unfold thsE at h
  split at h
  · split at h
    · exact ⟨by assumption, by assumption⟩
    · cases h
  · contradiction
theorem thsE_wo {l : List Dbl} {num den : Int} {i : Nat} (hi : i < l.length) (h : thsE l num den = 0) : thsE (wo l i) num den = 0 := by
  obtain ⟨h1, h2⟩ := thsE_ok h
  unfold thsE
  rw [if_pos (trlE_wo hi h1), if_pos h2]
/-- Whether a score of a group is accepted by the threshold of the others. -/
def kepP (L : List Int) (num den x : Int) : Bool := decide (((atm L x : Nat) : Int) ≤ plaF (L.length - 1) num den)
theorem kepL_is {L : List Int} {j : Nat} {num den : Int} (hj : j < L.length) (hs : shareB num den = true) (hb : 0 ≤ L[j] ∧ L[j] ≤ 1000) : decide (L[j] ≤ limF (wo L j) num den) = kepP L num den L[j] := by
  rw [kepP, decide_eq_decide, limF_le (by simp only [inB, decide_eq_true_eq]; omega) hs, wo_len hj]
  have := wo_atm hj
  omega
theorem kep_here {l : List Dbl} {i g : Nat} {num den : Int} (hi : i < l.length) (hok : okT l = true) (hs : shareB num den = true) (c : difB (g : Nat) l[i] = true) :
    decide (l[i].b ≤ limF (dif (wo l i) (g : Nat)) num den) = kepP (dif l (g : Nat)) num den l[i].b := by
  obtain ⟨j, hj, e, e2⟩ := dif_wo_yes hi c
  rw [e, ← e2]
  refine kepL_is hj hs ?_
  have := List.all_eq_true.1 (dif_fr hok (g : Nat)) _ (List.getElem_mem hj)
  simpa [inB] using this
/-- In each group at most the share of the ways accepts. -/
theorem group_law {L : List Int} {num den : Int} (h : shareB num den = true) : ((L.countP (kepP L num den) : Nat) : Int) * den ≤ num * (L.length : Int) := by
  by_cases h0 : 0 < L.length
  · exact kept_law h h0
  · have : L = [] := List.eq_nil_of_length_eq_zero (by omega)
    subst this
    simp
/-- How many ways were tried in a group, and how many of them accept. -/
def waysL (l : List Dbl) (i : Nat) : List Value := (List.range 8).map fun g => Value.int .i64 (((dif (l.take i) (g : Nat)).length : Nat) : Int)
def accL (l : List Dbl) (num den : Int) (i : Nat) : List Value := (List.range 8).map fun g => Value.int .i64 ((((dif (l.take i) (g : Nat)).countP (kepP (dif l (g : Nat)) num den) : Nat)) : Int)
theorem waysL_len (l : List Dbl) (i : Nat) : (waysL l i).length = 8 := by simp [waysL]
theorem accL_len (l : List Dbl) (num den : Int) (i : Nat) : (accL l num den i).length = 8 := by simp [accL]
theorem waysL_at (l : List Dbl) (i : Nat) {g : Nat} (hg : g < 8) : (waysL l i)[g]? = some (.int .i64 (((dif (l.take i) (g : Nat)).length : Nat) : Int)) := by simp [waysL, hg]
theorem accL_at (l : List Dbl) (num den : Int) (i : Nat) {g : Nat} (hg : g < 8) : (accL l num den i)[g]? = some (.int .i64 ((((dif (l.take i) (g : Nat)).countP (kepP (dif l (g : Nat)) num den) : Nat)) : Int)) := by simp [accL, hg]
theorem ways_same {l : List Dbl} {i : Nat} (hi : i < l.length) (num den : Int) (hs : l[i].same = true) : waysL l (i + 1) = waysL l i ∧ accL l num den (i + 1) = accL l num den i := by
  have e : ∀ g : Int, dif (l.take (i + 1)) g = dif (l.take i) g := fun g => by rw [dif_take hi, if_neg (by simp [difB, hs])]
  unfold waysL accL
  simp only [e, and_self]
theorem ways_put {l : List Dbl} {i g : Nat} (hi : i < l.length) (hg : g < 8) (c : difB (g : Nat) l[i] = true) :
    waysL l (i + 1) = (waysL l i).set g (.int .i64 ((((dif (l.take i) (g : Nat)).length + 1 : Nat)) : Int)) := by
  apply List.ext_getElem?
  intro k
  by_cases hk : k < 8
  · rw [waysL_at _ _ hk, List.getElem?_set, waysL_len, dif_take hi]
    by_cases e : g = k
    · subst e
      rw [if_pos rfl, if_pos hg, if_pos c, List.length_append]; rfl
    · rw [if_neg e, waysL_at _ _ hk, if_neg]
      simp only [difB, Bool.and_eq_true, decide_eq_true_eq] at c ⊢
      omega
  · rw [List.getElem?_eq_none (by rw [waysL_len]; omega), List.getElem?_eq_none (by rw [List.length_set, waysL_len]; omega)]
theorem acc_put {l : List Dbl} {i g : Nat} (hi : i < l.length) (hg : g < 8) (num den : Int) (c : difB (g : Nat) l[i] = true) (ha : kepP (dif l (g : Nat)) num den l[i].b = true) :
    accL l num den (i + 1) = (accL l num den i).set g (.int .i64 ((((dif (l.take i) (g : Nat)).countP (kepP (dif l (g : Nat)) num den) + 1 : Nat)) : Int)) := by
  apply List.ext_getElem?
  intro k
  by_cases hk : k < 8
  · rw [accL_at _ _ _ _ hk, List.getElem?_set, accL_len, dif_take hi]
    by_cases e : g = k
    · subst e
      rw [if_pos rfl, if_pos hg, if_pos c, List.countP_append, List.countP_singleton, if_pos ha]
    · rw [if_neg e, accL_at _ _ _ _ hk, if_neg]
      simp only [difB, Bool.and_eq_true, decide_eq_true_eq] at c ⊢
      omega
  · rw [List.getElem?_eq_none (by rw [accL_len]; omega), List.getElem?_eq_none (by rw [List.length_set, accL_len]; omega)]
theorem acc_keep {l : List Dbl} {i g : Nat} (hi : i < l.length) (num den : Int) (c : difB (g : Nat) l[i] = true) (ha : kepP (dif l (g : Nat)) num den l[i].b = false) :
    accL l num den (i + 1) = accL l num den i := by
  apply List.ext_getElem?
  intro k
  by_cases hk : k < 8
  · rw [accL_at _ _ _ _ hk, accL_at _ _ _ _ hk, dif_take hi]
    by_cases e : g = k
    · subst e
      rw [if_pos c, List.countP_append, List.countP_singleton, ha]; rfl
    · rw [if_neg]
      simp only [difB, Bool.and_eq_true, decide_eq_true_eq] at c ⊢
      omega
  · rw [List.getElem?_eq_none (by rw [accL_len]; omega), List.getElem?_eq_none (by rw [accL_len]; omega)]
theorem waysL_zero (l : List Dbl) : waysL l 0 = List.replicate 8 (.int .i64 0) := by simp [waysL, dif]; kernel_rfl
theorem accL_zero (l : List Dbl) (num den : Int) : accL l num den 0 = List.replicate 8 (.int .i64 0) := by simp [accL, dif]; kernel_rfl
end Go.Proofs.Ytnalbchggjepdaa
