/- Sketch: the reference's secret through some places. No condition. -/
import Derived.Test.YtnienfgaidccpaaNa
import Derived.Test.YtnienfgaidccpaaVb
import Derived.Test.YtnienfgaidccpaaSt
namespace Go.Proofs.Ytnienfgaidccpaa
open Go.RowKit Go.Shelf
attribute [local go_sem] Oper.semAt_some

def ones : List Int := (List.range 30).map fun (i : Nat) => ((i : Int) + 1)
theorem ones_drop {k : Nat} (h : k < 30) : ones.drop k = ((k : Int) + 1) :: ones.drop (k + 1) := by
  have hl : k < ones.length := by simp [ones]; exact h
  rw [List.drop_eq_getElem_cons hl]
  simp [ones]
def invG (a : Int) (k : Nat) : Int := ((ones.drop k).find? fun b => a * b % 31 == 1).getD 0
set_option maxRecDepth 100000 in
theorem refInverse_any (a : Int) (ha : 0 ≤ a ∧ a < 31) (w : World) : Calls Try.prog 37 #[.int .i64 a] w fun e w' => e = .returned (.int .i64 (invR a)) ∧ w = w' := by
  have H0 := Lib.hid (show invR a = invG a 0 from rfl)
  go_enter Try.func37, Try.ntmps37
  go_wp2_with fail
  go_loopg [3] 30 (fun q u3 wr => ∃ k : Nat, k ≤ 30 ∧ u3 = .int .i64 ((k + 1 : Nat) : Int) ∧ Hid (invR a = invG a k ∧ k + q = 30 ∧ wr = w))
  case atStart => exact ⟨0, by omega, rfl, H0.out, by omega, rfl⟩
  case round =>
    obtain ⟨k, hk, rfl, hI⟩ := hrel
    have I0 := Lib.hid hI.out.1
    have I1 := Lib.hid hI.out.2.1
    have hwr := hI.out.2.2
    clear hI H0
    subst hwr
    by_cases hlt : k < 30
    · have hki : ((k + 1 : Nat) : Int) < 31 := by omega
      have hkn : (k : Int) + 1 < 31 := by omega
      have hm : 0 ≤ a * ((k : Int) + 1) ∧ a * ((k : Int) + 1) ≤ 900 := ⟨Int.mul_nonneg ha.1 (by omega), by have := Int.mul_le_mul (show a ≤ 30 by omega) (show (k : Int) + 1 ≤ 30 by omega) (by omega) (by omega); omega⟩
      have z1 : IntKind.i64.wrap (a * ((k : Int) + 1)) = a * ((k : Int) + 1) := IntWalk.i64_in _ (by omega)
      have z3 : (a * ((k : Int) + 1)).tmod 31 = a * ((k : Int) + 1) % 31 := Int.tmod_eq_emod_of_nonneg hm.1
      have z4 : IntKind.i64.wrap (a * ((k : Int) + 1) % 31) = a * ((k : Int) + 1) % 31 := IntWalk.i64_in _ (by omega)
      have z2 : IntKind.i64.wrap ((k : Int) + 1 + 1) = ((k + 1 + 1 : Nat) : Int) := by rw [show (k : Int) + 1 + 1 = ((k + 1 + 1 : Nat) : Int) by omega]; exact IntWalk.i64_in _ (by omega)
      have HG := Lib.hid (show invG a k = if a * ((k : Int) + 1) % 31 = 1 then (k : Int) + 1 else invG a (k + 1) by
        unfold invG
        rw [ones_drop hlt, List.find?_cons]
        by_cases e : a * ((k : Int) + 1) % 31 = 1
        · rw [if_pos e, beq_iff_eq.2 e]; rfl
        · rw [if_neg e, beq_eq_false_iff_ne.2 e])
      generalize a * ((k : Int) + 1) % 31 = m at *
      clear hm
      by_cases h1 : m = 1
      · subst h1
        as_aux_lemma =>
        have HE := Lib.hid (show invR a = (k : Int) + 1 by rw [I0.out, HG.out, if_pos rfl])
        go_wp2_with fail
        go_ret
        exact ⟨by rw [HE.out]; rfl, rfl⟩
      · as_aux_lemma =>
        have h1' : (m == 1) = false := by simpa using h1
        have HE := Lib.hid (show invR a = invG a (k + 1) by rw [I0.out, HG.out, if_neg h1])
        clear h1
        go_wp2_with fail
        go_roundg (gk - 1)
        case measure => have := I1.out; omega
        case rel => exact ⟨k + 1, by omega, by go_num, HE.out, by have := I1.out; omega, rfl⟩
    · as_aux_lemma =>
      obtain rfl : k = 30 := by omega
      have HE := Lib.hid (show invR a = 0 by rw [I0.out]; rfl)
      go_wp2_with fail
      go_ret
      exact ⟨by rw [HE.out]; rfl, rfl⟩
/-- The places that are still to come, but for one. -/
def remP (ps : List Int) (j i : Nat) : List Int := if i ≤ j then (ps.take j).drop i ++ ps.drop (j + 1) else ps.drop i
theorem remP_step {ps : List Int} {j i : Nat} (hi : i < ps.length) (hj : j < ps.length) (h : ¬ i = j) : remP ps j i = ps[i] :: remP ps j (i + 1) := by
  unfold remP
  by_cases c : i < j
  · have hl : i < (ps.take j).length := by rw [List.length_take]; omega
    rw [if_pos (by omega), if_pos (by omega), List.drop_eq_getElem_cons hl, List.getElem_take]
    rfl
  · rw [if_neg (by omega), if_neg (by omega), List.drop_eq_getElem_cons hi]
theorem remP_skip (ps : List Int) (j : Nat) : remP ps j j = remP ps j (j + 1) := by
  unfold remP
  rw [if_pos (Nat.le_refl _), if_neg (by omega), List.drop_eq_nil_of_le (by rw [List.length_take]; omega)]
  rfl
theorem remP_end {ps : List Int} {j : Nat} (hj : j < ps.length) : remP ps j ps.length = [] := by
  unfold remP
  rw [if_neg (by omega), List.drop_length]
theorem remP_len {ps : List Int} {j : Nat} (hj : j < ps.length) : (remP ps j 0).length = ps.length - 1 := by
  unfold remP
  rw [if_pos (Nat.zero_le _), List.length_append, List.length_drop, List.length_drop, List.length_take]
  omega
theorem lagS_step (V : Int → Int) {ps : List Int} {j : Nat} (hj : j < ps.length) (o : List Int) : lagS V (ps.take j) (ps.drop j) o = lagS V (ps.take (j + 1)) (ps.drop (j + 1)) (addL o (lagP ps[j] [V ps[j]] (remP ps j 0))) := by
  have e : remP ps j 0 = ps.take j ++ ps.drop (j + 1) := by unfold remP; rw [if_pos (Nat.zero_le _)]; rfl
  rw [List.drop_eq_getElem_cons hj, lagS, e, List.take_succ_eq_append_getElem hj]
theorem take_two (L : List Int) {k : Nat} (hk : k + 1 < L.length) (a b : Int) : ((L.set (k + 1) a).set k b).take (k + 1) = L.take k ++ [b] := by
  apply List.ext_getElem?
  intro i
  by_cases h1 : i < k
  · rw [List.getElem?_take, if_pos (by omega), List.getElem?_set_ne (by omega), List.getElem?_set_ne (by omega), List.getElem?_append_left (by rw [List.length_take]; omega), List.getElem?_take, if_pos h1]
  · by_cases h2 : i = k
    · subst h2
      rw [List.getElem?_take, if_pos (by omega), List.getElem?_set_self (by rw [List.length_set]; omega), List.getElem?_append_right (by rw [List.length_take]; omega), List.length_take, Nat.min_eq_left (by omega), Nat.sub_self]
      rfl
    · rw [List.getElem?_eq_none (by rw [List.length_take, List.length_set, List.length_set]; omega), List.getElem?_eq_none (by rw [List.length_append, List.length_take]; simp; omega)]
theorem lagA_step {b r : Int} {Nx P LM : List Int} {k : Nat} (hk : k < P.length) (hl : Nx.length = P.length + 1) (h : Nx.take k ++ lagAux b r (Nx.getD k 0) (P.drop k) = LM) :
    ((Nx.set (k + 1) ((0 + P.getD k 0 * b) % 31)).set k ((Nx.getD k 0 + P.getD k 0 * b % 31 * (31 - r)) % 31)).take (k + 1) ++ lagAux b r (((Nx.set (k + 1) ((0 + P.getD k 0 * b) % 31)).set k ((Nx.getD k 0 + P.getD k 0 * b % 31 * (31 - r)) % 31)).getD (k + 1) 0) (P.drop (k + 1)) = LM := by
  rw [take_two Nx (by omega), ← h, List.drop_eq_getElem_cons hk]
  have e : P.getD k 0 = P[k] := by simp [List.getD, List.getElem?_eq_getElem hk]
  have e2 : ((Nx.set (k + 1) ((0 + P.getD k 0 * b) % 31)).set k ((Nx.getD k 0 + P.getD k 0 * b % 31 * (31 - r)) % 31)).getD (k + 1) 0 = (0 + P.getD k 0 * b) % 31 := by
    rw [List.getD_eq_getElem?_getD, List.getElem?_set_ne (by omega), List.getElem?_set_self (by omega)]
    rfl
  rw [e2, e, lagAux, List.append_assoc]
  rfl
theorem lagA_end {b r : Int} {Nx P LM : List Int} (hl : Nx.length = P.length + 1) (h : Nx.take P.length ++ lagAux b r (Nx.getD P.length 0) (P.drop P.length) = LM) : Nx = LM := by
  rw [← h, List.drop_length, lagAux]
  have hk : P.length < Nx.length := by omega
  have e : Nx.getD P.length 0 = Nx[P.length] := by simp [List.getD, List.getElem?_eq_getElem hk]
  rw [e, ← List.take_succ_eq_append_getElem hk, List.take_of_length_le (by omega)]
theorem addL_nil (os : List Int) : addL os [] = os := by cases os <;> rfl
theorem addL_step {O P T : List Int} {k : Nat} (hk : k < O.length) (hp : k < P.length) (h : O.take k ++ addL (O.drop k) (P.drop k) = T) :
    (O.set k ((O.getD k 0 + P.getD k 0) % 31)).take (k + 1) ++ addL ((O.set k ((O.getD k 0 + P.getD k 0) % 31)).drop (k + 1)) (P.drop (k + 1)) = T := by
  have e1 : O.getD k 0 = O[k] := by simp [List.getD, List.getElem?_eq_getElem hk]
  have e2 : P.getD k 0 = P[k] := by simp [List.getD, List.getElem?_eq_getElem hp]
  rw [← h, List.drop_eq_getElem_cons hk, List.drop_eq_getElem_cons hp, addL, e1, e2]
  have hk2 : k < (O.set k ((O[k] + P[k]) % 31)).length := by rw [List.length_set]; exact hk
  rw [List.take_succ_eq_append_getElem hk2, List.getElem_set_self, List.append_assoc]
  have e3 : (O.set k ((O[k] + P[k]) % 31)).take k = O.take k := by
    rw [List.take_set_of_le (Nat.le_refl k)]
  have e4 : (O.set k ((O[k] + P[k]) % 31)).drop (k + 1) = O.drop (k + 1) := by
    rw [List.drop_set_of_lt (by omega)]
  rw [e3, e4]
  rfl
end Go.Proofs.Ytnienfgaidccpaa
