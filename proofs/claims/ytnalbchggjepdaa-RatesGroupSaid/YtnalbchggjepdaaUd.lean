/- Rates: lists of scores, thresholds and chances of the reference. No condition. -/
import Derived.Test.YtnalbchggjepdaaUc
import Derived.Test.YtnalbchggjepdaaTe
namespace Go.Proofs.Ytnalbchggjepdaa
open Go.RowKit Go.Shelf
attribute [local go_sem] Oper.semAt_some

theorem Rd.int {w : World} {A : Option Addr} {l : List Int} (h : Rd w A (ints l)) {k : Nat} (hk : k < l.length) : ∃ b off, A = some ⟨b, off, none⟩ ∧ w.cell? ⟨b, off + k, none⟩ = some (.int .i64 l[k]) ∧ b < w.heap.size := by
  obtain ⟨b, off, e, hb, hc⟩ := h.at_ (ints_get hk)
  exact ⟨b, off, e, hc k _ (ints_get hk), hb⟩
theorem srtI_perm (l : List Int) : (srtI l).Perm l := List.mergeSort_perm l _
theorem srtI_pair (l : List Int) : (srtI l).Pairwise (· ≤ ·) := by
  have h := List.pairwise_mergeSort (le := fun x y : Int => decide (x ≤ y)) (fun a b c h1 h2 => by simp only [decide_eq_true_eq] at *; omega) (fun a b => by simp only [Bool.or_eq_true, decide_eq_true_eq]; omega) l
  exact h.imp fun h => by simpa using h
theorem srtI_atm (l : List Int) (s : Int) : atm l s = atm (srtI l) s := by
  unfold atm
  exact ((srtI_perm l).countP_eq _).symm
/-- The k-th number in order is the least one that k + 1 numbers are at most. -/
theorem atm_ge {l : List Int} {k : Nat} (h : k < (srtI l).length) {s : Int} (hs : (srtI l)[k] ≤ s) : k + 1 ≤ atm l s := by
  rw [srtI_atm]
  unfold atm
  have hp := srtI_pair l
  generalize srtI l = S at *
  have e : S = S.take (k + 1) ++ S.drop (k + 1) := (List.take_append_drop _ _).symm
  rw [e, List.countP_append]
  have : (S.take (k + 1)).countP (fun x => decide (x ≤ s)) = (S.take (k + 1)).length := by
    rw [List.countP_eq_length]
    intro x hx
    obtain ⟨j, hj, rfl⟩ := List.mem_iff_getElem.1 hx
    rw [List.length_take] at hj
    rw [List.getElem_take, decide_eq_true_eq]
    by_cases hjk : j = k
    · subst hjk; exact hs
    · exact Int.le_trans (List.pairwise_iff_getElem.1 hp j k (by omega) h (by omega)) hs
  rw [this, List.length_take]
  omega
theorem atm_lt {l : List Int} {k : Nat} (h : k < (srtI l).length) {s : Int} (hs : s < (srtI l)[k]) : atm l s ≤ k := by
  rw [srtI_atm]
  unfold atm
  have hp := srtI_pair l
  generalize srtI l = S at *
  have e : S = S.take k ++ S.drop k := (List.take_append_drop _ _).symm
  rw [e, List.countP_append]
  have : (S.drop k).countP (fun x => decide (x ≤ s)) = 0 := by
    rw [List.countP_eq_zero]
    intro x hx
    obtain ⟨j, hj, rfl⟩ := List.mem_iff_getElem.1 hx
    rw [List.length_drop] at hj
    rw [List.getElem_drop, decide_eq_true_eq]
    by_cases hj0 : j = 0
    · subst hj0; simpa using hs
    · have := List.pairwise_iff_getElem.1 hp k (k + j) h (by omega) (by omega)
      omega
  rw [this]
  have := List.countP_le_length (p := fun x => decide (x ≤ s)) (l := S.take k)
  rw [List.length_take] at this
  omega
set_option maxRecDepth 100000 in
theorem refAtMost_any (A : Option Addr) (l : List Int) (n c : Nat) (s : Int) (w : World) (hr : Rd w A (ints l)) (hn : n = l.length) (hl : n ≤ 1000000) :
    Calls Try.prog 60 #[.slice A n c, .int .i64 s] w fun e w' => e = .returned (.int .i64 (atm l s : Nat)) ∧ Below w.heap.size w w' := by
  have HR := Lib.hid hr
  have HN := Lib.hid hn
  clear hr hn
  go_enter Try.func60, Try.ntmps60
  go_wp2_with fail
  go_loopg [5, 6] n (fun q u5 u6 wr => ∃ k : Nat, k ≤ n ∧ u6 = .int .i64 (k : Nat) ∧ u5 = .int .i64 (atm (l.take k) s : Nat) ∧ Hid (k + q = n ∧ Own w wr []))
  case atStart => exact ⟨0, Nat.zero_le _, rfl, rfl, by omega, Own.start w⟩
  case round =>
    obtain ⟨k, hk, rfl, rfl, hI⟩ := hrel
    have I1 := Lib.hid hI.out.1
    have I2 := Lib.hid hI.out.2
    clear hI
    by_cases hlt : k < n
    · have hlt' : k < l.length := by rw [← HN.out]; exact hlt
      obtain ⟨b, off, rfl, hc0, hbs⟩ := (HR.out.below I2.out.bel).int hlt'
      have HA := Lib.hid (atm_take hlt' s)
      have ha0 := atm_le (l.take k) s
      rw [List.length_take] at ha0
      generalize l[k] = x at *
      generalize atm (l.take k) s = a at *
      have hki : (k : Int) < (n : Int) := by omega
      have ha : a ≤ 1000000 := by omega
      clear ha0 hlt'
      by_cases hx : x ≤ s
      · have HA2 := Lib.hid (show ((a : Int)) + 1 = ((atm (l.take (k + 1)) s : Nat) : Int) by rw [HA.out, if_pos hx]; omega)
        go_wp2_with fail
        go_roundg (gk - 1)
        case measure => have := I1.out; omega
        case rel => exact ⟨k + 1, by omega, by go_num, by rw [← HA2.out], by have := I1.out; omega, I2.out⟩
      · have HA2 := Lib.hid (show a = atm (l.take (k + 1)) s by rw [HA.out, if_neg hx]; rfl)
        go_wp2_with fail
        go_roundg (gk - 1)
        case measure => have := I1.out; omega
        case rel => exact ⟨k + 1, by omega, by go_num, by rw [← HA2.out], by have := I1.out; omega, I2.out⟩
    · have hni : ¬ (k : Int) < (n : Int) := by omega
      have HA := Lib.hid (show atm (l.take k) s = atm l s by rw [List.take_of_length_le (by rw [← HN.out]; omega)])
      go_wp2_with fail
      go_ret
      exact ⟨by rw [← HA.out]; rfl, I2.out.bel⟩
set_option maxRecDepth 100000 in
theorem refScores_any (A : Option Addr) (l : List Int) (n c : Nat) (w : World) (hr : Rd w A (ints l)) (hn : n = l.length) :
    Calls Try.prog 32 #[.slice A n c] w fun e w' => e = .returned (.int .i64 (scoE l)) ∧ Below w.heap.size w w' := by
  by_cases h1 : 60 < n
  · have HE := Lib.hid (show scoE l = 4 by unfold scoE; rw [if_pos (by omega)])
    have h1' : (60 : Int) < (n : Int) := by omega
    clear hr hn
    go_enter Try.func32, Try.ntmps32
    go_wp2_with fail
    go_ret
    exact ⟨by rw [HE.out]; rfl, Below.refl _ _⟩
  have HE := Lib.hid (show scoE l = if frB 0 1000 (l.drop 0) then 0 else 2 by unfold scoE; rw [if_neg (by omega)]; rfl)
  have h1' : ¬ (60 : Int) < (n : Int) := by omega
  have HR := Lib.hid hr
  have HN := Lib.hid hn
  clear hr hn
  go_enter Try.func32, Try.ntmps32
  go_wp2_with fail
  go_loopg [3] n (fun q u3 wr => ∃ k : Nat, k ≤ n ∧ u3 = .int .i64 (k : Nat) ∧ Hid (scoE l = (if frB 0 1000 (l.drop k) then 0 else 2) ∧ k + q = n ∧ Own w wr []))
  case atStart => exact ⟨0, Nat.zero_le _, rfl, HE.out, by omega, Own.start w⟩
  case round =>
    obtain ⟨k, hk, rfl, hI⟩ := hrel
    have I0 := Lib.hid hI.out.1
    have I1 := Lib.hid hI.out.2.1
    have I2 := Lib.hid hI.out.2.2
    clear hI
    by_cases hlt : k < n
    · have hlt' : k < l.length := by rw [← HN.out]; exact hlt
      obtain ⟨b, off, rfl, hc0, hbs⟩ := (HR.out.below I2.out.bel).int hlt'
      have HA := Lib.hid (show frB 0 1000 (l.drop k) = (inB 0 1000 l[k] && frB 0 1000 (l.drop (k + 1))) by rw [List.drop_eq_getElem_cons hlt']; rfl)
      generalize l[k] = x at *
      have hki : (k : Int) < (n : Int) := by omega
      cases hx : inB 0 1000 x
      · have HA2 := Lib.hid (show scoE l = 2 by rw [I0.out, HA.out, hx]; rfl)
        have HX := Lib.hid hx
        clear hx hlt'
        go_wp2_with (go_at_call 55; refine (within_any _ _ _ _).mono ?_; rintro e w' ⟨rfl, rfl⟩; rw [HX.out])
        go_ret
        exact ⟨by rw [HA2.out]; rfl, I2.out.bel⟩
      · have HA2 := Lib.hid (show scoE l = (if frB 0 1000 (l.drop (k + 1)) then 0 else 2) by rw [I0.out, HA.out, hx]; rfl)
        have HX := Lib.hid hx
        clear hx hlt'
        go_wp2_with (go_at_call 55; refine (within_any _ _ _ _).mono ?_; rintro e w' ⟨rfl, rfl⟩; rw [HX.out])
        go_roundg (gk - 1)
        case measure => have := I1.out; omega
        case rel => exact ⟨k + 1, by omega, by go_num, HA2.out, by have := I1.out; omega, I2.out⟩
    · have hni : ¬ (k : Int) < (n : Int) := by omega
      have HA := Lib.hid (show scoE l = 0 by rw [I0.out, List.drop_eq_nil_of_le (by rw [← HN.out]; omega)]; rfl)
      go_wp2_with fail
      go_ret
      exact ⟨by rw [HA.out]; rfl, I2.out.bel⟩
set_option maxRecDepth 100000 in
theorem refPlace_any (num den : Int) (n : Nat) (w : World) (hnb : n ≤ 1000) (hnum : 0 ≤ num ∧ num ≤ den) (hden : 1 ≤ den ∧ den ≤ 1000) :
    Calls Try.prog 80 #[.agg #[.int .i64 num, .int .i64 den], .int .i64 (n : Nat)] w fun e w' => e = .returned (.int .i64 (num * ((n : Int) + 1) / den)) ∧ Below w.heap.size w w' := by
  obtain ⟨r, hrr⟩ : ∃ r, r = num * ((n : Int) + 1) / den := ⟨_, rfl⟩
  have p1 : num * ((n : Int) + 1) ≤ den * ((n : Int) + 1) := Int.mul_le_mul_of_nonneg_right hnum.2 (by omega)
  have p2 : den * ((n : Int) + 1) ≤ 1000 * ((n : Int) + 1) := Int.mul_le_mul_of_nonneg_right hden.2 (by omega)
  have p0 : 0 ≤ num * ((n : Int) + 1) := Int.mul_nonneg hnum.1 (by omega)
  have r0 : 0 ≤ r := by rw [hrr]; exact Int.ediv_nonneg p0 (by omega)
  have r1 : r ≤ (n : Int) + 1 := by
    rw [hrr]
    exact Int.le_trans (Int.ediv_le_ediv (by omega) p1) (by rw [Int.mul_ediv_cancel_left _ (by omega)]; omega)
  have z1 : IntKind.i64.wrap ((n : Int) + 1) = (n : Int) + 1 := IntWalk.i64_in _ (by omega)
  have z2 : IntKind.i64.wrap (num * ((n : Int) + 1)) = num * ((n : Int) + 1) := IntWalk.i64_in _ (by omega)
  have z3 : (num * ((n : Int) + 1)).tdiv den = r := by rw [Int.tdiv_eq_ediv_of_nonneg p0, hrr]
  have z4 : IntKind.i64.wrap r = r := IntWalk.i64_in _ (by omega)
  have z5 : ¬ den = 0 := by omega
  rw [← hrr]
  clear hrr p1 p2 p0 hnum hden
  go_enter Try.func80, Try.ntmps80
  go_wp2_with fail
  go_ret
  exact ⟨rfl, below_alloc _ _⟩
set_option maxRecDepth 100000 in
set_option maxHeartbeats 4000000 in
theorem sameInts_any (l l' : List Int) (A A' : Option Addr) (n n' cp cp' : Nat) (w : World) (hr : Rd w A (ints l)) (hr' : Rd w A' (ints l')) (hn : n = l.length) (hn' : n' = l'.length) (hbig : n ≤ 4611686018337387904) :
    Calls Try.prog 33 #[.slice A n cp, .slice A' n' cp'] w fun e w' => e = .returned (.bool (decide (l = l'))) ∧ Below w.heap.size w w' := by
  by_cases hnn : n = n'
  case neg => as_aux_lemma =>
    have HF := Lib.hid (show decide (l = l') = false by
      rw [decide_eq_false_iff_not]
      rintro rfl
      omega)
    generalize decide (l = l') = v at *
    have g : ¬ (n : Int) = (n' : Int) := by omega
    clear hr hr' hn hn'
    go_enter Try.func33, Try.ntmps33
    go_wp2_with fail
    go_ret
    exact ⟨by rw [HF.out]; rfl, Below.refl _ _⟩
  obtain rfl : n = n' := hnn
  have HR := Lib.hid hr
  have HR' := Lib.hid hr'
  have HN := Lib.hid (show n = l.length ∧ n = l'.length from ⟨hn, hn'⟩)
  have HV := Lib.hid (show decide (l = l') = decide (l.drop 0 = l'.drop 0) by rw [List.drop_zero, List.drop_zero])
  generalize decide (l = l') = v at *
  clear hr hr' hn hn'
  go_enter Try.func33, Try.ntmps33
  go_wp2_with fail
  go_loopg [5] n (fun q u5 wr => ∃ i : Nat, i ≤ n ∧ u5 = .int .i64 (i : Nat) ∧ Hid (v = decide (l.drop i = l'.drop i) ∧ i + q = n ∧ Own w wr []))
  case atStart => exact ⟨0, by omega, rfl, HV.out, by omega, Own.start w⟩
  case round =>
    obtain ⟨i, hi, rfl, hI⟩ := hrel
    have I1 := Lib.hid hI.out.1
    have I2 := Lib.hid hI.out.2.1
    have I3 := Lib.hid hI.out.2.2
    clear hI
    by_cases hlt : i < n
    case neg => as_aux_lemma =>
      have HE := Lib.hid (show v = true by
        rw [I1.out, List.drop_eq_nil_of_le (by have := HN.out.1; omega), List.drop_eq_nil_of_le (by have := HN.out.2; omega)]; rfl)
      have hni : ¬ (i : Int) < (n : Int) := by omega
      go_wp2_with fail
      go_ret
      exact ⟨by rw [HE.out]; rfl, I3.out.bel⟩
    have hil : i < l.length := by have := HN.out.1; omega
    have hil' : i < l'.length := by have := HN.out.2; omega
    have hix : (i : Int) < (n : Int) := by omega
    obtain ⟨b0, off, rfl, k0, l0⟩ := HR.out.int hil
    obtain ⟨b1, off1, rfl, k1, l1⟩ := HR'.out.int hil'
    have HD := Lib.hid (show v = (decide (l[i] = l'[i]) && decide (l.drop (i + 1) = l'.drop (i + 1))) by
      rw [I1.out, List.drop_eq_getElem_cons hil, List.drop_eq_getElem_cons hil', Bool.eq_iff_iff]
      simp only [decide_eq_true_eq, Bool.and_eq_true, List.cons.injEq])
    generalize l[i] = x at *
    generalize l'[i] = y at *
    have fx0 := fun x : OwnOf w [] => x.out l0 k0
    have fx1 := fun x : OwnOf w [] => x.out l1 k1
    by_cases hx : x = y
    · as_aux_lemma =>
      have HE := Lib.hid (show v = decide (l.drop (i + 1) = l'.drop (i + 1)) by rw [HD.out]; simp [hx])
      subst hx
      go_wp2_with fail
      have hne : Nonempty (OwnOf w []) := ⟨⟨_, I3.out⟩⟩
      refine wp_region_own I3.out (by kernel_rfl) (by kernel_rfl) ?_
      iterate 9 (go_big_quiet_step (fail))
      refine wpQuiet_nil ?_
      rintro w3 ⟨z, hz⟩
      have S3 := Lib.hid (show Own w w3 [] by rw [hz]; exact z.own)
      clear hz z hne fx0 fx1
      go_wp2_with fail
      go_roundg (gk - 1)
      case measure => have := I2.out; omega
      case rel => exact ⟨i + 1, by omega, by go_num, HE.out, by have := I2.out; omega, S3.out⟩
    · as_aux_lemma =>
      have HE := Lib.hid (show v = false by rw [HD.out]; simp [hx])
      have hx2 : ¬ x = y := hx
      go_wp2_with fail
      have hne : Nonempty (OwnOf w []) := ⟨⟨_, I3.out⟩⟩
      refine wp_region_own I3.out (by kernel_rfl) (by kernel_rfl) ?_
      iterate 9 (go_big_quiet_step (fail))
      refine wpQuiet_nil ?_
      rintro w3 ⟨z, hz⟩
      have S3 := Lib.hid (show Own w w3 [] by rw [hz]; exact z.own)
      clear hz z hne fx0 fx1
      go_wp2_with fail
      go_ret
      exact ⟨by rw [HE.out]; rfl, S3.out.bel⟩
theorem sameInts_true (l : List Int) (A A' : Option Addr) (n n' cp cp' : Nat) (w : World) (hr : Rd w A (ints l)) (hr' : Rd w A' (ints l)) (hn : n = l.length) (hn' : n' = l.length) (hbig : n ≤ 4611686018337387904) :
    Calls Try.prog 33 #[.slice A n cp, .slice A' n' cp'] w fun e w' => e = .returned (.bool true) ∧ Below w.heap.size w w' := by
  have h := sameInts_any l l A A' n n' cp cp' w hr hr' hn hn' hbig
  simpa using h
end Go.Proofs.Ytnalbchggjepdaa
