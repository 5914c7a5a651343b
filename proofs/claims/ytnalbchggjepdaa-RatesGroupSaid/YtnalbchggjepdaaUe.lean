/- Rates: thresholds and chances of the reference. No condition. -/
import Derived.Test.YtnalbchggjepdaaUd
namespace Go.Proofs.Ytnalbchggjepdaa
open Go.RowKit Go.Shelf
attribute [local go_sem] Oper.semAt_some

set_option maxRecDepth 100000 in
set_option maxHeartbeats 2000000 in
theorem refLimit_any (A : Option Addr) (l : List Int) (n c : Nat) (num den : Int) (w : World) (hr : Rd w A (ints l)) (hn : n = l.length) (hnb : n ≤ 1000) (hl : frB 0 1000 l = true)
    (hnum : 0 ≤ num ∧ num ≤ den) (hden : 1 ≤ den ∧ den ≤ 1000) :
    Calls Try.prog 59 #[.slice A n c, .agg #[.int .i64 num, .int .i64 den]] w fun e w' => e = .returned (.int .i64 (limF l num den)) ∧ Below w.heap.size w w' := by
  obtain ⟨r, hrr⟩ : ∃ r, r = num * ((n : Int) + 1) / den := ⟨_, rfl⟩
  have p1 : num * ((n : Int) + 1) ≤ den * ((n : Int) + 1) := Int.mul_le_mul_of_nonneg_right hnum.2 (by omega)
  have p0 : 0 ≤ num * ((n : Int) + 1) := Int.mul_nonneg hnum.1 (by omega)
  have r0 : 0 ≤ r := by rw [hrr]; exact Int.ediv_nonneg p0 (by omega)
  have r1 : r ≤ (n : Int) + 1 := by
    rw [hrr]
    exact Int.le_trans (Int.ediv_le_ediv (by omega) p1) (by rw [Int.mul_ediv_cancel_left _ (by omega)]; omega)
  have HL := Lib.hid (show limF l num den = if r = 0 then -1 else if (n : Int) < r then 1000 else (srtI l).getD (r - 1).toNat 0 - 1 by unfold limF; rw [hrr, hn])
  have S0 := Lib.hid ((Own.start w).new' 23 #[.int .i64 num, .int .i64 den] (B := w.heap.size) rfl)
  have KP := Lib.hid (fun W => refPlace_any num den n W hnb hnum hden)
  rw [← hrr] at KP
  have KA := Lib.hid (fun s W (h : Below w.heap.size w W) => refAtMost_any A l n c s W (hr.below h) hn (by omega))
  have HN := Lib.hid hn
  have HF := Lib.hid hl
  clear hn hr hl hrr hnum hden p1 p0
  obtain ⟨c0, c1, _⟩ := (S0.out.bx 0 rfl).c2
  by_cases e0 : r = 0
  · subst e0
    rw [if_pos rfl] at HL
    go_enter Try.func59, Try.ntmps59
    go_wp2_with fail
    refine (KP.out _).mono ?_
    rintro e w1 ⟨rfl, hb1⟩
    go_wp2_with fail
    go_ret
    exact ⟨by rw [HL.out]; rfl, (S0.out.ext hb1).bel⟩
  have e0' : (r == 0) = false := by simpa using e0
  by_cases e1 : (n : Int) < r
  · rw [if_neg e0, if_pos e1] at HL
    go_enter Try.func59, Try.ntmps59
    go_wp2_with fail
    refine (KP.out _).mono ?_
    rintro e w1 ⟨rfl, hb1⟩
    go_wp2_with fail
    go_ret
    exact ⟨by rw [HL.out]; rfl, (S0.out.ext hb1).bel⟩
  rw [if_neg e0, if_neg e1] at HL
  obtain ⟨k, hk⟩ : ∃ k : Nat, r = (k : Int) + 1 := ⟨(r - 1).toNat, by omega⟩
  subst hk
  have hkn : k < (srtI l).length := by rw [srtI_len, ← HN.out]; omega
  have HV := Lib.hid (show limF l num den = (srtI l)[k] - 1 by
    rw [HL.out, show ((k : Int) + 1 - 1).toNat = k by omega, List.getD_eq_getElem?_getD, List.getElem?_eq_getElem hkn]; rfl)
  have HB := show 0 ≤ (srtI l)[k] ∧ (srtI l)[k] ≤ 1000 by
    have h1 : (srtI l)[k] ∈ l := (List.mergeSort_perm l _).mem_iff.1 (List.getElem_mem hkn)
    have h2 := List.all_eq_true.1 HF.out _ h1
    simpa [inB] using h2
  have HG := Lib.hid (fun s (h : (srtI l)[k] ≤ s) => atm_ge hkn h)
  have HT := Lib.hid (fun s (h : s < (srtI l)[k]) => atm_lt hkn h)
  have HAL := Lib.hid (fun s => atm_le l s)
  generalize (srtI l)[k] = v at *
  obtain ⟨v, rfl⟩ := Int.eq_ofNat_of_zero_le HB.1
  have v1 : v ≤ 1000 := by omega
  clear hkn HL HF HB e0
  go_enter Try.func59, Try.ntmps59
  go_wp2_with fail
  refine (KP.out _).mono ?_
  rintro e w1 ⟨rfl, hb1⟩
  have S1 := Lib.hid (S0.out.ext hb1)
  clear hb1 S0 c0 c1
  go_wp2_with fail
  go_loopg [6] v (fun q u6 wr => ∃ s : Nat, s ≤ v ∧ u6 = .int .i64 (s : Nat) ∧ Hid (s + q = v ∧ Own w wr [box w.heap.size 23 [.int .i64 num, .int .i64 den]]))
  case atStart => exact ⟨0, Nat.zero_le _, rfl, by omega, S1.out⟩
  case round =>
    obtain ⟨s, hs, rfl, hI⟩ := hrel
    have I1 := Lib.hid hI.out.1
    have I2 := Lib.hid hI.out.2
    clear hI S1
    by_cases hlt : s < v
    · have hA := HT.out (s : Int) (by omega)
      have K1 := Lib.hid (KA.out (s : Int) wr I2.out.bel)
      generalize atm l (s : Int) = a at *
      have hai : (a : Int) < (k : Int) + 1 := by omega
      go_wp2_with fail
      refine K1.out.mono ?_
      rintro e w2 ⟨rfl, hb2⟩
      have I3 := Lib.hid (I2.out.ext hb2)
      clear hb2 K1
      go_wp2_with fail
      go_roundg (gk - 1)
      case measure => have := I1.out; omega
      case rel => exact ⟨s + 1, by omega, by go_num, by have := I1.out; omega, I3.out⟩
    · obtain rfl : s = v := by omega
      have hA := HG.out (s : Int) (by omega)
      have K1 := Lib.hid (KA.out (s : Int) wr I2.out.bel)
      generalize atm l (s : Int) = a at *
      have hai : ¬ (a : Int) < (k : Int) + 1 := by omega
      have z1 : IntKind.i64.wrap ((s : Int) - 1) = (s : Int) - 1 := IntWalk.i64_in _ (by omega)
      go_wp2_with fail
      refine K1.out.mono ?_
      rintro e w2 ⟨rfl, hb2⟩
      have I3 := Lib.hid (I2.out.ext hb2)
      clear hb2 K1
      go_wp2_with fail
      go_ret
      exact ⟨by rw [HV.out]; rfl, I3.out.bel⟩
set_option maxRecDepth 100000 in
theorem refShare_any (num den : Int) (w : World) : Calls Try.prog 30 #[.agg #[.int .i64 num, .int .i64 den]] w fun e w' => e = .returned (.int .i64 (errA (shareB num den))) ∧ Below w.heap.size w w' := by
  have K := Lib.hid (fun W => validShare_any num den W)
  generalize shareB num den = b at *
  rcases b with _ | _
  all_goals
    go_enter Try.func30, Try.ntmps30
    go_wp2_with fail
    refine (K.out _).mono ?_
    rintro e w1 ⟨rfl, hb1⟩
    go_wp2_with fail
    go_ret
    exact ⟨rfl, below_step (below_alloc _ _) hb1⟩
set_option maxRecDepth 100000 in
set_option maxHeartbeats 2000000 in
theorem refThreshold_any (A : Option Addr) (l : List Int) (n c : Nat) (num den : Int) (w : World) (hr : Rd w A (ints l)) (hn : n = l.length) :
    Calls Try.prog 26 #[.slice A n c, .agg #[.int .i64 num, .int .i64 den]] w fun e w' => e = .returned (.tuple #[.int .i64 (thrF l num den).1, .int .i64 (thrF l num den).2]) ∧ Below w.heap.size w w' := by
  have S0 := Lib.hid ((Own.start w).new' 23 #[.int .i64 num, .int .i64 den] (B := w.heap.size) rfl)
  have K1 := Lib.hid (refScores_any A l n c _ (hr.below S0.out.bel) hn)
  rcases scoE_cases l with h1 | h1
  · obtain ⟨b1, b2⟩ := scoE_ok h1
    have K2 := Lib.hid (fun W => validShare_any num den W)
    cases h2 : shareB num den
    · have HE := Lib.hid (show thrF l num den = (0, 2) by unfold thrF; rw [if_pos h1, h2]; rfl)
      rw [h1] at K1
      rw [h2] at K2
      clear hr hn h1 h2
      go_enter Try.func26, Try.ntmps26
      go_wp2_with fail
      refine K1.out.mono ?_
      rintro e w1 ⟨rfl, hb1⟩
      have S1 := Lib.hid (S0.out.ext hb1)
      obtain ⟨c0, c1, _⟩ := (S1.out.bx 0 rfl).c2
      clear hb1 K1 S0
      go_wp2_with fail
      refine (K2.out _).mono ?_
      rintro e w2 ⟨rfl, hb2⟩
      have S2 := Lib.hid (S1.out.ext hb2)
      clear hb2 K2 S1 c0 c1
      go_wp2_with fail
      go_ret2
      exact ⟨by rw [HE.out]; rfl, S2.out.bel⟩
    · have HE := Lib.hid (show thrF l num den = (limF l num den, 0) by unfold thrF; rw [if_pos h1, h2]; rfl)
      obtain ⟨s1, s2⟩ := share_of h2
      have K3 := Lib.hid (fun W (hb : Below w.heap.size w W) => refLimit_any A l n c num den W (hr.below hb) hn (by omega) b2 s1 s2)
      rw [h1] at K1
      rw [h2] at K2
      clear hr hn h1 h2 s1 s2
      go_enter Try.func26, Try.ntmps26
      go_wp2_with fail
      refine K1.out.mono ?_
      rintro e w1 ⟨rfl, hb1⟩
      have S1 := Lib.hid (S0.out.ext hb1)
      obtain ⟨c0, c1, _⟩ := (S1.out.bx 0 rfl).c2
      clear hb1 K1 S0
      go_wp2_with fail
      refine (K2.out _).mono ?_
      rintro e w2 ⟨rfl, hb2⟩
      have S2 := Lib.hid (S1.out.ext hb2)
      clear hb2 K2 S1 c0 c1
      obtain ⟨c0, c1, _⟩ := (S2.out.bx 0 rfl).c2
      go_wp2_with fail
      refine (K3.out _ S2.out.bel).mono ?_
      rintro e w3 ⟨rfl, hb3⟩
      have S3 := Lib.hid (S2.out.ext hb3)
      clear hb3 K3 S2 c0 c1
      go_wp2_with fail
      go_ret2
      exact ⟨by rw [HE.out]; rfl, S3.out.bel⟩
  · have h0 : ¬ scoE l = 0 := by omega
    have HE := Lib.hid (show thrF l num den = (0, scoE l) by unfold thrF; rw [if_neg h0])
    generalize scoE l = v at *
    clear hr hn
    rcases h1 with rfl | rfl
    all_goals
      go_enter Try.func26, Try.ntmps26
      go_wp2_with fail
      refine K1.out.mono ?_
      rintro e w1 ⟨rfl, hb1⟩
      have S1 := Lib.hid (S0.out.ext hb1)
      clear hb1 K1 S0
      go_wp2_with fail
      go_ret2
      exact ⟨by rw [HE.out]; rfl, S1.out.bel⟩
set_option maxRecDepth 100000 in
set_option maxHeartbeats 2000000 in
theorem refChance_any (A : Option Addr) (l : List Int) (n c : Nat) (s : Int) (w : World) (hr : Rd w A (ints l)) (hn : n = l.length) :
    Calls Try.prog 28 #[.slice A n c, .int .i64 s] w fun e w' => e = .returned (.tuple #[.agg #[.int .i64 (chaF l s).1.1, .int .i64 (chaF l s).1.2], .int .i64 (chaF l s).2]) ∧ Below w.heap.size w w' := by
  have S0 := Lib.hid ((Own.start w).new' 23 #[.int .i64 0, .int .i64 0] (B := w.heap.size) rfl)
  have K1 := Lib.hid (refScores_any A l n c _ (hr.below S0.out.bel) hn)
  rcases scoE_cases l with h1 | h1
  · obtain ⟨b1, b2⟩ := scoE_ok h1
    have K2 := Lib.hid (fun W => within_any 0 1000 s W)
    rw [h1] at K1
    cases h2 : inB 0 1000 s
    · have HE := Lib.hid (show chaF l s = ((0, 0), 2) by unfold chaF; rw [if_pos h1, h2]; rfl)
      rw [h2] at K2
      clear hr hn h1 h2
      go_enter Try.func28, Try.ntmps28
      go_wp2_with fail
      refine K1.out.mono ?_
      rintro e w1 ⟨rfl, hb1⟩
      have S1 := Lib.hid (S0.out.ext hb1)
      clear hb1 K1 S0
      obtain ⟨c0, c1, cf⟩ := (S1.out.bx 0 rfl).c2
      have cl := (S1.out.bx 0 rfl).2.2
      go_wp2_with fail
      refine (K2.out _).mono ?_
      rintro e w' ⟨rfl, rfl⟩
      go_wp2_with fail
      have S9 := Lib.hid ((S1.out.set 0 rfl 0 (.int .i64 0)).set 0 rfl 1 (.int .i64 0))
      obtain ⟨q0, q1, _⟩ := (S9.out.bx 0 rfl).c2
      refine bodyPost_ret (v := .tuple #[.agg #[.int .i64 0, .int .i64 0], .int .i64 2]) (by simp [results, Try.results28, go_sem, q0, q1]) rfl ⟨by rw [HE.out], S9.out.bel⟩
    · have HE := Lib.hid (show chaF l s = ((1 + ((atm l s : Nat) : Int), (n : Int) + 1), 0) by unfold chaF; rw [if_pos h1, h2, hn, Int.add_comm (l.length : Int)]; rfl)
      rw [h2] at K2
      have K3 := Lib.hid (fun W (h : Below w.heap.size w W) => refAtMost_any A l n c s W (hr.below h) hn (by omega))
      have ha := atm_le l s
      have hb : n ≤ 60 := by omega
      generalize atm l s = a at *
      have z1 : IntKind.i64.wrap ((n : Int) + 1) = (n : Int) + 1 := IntWalk.i64_in _ (by omega)
      have z2 : IntKind.i64.wrap (1 + (a : Int)) = 1 + (a : Int) := IntWalk.i64_in _ (by omega)
      clear hr hn h1 h2 ha b1
      go_enter Try.func28, Try.ntmps28
      go_wp2_with fail
      refine K1.out.mono ?_
      rintro e w1 ⟨rfl, hb1⟩
      have S1 := Lib.hid (S0.out.ext hb1)
      clear hb1 K1 S0
      go_wp2_with fail
      refine (K2.out _).mono ?_
      rintro e w' ⟨rfl, rfl⟩
      go_wp2_with fail
      refine (K3.out _ S1.out.bel).mono ?_
      rintro e w2 ⟨rfl, hb2⟩
      have S2 := Lib.hid (S1.out.ext hb2)
      clear hb2 K3 S1
      obtain ⟨c0, c1, cf⟩ := (S2.out.bx 0 rfl).c2
      have cl := (S2.out.bx 0 rfl).2.2
      go_wp2_with fail
      have S9 := Lib.hid ((S2.out.set 0 rfl 0 (.int .i64 (1 + (a : Int)))).set 0 rfl 1 (.int .i64 ((n : Int) + 1)))
      obtain ⟨q0, q1, _⟩ := (S9.out.bx 0 rfl).c2
      refine bodyPost_ret (v := .tuple #[.agg #[.int .i64 (1 + (a : Int)), .int .i64 ((n : Int) + 1)], .int .i64 0]) (by simp [results, Try.results28, go_sem, q0, q1]) rfl ⟨by rw [HE.out], S9.out.bel⟩
  · have h0 : ¬ scoE l = 0 := by omega
    have HE := Lib.hid (show chaF l s = ((0, 0), scoE l) by unfold chaF; rw [if_neg h0])
    generalize scoE l = v at *
    clear hr hn
    rcases h1 with rfl | rfl
    · go_enter Try.func28, Try.ntmps28
      go_wp2_with fail
      refine K1.out.mono ?_
      rintro e w1 ⟨rfl, hb1⟩
      have S1 := Lib.hid (S0.out.ext hb1)
      clear hb1 K1 S0
      obtain ⟨c0, c1, cf⟩ := (S1.out.bx 0 rfl).c2
      have cl := (S1.out.bx 0 rfl).2.2
      go_wp2_with fail
      have S9 := Lib.hid ((S1.out.set 0 rfl 0 (.int .i64 0)).set 0 rfl 1 (.int .i64 0))
      obtain ⟨q0, q1, _⟩ := (S9.out.bx 0 rfl).c2
      refine bodyPost_ret (v := .tuple #[.agg #[.int .i64 0, .int .i64 0], .int .i64 2]) (by simp [results, Try.results28, go_sem, q0, q1]) rfl ⟨by rw [HE.out], S9.out.bel⟩
    · go_enter Try.func28, Try.ntmps28
      go_wp2_with fail
      refine K1.out.mono ?_
      rintro e w1 ⟨rfl, hb1⟩
      have S1 := Lib.hid (S0.out.ext hb1)
      clear hb1 K1 S0
      obtain ⟨c0, c1, cf⟩ := (S1.out.bx 0 rfl).c2
      have cl := (S1.out.bx 0 rfl).2.2
      go_wp2_with fail
      have S9 := Lib.hid ((S1.out.set 0 rfl 0 (.int .i64 0)).set 0 rfl 1 (.int .i64 0))
      obtain ⟨q0, q1, _⟩ := (S9.out.bx 0 rfl).c2
      refine bodyPost_ret (v := .tuple #[.agg #[.int .i64 0, .int .i64 0], .int .i64 4]) (by simp [results, Try.results28, go_sem, q0, q1]) rfl ⟨by rw [HE.out], S9.out.bel⟩
end Go.Proofs.Ytnalbchggjepdaa
