/- Rates: lists of scores, thresholds and chances of the program. No condition. -/
import Derived.Test.YtnalbchggjepdaaUb
import Derived.Test.YtnalbchggjepdaaTc
namespace Go.Proofs.Ytnalbchggjepdaa
open Go.RowKit Go.Shelf
attribute [local go_sem] Oper.semAt_some

/-- The number of the error of a list of scores, or 0. -/
def scoE (l : List Int) : Int := if 60 < l.length then 4 else if frB 0 1000 l then 0 else 2
theorem scoE_cases (l : List Int) : scoE l = 0 ∨ scoE l = 2 ∨ scoE l = 4 := by
  unfold scoE
  split
  · exact .inr (.inr rfl)
  · split
    · exact .inl rfl
    · exact .inr (.inl rfl)
theorem scoE_ok {l : List Int} (h : scoE l = 0) : l.length ≤ 60 ∧ frB 0 1000 l = true := by
  unfold scoE at h
  split at h
  · omega
  · split at h
    · exact ⟨by omega, by assumption⟩
    · omega
theorem share_of {num den : Int} (h : shareB num den = true) : (0 ≤ num ∧ num ≤ den) ∧ 1 ≤ den ∧ den ≤ 1000 := by
  simp only [shareB, Bool.and_eq_true, inB, decide_eq_true_eq] at h
  omega
set_option maxRecDepth 100000 in
theorem checkScores_any (A : Option Addr) (l : List Int) (n c : Nat) (w : World) (hr : Rd w A (ints l)) (hn : n = l.length) (hl : n ≤ 4611686018427387904) :
    Calls Try.prog 31 #[.slice A n c] w fun e w' => e = .returned (.int .i64 (scoE l)) ∧ Below w.heap.size w w' := by
  by_cases h1 : 60 < n
  · have HE := Lib.hid (show scoE l = 4 by unfold scoE; rw [if_pos (by omega)])
    have h1' : (60 : Int) < (n : Int) := by omega
    clear hr hn
    go_enter Try.func31, Try.ntmps31
    go_wp2_with fail
    go_ret
    exact ⟨by rw [HE.out]; rfl, Below.refl _ _⟩
  · have HE := Lib.hid (show scoE l = if frB 0 1000 l then 0 else 2 by unfold scoE; rw [if_neg (by omega)])
    have K := Lib.hid (from_any 0 1000 A l n c w hr hn hl)
    have h1' : ¬ (60 : Int) < (n : Int) := by omega
    clear hr hn
    generalize frB 0 1000 l = b at *
    go_enter Try.func31, Try.ntmps31
    go_wp2_with fail
    refine K.out.mono ?_
    rintro e w1 ⟨rfl, hb1⟩
    rcases b with _ | _
    · go_wp2_with fail
      go_ret
      exact ⟨by rw [HE.out]; rfl, hb1⟩
    · go_wp2_with fail
      go_ret
      exact ⟨by rw [HE.out]; rfl, hb1⟩
/-- The threshold, and the error. -/
def thrF (l : List Int) (num den : Int) : Int × Int := if scoE l = 0 then if shareB num den then (limF l num den, 0) else (0, 2) else (0, scoE l)
set_option maxRecDepth 100000 in
set_option maxHeartbeats 2000000 in
theorem threshold_any (A : Option Addr) (l : List Int) (n c : Nat) (num den : Int) (w : World) (hr : Rd w A (ints l)) (hn : n = l.length) (hl : n ≤ 4611686018427387904) :
    Calls Try.prog 25 #[.slice A n c, .agg #[.int .i64 num, .int .i64 den]] w fun e w' => e = .returned (.tuple #[.int .i64 (thrF l num den).1, .int .i64 (thrF l num den).2]) ∧ Below w.heap.size w w' := by
  have S0 := Lib.hid ((Own.start w).new' 23 #[.int .i64 num, .int .i64 den] (B := w.heap.size) rfl)
  have K1 := Lib.hid (checkScores_any A l n c _ (hr.below S0.out.bel) hn hl)
  rcases scoE_cases l with h1 | h1
  · obtain ⟨b1, b2⟩ := scoE_ok h1
    cases h2 : shareB num den
    · have HE := Lib.hid (show thrF l num den = (0, 2) by unfold thrF; rw [if_pos h1, h2]; rfl)
      have K2 := Lib.hid (fun W => checkShare_any num den W)
      rw [h1] at K1
      rw [h2] at K2
      clear hr hn h1 h2
      go_enter Try.func25, Try.ntmps25
      go_wp2_with fail
      refine K1.out.mono ?_
      rintro e w1 ⟨rfl, hb1⟩
      have S1 := Lib.hid (S0.out.ext hb1)
      obtain ⟨c0, c1, _⟩ := (S1.out.bx 0 rfl).c2
      clear hb1 K1 S0
      go_wp2_with fail
      refine (K2.out _).mono ?_
      rintro e w2 ⟨rfl, hb2⟩
      have S2 := Lib.hid (S1.out.ext hb2)
      clear hb2 K2 S1 c0 c1
      go_wp2_with fail
      go_ret2
      exact ⟨by rw [HE.out]; rfl, S2.out.bel⟩
    · have HE := Lib.hid (show thrF l num den = (limF l num den, 0) by unfold thrF; rw [if_pos h1, h2]; rfl)
      have K2 := Lib.hid (fun W => checkShare_any num den W)
      obtain ⟨s1, s2⟩ := share_of h2
      have K3 := Lib.hid (fun W (hb : Below w.heap.size w W) => limit_any A l n c num den W (hr.below hb) hn (by omega) b2 s1 s2)
      rw [h1] at K1
      rw [h2] at K2
      clear hr hn h1 h2 s1 s2
      go_enter Try.func25, Try.ntmps25
      go_wp2_with fail
      refine K1.out.mono ?_
      rintro e w1 ⟨rfl, hb1⟩
      have S1 := Lib.hid (S0.out.ext hb1)
      obtain ⟨c0, c1, _⟩ := (S1.out.bx 0 rfl).c2
      clear hb1 K1 S0
      go_wp2_with fail
      refine (K2.out _).mono ?_
      rintro e w2 ⟨rfl, hb2⟩
      have S2 := Lib.hid (S1.out.ext hb2)
      clear hb2 K2 S1 c0 c1
      obtain ⟨c0, c1, _⟩ := (S2.out.bx 0 rfl).c2
      go_wp2_with fail
      refine (K3.out _ S2.out.bel).mono ?_
      rintro e w3 ⟨rfl, hb3⟩
      have S3 := Lib.hid (S2.out.ext hb3)
      clear hb3 K3 S2 c0 c1
      go_wp2_with fail
      go_ret2
      exact ⟨by rw [HE.out]; rfl, S3.out.bel⟩
  · have h0 : ¬ scoE l = 0 := by omega
    have HE := Lib.hid (show thrF l num den = (0, scoE l) by unfold thrF; rw [if_neg h0])
    generalize scoE l = v at *
    clear hr hn
    rcases h1 with rfl | rfl
    all_goals
      go_enter Try.func25, Try.ntmps25
      go_wp2_with fail
      refine K1.out.mono ?_
      rintro e w1 ⟨rfl, hb1⟩
      have S1 := Lib.hid (S0.out.ext hb1)
      clear hb1 K1 S0
      go_wp2_with fail
      go_ret2
      exact ⟨by rw [HE.out]; rfl, S1.out.bel⟩
/-- How many numbers are at most a number. -/
def atm (l : List Int) (s : Int) : Nat := l.countP fun x => decide (x ≤ s)
theorem atm_le (l : List Int) (s : Int) : atm l s ≤ l.length := List.countP_le_length
theorem atm_take {l : List Int} {k : Nat} (h : k < l.length) (s : Int) : atm (l.take (k + 1)) s = atm (l.take k) s + if l[k] ≤ s then 1 else 0 := by
  unfold atm
  rw [List.take_succ_eq_append_getElem h, List.countP_append, List.countP_singleton]
  by_cases hk : l[k] ≤ s <;> simp [hk]
/-- The chance of a score, and the error. -/
def chaF (l : List Int) (s : Int) : (Int × Int) × Int :=
  if scoE l = 0 then if inB 0 1000 s then ((1 + ((atm l s : Nat) : Int), 1 + (l.length : Int)), 0) else ((0, 0), 2) else ((0, 0), scoE l)
set_option maxRecDepth 100000 in
set_option maxHeartbeats 2000000 in
theorem chance_any (A : Option Addr) (l : List Int) (n c : Nat) (s : Int) (w : World) (hr : Rd w A (ints l)) (hn : n = l.length) (hl : n ≤ 4611686018427387904) :
    Calls Try.prog 27 #[.slice A n c, .int .i64 s] w fun e w' => e = .returned (.tuple #[.agg #[.int .i64 (chaF l s).1.1, .int .i64 (chaF l s).1.2], .int .i64 (chaF l s).2]) ∧ Below w.heap.size w w' := by
  have S0 := Lib.hid ((Own.start w).new' 23 #[.int .i64 0, .int .i64 0] (B := w.heap.size) rfl)
  have K1 := Lib.hid (checkScores_any A l n c _ (hr.below S0.out.bel) hn hl)
  rcases scoE_cases l with h1 | h1
  · obtain ⟨b1, b2⟩ := scoE_ok h1
    cases h2 : inB 0 1000 s
    · have HE := Lib.hid (show chaF l s = ((0, 0), 2) by unfold chaF; rw [if_pos h1, h2]; rfl)
      have H2 := Lib.hid h2
      rw [h1] at K1
      clear hr hn h1 h2
      go_enter Try.func27, Try.ntmps27
      go_wp2_with fail
      refine K1.out.mono ?_
      rintro e w1 ⟨rfl, hb1⟩
      have S1 := Lib.hid (S0.out.ext hb1)
      clear hb1 K1 S0
      go_wp2_with fail
      refine (from1 0 1000 s _ _ H2.out rfl).mono ?_
      rintro e w2 ⟨rfl, hb2⟩
      have S2 := Lib.hid (S1.out.ext hb2)
      clear hb2 S1
      obtain ⟨c0, c1, cf⟩ := (S2.out.bx 0 rfl).c2
      have cl := (S2.out.bx 0 rfl).2.2
      go_wp2_with fail
      have S9 := Lib.hid ((S2.out.set 0 rfl 0 (.int .i64 0)).set 0 rfl 1 (.int .i64 0))
      obtain ⟨q0, q1, _⟩ := (S9.out.bx 0 rfl).c2
      refine bodyPost_ret (v := .tuple #[.agg #[.int .i64 0, .int .i64 0], .int .i64 2]) (by simp [results, Try.results27, go_sem, q0, q1]) rfl ⟨by rw [HE.out], S9.out.bel⟩
    · have HE := Lib.hid (show chaF l s = ((1 + ((atm l s : Nat) : Int), 1 + (n : Int)), 0) by unfold chaF; rw [if_pos h1, h2, hn]; rfl)
      have H2 := Lib.hid h2
      rw [h1] at K1
      have HN := Lib.hid hn
      have HR := Lib.hid hr
      have hb : n ≤ 60 := by omega
      clear hr hn h1 h2 b1 b2 hl
      have z1 : IntKind.i64.wrap (1 + (n : Int)) = 1 + (n : Int) := IntWalk.i64_in _ (by omega)
      go_enter Try.func27, Try.ntmps27
      go_wp2_with fail
      refine K1.out.mono ?_
      rintro e w1 ⟨rfl, hb1⟩
      have S1 := Lib.hid (S0.out.ext hb1)
      clear hb1 K1 S0
      go_wp2_with fail
      refine (from1 0 1000 s _ _ H2.out rfl).mono ?_
      rintro e w2 ⟨rfl, hb2⟩
      have S2 := Lib.hid (S1.out.ext hb2)
      clear hb2 S1
      have S3 := Lib.hid (S2.out.new' 23 #[.int .i64 1, .int .i64 (1 + (n : Int))] (B := w2.heap.size) rfl)
      go_wp2_with fail
      obtain ⟨B2, hB2⟩ : ∃ B2, B2 = w2.heap.size := ⟨_, rfl⟩
      rw [← hB2] at S3 ⊢
      clear hB2 z1
      generalize w2.alloc _ = w3 at *
      clear S2
      go_loopg [27] n (fun q u27 wr => ∃ k : Nat, k ≤ n ∧ u27 = .int .i64 (k : Nat) ∧ Hid (k + q = n ∧ Own w wr [box B2 23 [.int .i64 (1 + (atm (l.take k) s : Nat)), .int .i64 (1 + (n : Int))], box w.heap.size 23 [.int .i64 0, .int .i64 0]]))
      case atStart => exact ⟨0, Nat.zero_le _, rfl, by omega, S3.out⟩
      case round =>
        obtain ⟨k, hk, rfl, hI⟩ := hrel
        have I1 := Lib.hid hI.out.1
        have I2 := Lib.hid hI.out.2
        clear hI S3
        by_cases hlt : k < n
        · have hlt' : k < l.length := by rw [← HN.out]; exact hlt
          obtain ⟨b, off, rfl, hbs, hc⟩ := (HR.out.below I2.out.bel).at_ (ints_get hlt')
          have hc0 := hc k _ (ints_get hlt')
          clear hc
          have HA := Lib.hid (atm_take hlt' s)
          have ha0 := atm_le (l.take k) s
          rw [List.length_take] at ha0
          generalize l[k] = x at *
          generalize atm (l.take k) s = a at *
          have hki : (k : Int) < (n : Int) := by omega
          obtain ⟨c0, c1, cf⟩ := (I2.out.bx 0 rfl).c2
          have cl := (I2.out.bx 0 rfl).2.2
          have ha : a ≤ 60 := by omega
          clear ha0 hlt'
          by_cases hx : x ≤ s
          · have HA2 := Lib.hid (show (1 + (a : Int)) + 1 = 1 + ((atm (l.take (k + 1)) s : Nat) : Int) by rw [HA.out, if_pos hx]; omega)
            have z2 : IntKind.i64.wrap (1 + (a : Int) + 1) = 1 + (a : Int) + 1 := IntWalk.i64_in _ (by omega)
            have I3 := Lib.hid (I2.out.set 0 rfl 0 (.int .i64 (1 + (a : Int) + 1)))
            go_wp2_with fail
            go_roundg (gk - 1)
            case measure => have := I1.out; omega
            case rel => exact ⟨k + 1, by omega, by go_num, by have := I1.out; omega, by rw [← HA2.out]; exact I3.out⟩
          · have HA2 := Lib.hid (show a = atm (l.take (k + 1)) s by rw [HA.out, if_neg hx]; rfl)
            go_wp2_with fail
            go_roundg (gk - 1)
            case measure => have := I1.out; omega
            case rel => exact ⟨k + 1, by omega, by go_num, by have := I1.out; omega, by rw [← HA2.out]; exact I2.out⟩
        · have hni : ¬ (k : Int) < (n : Int) := by omega
          have HA := Lib.hid (show atm (l.take k) s = atm l s by rw [List.take_of_length_le (by rw [← HN.out]; omega)])
          rw [HA.out] at I2
          obtain ⟨c0, c1, cf⟩ := (I2.out.bx 0 rfl).c2
          obtain ⟨d0, d1, df⟩ := (I2.out.bx 1 rfl).c2
          have dl := (I2.out.bx 1 rfl).2.2
          go_wp2_with fail
          have S9 := Lib.hid ((I2.out.set 1 rfl 0 (.int .i64 (1 + ((atm l s : Nat) : Int)))).set 1 rfl 1 (.int .i64 (1 + (n : Int))))
          obtain ⟨q0, q1, _⟩ := (S9.out.bx 1 rfl).c2
          refine bodyPost_ret (v := .tuple #[.agg #[.int .i64 (1 + ((atm l s : Nat) : Int)), .int .i64 (1 + (n : Int))], .int .i64 0]) (by simp [results, Try.results27, go_sem, q0, q1]) rfl ⟨by rw [HE.out], S9.out.bel⟩
  · have h0 : ¬ scoE l = 0 := by omega
    have HE := Lib.hid (show chaF l s = ((0, 0), scoE l) by unfold chaF; rw [if_neg h0])
    generalize scoE l = v at *
    clear hr hn
    rcases h1 with rfl | rfl
    · go_enter Try.func27, Try.ntmps27
      go_wp2_with fail
      refine K1.out.mono ?_
      rintro e w1 ⟨rfl, hb1⟩
      have S1 := Lib.hid (S0.out.ext hb1)
      clear hb1 K1 S0
      obtain ⟨c0, c1, cf⟩ := (S1.out.bx 0 rfl).c2
      have cl := (S1.out.bx 0 rfl).2.2
      go_wp2_with fail
      have S9 := Lib.hid ((S1.out.set 0 rfl 0 (.int .i64 0)).set 0 rfl 1 (.int .i64 0))
      obtain ⟨q0, q1, _⟩ := (S9.out.bx 0 rfl).c2
      refine bodyPost_ret (v := .tuple #[.agg #[.int .i64 0, .int .i64 0], .int .i64 2]) (by simp [results, Try.results27, go_sem, q0, q1]) rfl ⟨by rw [HE.out], S9.out.bel⟩
    · go_enter Try.func27, Try.ntmps27
      go_wp2_with fail
      refine K1.out.mono ?_
      rintro e w1 ⟨rfl, hb1⟩
      have S1 := Lib.hid (S0.out.ext hb1)
      clear hb1 K1 S0
      obtain ⟨c0, c1, cf⟩ := (S1.out.bx 0 rfl).c2
      have cl := (S1.out.bx 0 rfl).2.2
      go_wp2_with fail
      have S9 := Lib.hid ((S1.out.set 0 rfl 0 (.int .i64 0)).set 0 rfl 1 (.int .i64 0))
      obtain ⟨q0, q1, _⟩ := (S9.out.bx 0 rfl).c2
      refine bodyPost_ret (v := .tuple #[.agg #[.int .i64 0, .int .i64 0], .int .i64 4]) (by simp [results, Try.results27, go_sem, q0, q1]) rfl ⟨by rw [HE.out], S9.out.bel⟩
end Go.Proofs.Ytnalbchggjepdaa
