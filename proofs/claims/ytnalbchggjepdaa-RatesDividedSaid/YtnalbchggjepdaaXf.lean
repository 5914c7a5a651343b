/- Rates: the walk of RatesShare. No condition. -/
import Derived.Test.YtnalbchggjepdaaXe
namespace Go.Proofs.Ytnalbchggjepdaa
open Go.RowKit Go.Shelf
attribute [local go_sem] Oper.semAt_some

/-- Whether groups with k hits in the first one differ. -/
def isD (n h m num den k : Nat) : Bool := decide (tail k n h m * den ≤ num * pas (n + m) n)
/-- What the groups that differ add. -/
def difT (n h m num den i : Nat) : Nat := if isD n h m num den i = true then term n h m i else 0
theorem part_le {n h m lo j : Nat} (hh : h ≤ n + m) (hj : lo + j ≤ n + 1) : sumF (term n h m) lo j ≤ pas (n + m) n := by
  refine Nat.le_trans ?_ (tail_le_ways (k := lo) hh)
  unfold tail
  obtain ⟨d, hd⟩ : ∃ d, n + 1 - lo = j + d := ⟨n + 1 - lo - j, by omega⟩
  rw [hd, sumF_split]
  omega
theorem dif_le {n h m num den lo : Nat} (j : Nat) : sumF (difT n h m num den) lo j ≤ sumF (term n h m) lo j :=
  sumF_mono _ _ _ _ fun i _ _ => by unfold difT; split <;> omega
theorem term_low {n h m i : Nat} (hi : i < h - m) (hh : h ≤ n + m) : term n h m i = 0 := by
  unfold term
  rw [pas_gt (n + m - h) (n - i) (by omega), Nat.mul_zero]
theorem term_high {n h m i : Nat} (hi : h < i) : term n h m i = 0 := by
  unfold term
  rw [pas_gt h i hi, Nat.zero_mul]
/-- RatesShare in plain words. -/
theorem shares_all {n h m num den : Nat} (hh : h ≤ n + m) : sumF (term n h m) (h - m) (min n h + 1 - (h - m)) = pas (n + m) n ∧ sumF (difT n h m num den) (h - m) (min n h + 1 - (h - m)) * den ≤ num * pas (n + m) n := by
  refine ⟨sum_all hh (fun i hi => term_low hi hh) (by omega) (fun i h1 h2 => term_high (by omega)), ?_⟩
  have := share_law n h m num den (h - m) (min n h + 1 - (h - m)) (by omega) (isD n h m num den) (fun k _ _ => rfl) (by omega)
  exact this
theorem choose_sub {N M H k : Nat} (h1 : H ≤ N + M) (h2 : N + M ≤ 50) (h3 : k ≤ N) (h4 : H - M ≤ k) : chooseF ((N : Int) + (M : Int) - (H : Int)) ((N : Int) - (k : Int)) = (((pas (N + M - H) (N - k) : Nat) : Int), 0) := by
  rw [show (N : Int) + (M : Int) - (H : Int) = ((N + M - H : Nat) : Int) by omega, show (N : Int) - (k : Int) = ((N - k : Nat) : Int) by omega]
  exact chooseF_nat (by omega) (by omega)
theorem differ_sub {N M H k num den : Nat} (h0 : N ≤ 25) (h1 : M ≤ 25) (h2 : k ≤ N) (h3 : k ≤ H) (h4 : H - M ≤ k) (hs : shareB num den = true) : differF (k : Int) N ((H : Int) - (k : Int)) M num den = (isD N H M num den k, 0) := by
  rw [show (H : Int) - (k : Int) = ((H - k : Nat) : Int) by omega, differF_nat h2 h0 (by omega) h1 hs, show k + (H - k) = H by omega]
  refine Prod.ext ?_ rfl
  unfold isD
  rw [decide_eq_decide]
  rw [← Int.natCast_mul, ← Int.natCast_mul]
  exact Int.ofNat_le
set_option maxRecDepth 100000 in
set_option maxHeartbeats 8000000 in
theorem ratesShare_walk (KA : AliveOk) (n m h num den : Int) (w : World) :
    Calls Try.prog 13 #[.int .i64 n, .int .i64 m, .int .i64 h, .agg #[.int .i64 num, .int .i64 den]] w fun e w' => e = .returned (.bool true) ∧ Below w.heap.size w w' := by
  obtain ⟨B, hB⟩ : ∃ B, B = w.heap.size := ⟨_, rfl⟩
  have S0 := Lib.hid ((Own.start w).new' 23 #[.int .i64 num, .int .i64 den] hB)
  replace hB := Lib.hid hB
  by_cases g0 : n < 0
  case pos => as_aux_lemma =>
    go_enter Try.func13, Try.ntmps13
    go_wp2_with fail
    refine (KA _).mono ?_
    rintro e w1 ⟨rfl, hb1⟩
    have S1 := Lib.hid (S0.out.ext hb1)
    clear hb1 S0
    rw [← hB.out]
    go_wp2_with fail
    go_ret
    exact ⟨rfl, S1.out.bel⟩
  by_cases g1 : 25 < n
  case pos => as_aux_lemma =>
    go_enter Try.func13, Try.ntmps13
    go_wp2_with fail
    refine (KA _).mono ?_
    rintro e w1 ⟨rfl, hb1⟩
    have S1 := Lib.hid (S0.out.ext hb1)
    clear hb1 S0
    rw [← hB.out]
    go_wp2_with fail
    go_ret
    exact ⟨rfl, S1.out.bel⟩
  by_cases g2 : m < 0
  case pos => as_aux_lemma =>
    go_enter Try.func13, Try.ntmps13
    go_wp2_with fail
    refine (KA _).mono ?_
    rintro e w1 ⟨rfl, hb1⟩
    have S1 := Lib.hid (S0.out.ext hb1)
    clear hb1 S0
    rw [← hB.out]
    go_wp2_with fail
    go_ret
    exact ⟨rfl, S1.out.bel⟩
  by_cases g3 : 25 < m
  case pos => as_aux_lemma =>
    go_enter Try.func13, Try.ntmps13
    go_wp2_with fail
    refine (KA _).mono ?_
    rintro e w1 ⟨rfl, hb1⟩
    have S1 := Lib.hid (S0.out.ext hb1)
    clear hb1 S0
    rw [← hB.out]
    go_wp2_with fail
    go_ret
    exact ⟨rfl, S1.out.bel⟩
  by_cases g4 : h < 0
  case pos => as_aux_lemma =>
    go_enter Try.func13, Try.ntmps13
    go_wp2_with fail
    refine (KA _).mono ?_
    rintro e w1 ⟨rfl, hb1⟩
    have S1 := Lib.hid (S0.out.ext hb1)
    clear hb1 S0
    rw [← hB.out]
    go_wp2_with fail
    go_ret
    exact ⟨rfl, S1.out.bel⟩
  have z1 : IntKind.i64.wrap (n + m) = n + m := IntWalk.i64_in _ (by omega)
  by_cases g5 : n + m < h
  case pos => as_aux_lemma =>
    go_enter Try.func13, Try.ntmps13
    go_wp2_with fail
    refine (KA _).mono ?_
    rintro e w1 ⟨rfl, hb1⟩
    have S1 := Lib.hid (S0.out.ext hb1)
    clear hb1 S0
    rw [← hB.out]
    go_wp2_with fail
    go_ret
    exact ⟨rfl, S1.out.bel⟩
  cases hs : shareB num den
  case false => as_aux_lemma =>
    have K3 := Lib.hid (fun W => validShare_any num den W)
    rw [hs] at K3
    clear hs
    go_enter Try.func13, Try.ntmps13
    go_wp2_with fail
    refine (KA _).mono ?_
    rintro e w1 ⟨rfl, hb1⟩
    have S1 := Lib.hid (S0.out.ext hb1)
    clear hb1 S0
    rw [← hB.out]
    obtain ⟨c0, c1, _⟩ := (S1.out.bx 0 rfl).c2
    have cl := (S1.out.bx 0 rfl).2.2
    go_wp2_with fail
    refine (K3.out _).mono ?_
    rintro e w2 ⟨rfl, hb2⟩
    have S2 := Lib.hid (S1.out.ext hb2)
    clear hb2 S1
    go_wp2_with fail
    go_ret
    exact ⟨rfl, S2.out.bel⟩
  obtain ⟨s1, s2, s3⟩ := share_of hs
  obtain ⟨N, rfl⟩ := Int.eq_ofNat_of_zero_le (show 0 ≤ n by omega)
  obtain ⟨M, rfl⟩ := Int.eq_ofNat_of_zero_le (show 0 ≤ m by omega)
  obtain ⟨H, rfl⟩ := Int.eq_ofNat_of_zero_le (show 0 ≤ h by omega)
  obtain ⟨num, rfl⟩ := Int.eq_ofNat_of_zero_le (show 0 ≤ num by omega)
  obtain ⟨den, rfl⟩ := Int.eq_ofNat_of_zero_le (show 0 ≤ den by omega)
  have bN : N ≤ 25 := by omega
  have bM : M ≤ 25 := by omega
  have bH : H ≤ N + M := by omega
  have bnum : num ≤ 1000 := by omega
  have bden : den ≤ 1000 := by omega
  clear s1 s2 s3
  have K3 := Lib.hid (fun W => validShare_any num den W)
  rw [hs] at K3
  have HS := Lib.hid hs
  clear hs
  obtain ⟨lo, hlo⟩ : ∃ lo, lo = H - M := ⟨_, rfl⟩
  obtain ⟨hi, hhi⟩ : ∃ hi, hi = min N H := ⟨_, rfl⟩
  obtain ⟨d, hd⟩ : ∃ d : Int, d = (H : Int) - (M : Int) := ⟨_, rfl⟩
  have z2 : IntKind.i64.wrap ((H : Int) - (M : Int)) = d := by rw [hd]; exact IntWalk.i64_in _ (by omega)
  have hmax : max (0 : Int) d = (lo : Int) := by omega
  have hmin : min (N : Int) (H : Int) = (hi : Int) := by omega
  have HMIN := Lib.hid hmin
  have HALL := Lib.hid (shares_all (num := num) (den := den) bH)
  rw [← hlo, ← hhi] at HALL
  have HLO := Lib.hid hlo
  have HHI := Lib.hid (show hi ≤ N ∧ hi ≤ H ∧ lo ≤ hi + 1 by omega)
  have K5 := Lib.hid (fun W => choose_any ((N : Int) + (M : Int)) N W)
  have e1 := chooseF_nat (a := N + M) (b := N) (by omega) (by omega)
  rw [Int.natCast_add] at e1
  rw [e1] at K5
  clear e1
  have HP := Lib.hid (pas_50 (N + M) N (by omega))
  have HHI2 := Lib.hid hhi
  clear hlo hhi hd
  go_enter Try.func13, Try.ntmps13
  go_wp2_with fail
  refine (KA _).mono ?_
  rintro e w1 ⟨rfl, hb1⟩
  have S1 := Lib.hid (S0.out.ext hb1)
  clear hb1 S0
  rw [← hB.out]
  obtain ⟨c0, c1, _⟩ := (S1.out.bx 0 rfl).c2
  have cl := (S1.out.bx 0 rfl).2.2
  go_wp2_with fail
  refine (K3.out _).mono ?_
  rintro e w2 ⟨rfl, hb2⟩
  have S2 := Lib.hid (S1.out.ext hb2)
  clear hb2 S1 c0 c1 cl
  go_wp2_with fail
  go_loopg [10, 11, 12] 60 (fun q u10 u11 u12 wr => ∃ j k v3 v4 : Nat, (j ≤ 30 ∧ k ≤ 30 ∧ v3 ≤ 1125899906842624 ∧ v4 ≤ 1125899906842624) ∧ u12 = .int .i64 (k : Nat) ∧ u10 = .int .i64 (v3 : Nat) ∧ u11 = .int .i64 (v4 : Nat) ∧ Hid (j + q = 60 ∧ k = lo + j ∧ k ≤ hi + 1 ∧ v3 = sumF (term N H M) lo j ∧ v4 = sumF (difT N H M num den) lo j ∧ Own w wr [box B 23 [.int .i64 (num : Nat), .int .i64 (den : Nat)]]))
  case atStart => exact ⟨0, lo, 0, 0, by have := HLO.out; omega, by have := HLO.out; go_num, rfl, rfl, by omega, rfl, HHI.out.2.2, rfl, rfl, S2.out⟩
  case round =>
    obtain ⟨j, k, v3, v4, ⟨hj, hk, hv3, hv4⟩, rfl, rfl, rfl, hI⟩ := hrel
    have I1 := Lib.hid hI.out.1
    obtain ⟨I3, I4, I5, I6, I7⟩ := hI.out.2
    have I2 := Lib.hid I7
    clear hI S2 I7
    by_cases hlt : k ≤ hi
    · have p1 := choose_any H k
      have KC := Lib.hid (fun W => choose_any (H : Int) k W)
      rw [chooseF_nat (by omega) (by have := HHI.out; omega)] at KC
      have KD := Lib.hid (fun W => choose_any ((N : Int) + (M : Int) - (H : Int)) ((N : Int) - (k : Int)) W)
      rw [choose_sub bH (by omega) (by have := HHI.out; omega) (by have := HLO.out; omega)] at KD
      have KE := Lib.hid (fun W => differ_any (k : Int) N ((H : Int) - (k : Int)) M num den W)
      rw [differ_sub bN bM (by have := HHI.out; omega) (by have := HHI.out; omega) (by have := HLO.out; omega) HS.out] at KE
      have hkN : k ≤ N := by have := HHI.out; omega
      have hkH : k ≤ H := by have := HHI.out; omega
      have e3 : sumF (term N H M) lo (j + 1) = v3 + pas H k * pas (N + M - H) (N - k) := by rw [sumF, ← I5, I3]; rfl
      have e4 : sumF (difT N H M num den) lo (j + 1) = v4 + if isD N H M num den k = true then pas H k * pas (N + M - H) (N - k) else 0 := by rw [sumF, ← I6, I3]; rfl
      have hm := pas_mul H k (N + M - H) (N - k) (by omega)
      have hp := pas_pos H k hkH
      have h50 := HP.out
      have hc2 := dif_le (n := N) (h := H) (m := M) (num := num) (den := den) (lo := lo) (j + 1)
      have hb2 := part_le (n := N) (h := H) (m := M) (lo := lo) (j := j + 1) bH (by omega)
      rw [e3] at hb2 hc2
      rw [e4] at hc2
      have E3 := Lib.hid e3
      have E4 := Lib.hid e4
      have HI := Lib.hid (show k + 1 = lo + (j + 1) ∧ k + 1 ≤ hi + 1 ∧ j + 1 ≤ 30 ∧ k + 1 ≤ 30 by have := HHI.out; omega)
      clear e3 e4
      have hd0 := dif_le (n := N) (h := H) (m := M) (num := num) (den := den) (lo := lo) j
      rw [← I5, ← I6] at hd0
      have HV1 := Lib.hid (pas_50 H k (by omega))
      have HV2 := Lib.hid (pas_50 (N + M - H) (N - k) (by omega))
      clear I3 I4 I5 I6
      generalize isD N H M num den k = b at *
      generalize pas H k = v1 at *
      generalize pas (N + M - H) (N - k) = v2 at *
      obtain ⟨p, hpp⟩ : ∃ p, p = v1 * v2 := ⟨_, rfl⟩
      rw [← hpp] at E3 E4 hb2 hc2 hm
      have z3 : IntKind.i64.wrap ((H : Int) - (k : Int)) = (H : Int) - (k : Int) := IntWalk.i64_in _ (by omega)
      have z4 : IntKind.i64.wrap ((N : Int) + (M : Int) - (H : Int)) = (N : Int) + (M : Int) - (H : Int) := IntWalk.i64_in _ (by omega)
      have z5 : IntKind.i64.wrap ((N : Int) - (k : Int)) = (N : Int) - (k : Int) := IntWalk.i64_in _ (by omega)
      have z6 : IntKind.i64.wrap ((v1 : Int) * (v2 : Int)) = (p : Int) := by rw [← Int.natCast_mul, ← hpp]; exact IntWalk.i64_in _ (by omega)
      have z7 : IntKind.i64.wrap ((v3 : Int) + (p : Int)) = ((v3 + p : Nat) : Int) := by rw [← Int.natCast_add]; exact IntWalk.i64_in _ (by omega)
      have q1 : ¬ (v1 : Int) < 0 := by omega
      have q2 : ¬ (v2 : Int) < 0 := by omega
      have q3 : (0 : Int) < (v1 : Int) := by omega
      have bv1 : v1 ≤ 1125899906842624 := HV1.out
      have bv2 : v2 ≤ 1125899906842624 := HV2.out
      have q4 : ¬ (1125899906842624 : Int) < (v1 : Int) := by omega
      have q5 : ¬ (1125899906842624 : Int) < (v2 : Int) := by omega
      obtain ⟨D, hD⟩ : ∃ D, D = 1125899906842624 / v1 := ⟨_, rfl⟩
      have q6 : (1125899906842624 : Int) / (v1 : Int) = (D : Int) := by rw [hD]; simp
      have q7 : Int.tdiv (1125899906842624 : Int) (v1 : Int) = (D : Int) := by rw [Int.tdiv_eq_ediv_of_nonneg (by omega), q6]
      have q8 : ¬ (D : Int) < (v2 : Int) := by
        have : v2 ≤ D := by rw [hD, Nat.le_div_iff_mul_le hp, Nat.mul_comm, ← hpp]; exact hm
        omega
      have q9 : IntKind.i64.wrap (D : Int) = (D : Int) := IntWalk.i64_in _ (by have := Nat.div_le_self 1125899906842624 v1; omega)
      have q10 : ¬ (v1 : Int) = 0 := by omega
      have q11 : ((v1 : Int) == 0) = false := by simpa using q10
      have hkhi : (k : Int) ≤ (hi : Int) := by omega
      have z9 : IntKind.i64.wrap ((k : Int) + 1) = ((k + 1 : Nat) : Int) := by rw [show (k : Int) + 1 = ((k + 1 : Nat) : Int) by omega]; exact IntWalk.i64_in _ (by omega)
      have HV := Lib.hid (show v3 + p ≤ 1125899906842624 ∧ v4 + p ≤ 1125899906842624 by omega)
      clear hD hpp hm hp h50 hc2 hkN hkH hlt HV1 HV2 hmin hmax bv1 bv2 hb2 hd0
      have hmin : min (N : Int) (H : Int) = (hi : Int) := HMIN.out
      obtain ⟨c0, c1, _⟩ := (I2.out.bx 0 rfl).c2
      have cl := (I2.out.bx 0 rfl).2.2
      go_wp2_with fail
      refine (KC.out _).mono ?_
      rintro e w3 ⟨rfl, hb3⟩
      have S3 := Lib.hid (I2.out.ext hb3)
      clear hb3 I2 c0 c1 cl
      go_wp2_with fail
      refine (KD.out _).mono ?_
      rintro e w4 ⟨rfl, hb4⟩
      have S4 := Lib.hid (S3.out.ext hb4)
      clear hb4 S3
      obtain ⟨c0, c1, _⟩ := (S4.out.bx 0 rfl).c2
      have cl := (S4.out.bx 0 rfl).2.2
      go_wp2_with fail
      refine (KE.out _).mono ?_
      rintro e w5 ⟨rfl, hb5⟩
      have S5 := Lib.hid (S4.out.ext hb5)
      clear hb5 S4 c0 c1 cl KC KD KE K3 K5
      rcases b with _ | _
      · as_aux_lemma =>
        go_wp2_with fail
        go_roundg (gk - 1)
        case measure => have := I1.out; omega
        case rel => exact ⟨j + 1, k + 1, v3 + p, v4, by have := HI.out; have := HV.out; omega, rfl, rfl, rfl, by have := I1.out; omega, HI.out.1, HI.out.2.1, E3.out.symm, by rw [E4.out]; simp, S5.out⟩
      · as_aux_lemma =>
        have z8 : IntKind.i64.wrap ((v4 : Int) + (p : Int)) = ((v4 + p : Nat) : Int) := by rw [← Int.natCast_add]; exact IntWalk.i64_in _ (by have := HV.out; omega)
        go_wp2_with fail
        go_roundg (gk - 1)
        case measure => have := I1.out; omega
        case rel => exact ⟨j + 1, k + 1, v3 + p, v4 + p, by have := HI.out; have := HV.out; omega, rfl, rfl, rfl, by have := I1.out; omega, HI.out.1, HI.out.2.1, E3.out.symm, by rw [E4.out]; simp, S5.out⟩
    · have hkhi : ¬ (k : Int) ≤ (hi : Int) := by omega
      have hj : j = hi + 1 - lo := by omega
      have a1 := HALL.out.1
      have a2 := HALL.out.2
      rw [← hj, ← I5] at a1
      rw [← hj, ← I6] at a2
      have h50 := HP.out
      have hsm := HS.out
      rw [← a1] at a2 h50 K5
      have a3 : (v4 : Int) * (den : Int) ≤ (num : Int) * (v3 : Int) := by rw [← Int.natCast_mul, ← Int.natCast_mul]; exact Int.ofNat_le.2 a2
      have p1 := mul_bd (a := (v4 : Int)) (b := (den : Int)) (A := 1125899906842624) (B := 1000) (by omega) (by omega) (by omega) (by omega)
      have p2 := mul_bd (a := (num : Int)) (b := (v3 : Int)) (A := 1000) (B := 1125899906842624) (by omega) (by omega) (by omega) (by omega)
      have z3 : IntKind.i64.wrap ((v4 : Int) * (den : Int)) = (v4 : Int) * (den : Int) := IntWalk.i64_in _ (by omega)
      have z4 : IntKind.i64.wrap ((num : Int) * (v3 : Int)) = (num : Int) * (v3 : Int) := IntWalk.i64_in _ (by omega)
      clear p1 p2 a1 a2 hj h50 hsm I3 I4 I5 I6 hlt
      as_aux_lemma =>
      obtain ⟨c0, c1, _⟩ := (I2.out.bx 0 rfl).c2
      have cl := (I2.out.bx 0 rfl).2.2
      go_wp2_with fail
      refine (K5.out _).mono ?_
      rintro e w3 ⟨rfl, hb3⟩
      have S3 := Lib.hid (I2.out.ext hb3)
      clear hb3 I2 c0 c1 cl
      obtain ⟨c0, c1, _⟩ := (S3.out.bx 0 rfl).c2
      have cl := (S3.out.bx 0 rfl).2.2
      go_wp2_with fail
      go_ret
      exact ⟨by first | rfl | simp [a3], S3.out.bel⟩
end Go.Proofs.Ytnalbchggjepdaa
