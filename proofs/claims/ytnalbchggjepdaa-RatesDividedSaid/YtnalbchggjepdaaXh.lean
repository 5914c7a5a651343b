/- Rates: the walk of RatesDivided. No condition. -/
import Derived.Test.YtnalbchggjepdaaXf
import Derived.Test.YtnalbchggjepdaaXg
namespace Go.Proofs.Ytnalbchggjepdaa
open Go.RowKit Go.Shelf
attribute [local go_sem] Oper.semAt_some

/-- The sum of a weight over the sets of a things below a number. -/
def setP (o N a : Nat) (f : Nat → Nat) (s : Nat) : Nat := ((List.range s).map fun t => if on t N = a then f (on (t &&& o) N) else 0).sum
theorem setP_succ (o N a : Nat) (f : Nat → Nat) (s : Nat) : setP o N a f (s + 1) = setP o N a f s + if on s N = a then f (on (s &&& o) N) else 0 := by
  unfold setP
  rw [List.range_succ, List.map_append, List.sum_append]
  simp
def oneW (_ : Nat) : Nat := 1
def isW (n h m num den k : Nat) : Nat := if isD n h m num den k = true then 1 else 0
theorem divided_all (o a b num den : Nat) : setP o (a + b) a oneW (2 ^ (a + b)) = pas (a + b) a ∧ setP o (a + b) a (isW a (on o (a + b)) b num den) (2 ^ (a + b)) * den ≤ num * pas (a + b) a :=
  ⟨setS_all o a b, divided_law o a b num den (isD a (on o (a + b)) b num den) fun _ _ => rfl⟩
theorem differ_set {a b N s o num den : Nat} (ha : a ≤ 25) (hb : b ≤ 25) (hN : N = a + b) (hs : on s N = a) (hsh : shareB num den = true) :
    differF ((on (s &&& o) N : Nat) : Int) a ((on (o ^^^ (s &&& o)) N : Nat) : Int) b num den = (isD a (on o N) b num den (on (s &&& o) N), 0) := by
  have h1 := on_and_le s o N
  have h2 := on_not_le o s N
  have h3 := on_split o s N
  rw [differF_nat (by omega) ha (by omega) hb hsh, h3]
  refine Prod.ext ?_ rfl
  unfold isD
  rw [decide_eq_decide, ← Int.natCast_mul, ← Int.natCast_mul]
  exact Int.ofNat_le
set_option maxRecDepth 100000 in
set_option maxHeartbeats 8000000 in
theorem ratesDivided_walk (KA : AliveOk) (n m o : Nat) (hn : n < 256) (hm : m < 256) (ho : o < 65536) (num den : Int) (w : World) :
    Calls Try.prog 12 #[.int .u8 (n : Nat), .int .u8 (m : Nat), .int .u16 (o : Nat), .agg #[.int .i64 num, .int .i64 den]] w fun e w' => e = .returned (.bool true) ∧ Below w.heap.size w w' := by
  obtain ⟨B, hB⟩ : ∃ B, B = w.heap.size := ⟨_, rfl⟩
  have S0 := Lib.hid ((Own.start w).new' 23 #[.int .i64 num, .int .i64 den] hB)
  replace hB := Lib.hid hB
  obtain ⟨a, ha⟩ : ∃ a, a = n % 6 := ⟨_, rfl⟩
  obtain ⟨b, hb⟩ : ∃ b, b = m % 6 := ⟨_, rfl⟩
  have z1 : IntKind.i64.wrap (n : Int) = (n : Int) := IntWalk.i64_in _ (by omega)
  have z2 : IntKind.i64.wrap (m : Int) = (m : Int) := IntWalk.i64_in _ (by omega)
  have z3 : IntKind.i64.wrap (o : Int) = (o : Int) := IntWalk.i64_in _ (by omega)
  have z4 : Int.tmod (n : Int) 6 = (a : Int) := by rw [Int.tmod_eq_emod_of_nonneg (by omega)]; omega
  have z5 : Int.tmod (m : Int) 6 = (b : Int) := by rw [Int.tmod_eq_emod_of_nonneg (by omega)]; omega
  have z4' : (n : Int) % 6 = (a : Int) := by omega
  have z5' : (m : Int) % 6 = (b : Int) := by omega
  have z6 : IntKind.i64.wrap (a : Int) = (a : Int) := IntWalk.i64_in _ (by omega)
  have z7 : IntKind.i64.wrap (b : Int) = (b : Int) := IntWalk.i64_in _ (by omega)
  have ba : a ≤ 5 := by omega
  have bb : b ≤ 5 := by omega
  have HO := Lib.hid ho
  clear ha hb hn hm ho
  cases hs : shareB num den
  case false => as_aux_lemma =>
    have K3 := Lib.hid (fun W => validShare_any num den W)
    rw [hs] at K3
    clear hs
    go_enter Try.func12, Try.ntmps12
    go_wp2_with fail
    refine (KA _).mono ?_
    rintro e w1 ⟨rfl, hb1⟩
    have S1 := Lib.hid (S0.out.ext hb1)
    clear hb1 S0
    rw [← hB.out]
    obtain ⟨c0, c1, _⟩ := (S1.out.bx 0 rfl).c2
    have cl := (S1.out.bx 0 rfl).2.2
    go_wp2_with fail
    refine (K3.out _).mono ?_
    rintro e w2 ⟨rfl, hb2⟩
    have S2 := Lib.hid (S1.out.ext hb2)
    clear hb2 S1
    go_wp2_with fail
    go_ret
    exact ⟨rfl, S2.out.bel⟩
  obtain ⟨s1, s2, s3⟩ := share_of hs
  obtain ⟨num, rfl⟩ := Int.eq_ofNat_of_zero_le (show 0 ≤ num by omega)
  obtain ⟨den, rfl⟩ := Int.eq_ofNat_of_zero_le (show 0 ≤ den by omega)
  have bnum : num ≤ 1000 := by omega
  have bden : den ≤ 1000 := by omega
  clear s1 s2 s3
  have K3 := Lib.hid (fun W => validShare_any num den W)
  rw [hs] at K3
  have HS := Lib.hid hs
  clear hs
  obtain ⟨N, hN⟩ : ∃ N, N = a + b := ⟨_, rfl⟩
  have z8 : IntKind.i64.wrap ((a : Int) + (b : Int)) = (N : Int) := by rw [show (a : Int) + (b : Int) = (N : Int) by omega]; exact IntWalk.i64_in _ (by omega)
  have hN10 : N ≤ 10 := by omega
  have hP : 2 ^ N ≤ 2 ^ 10 := Nat.pow_le_pow_right (by decide) hN10
  have HALL := Lib.hid (divided_all o a b num den)
  rw [← hN] at HALL
  have HNN := Lib.hid hN
  have K5 := Lib.hid (fun W => choose_any (N : Int) a W)
  rw [chooseF_nat (a := N) (b := a) (by omega) (by omega)] at K5
  have HP50 := Lib.hid (pas_50 N a (by omega))
  clear hN
  obtain ⟨P, hPP⟩ : ∃ P, P = 2 ^ N := ⟨_, rfl⟩
  rw [← hPP] at HALL hP
  have z9 : IntKind.i64.wrap ((2 : Int) ^ N) = (P : Int) := by
    rw [show (2 : Int) ^ N = (P : Int) by rw [hPP]; push_cast; rfl]
    exact IntWalk.i64_in _ (by omega)
  have z10 : (0 : Int) ≤ (N : Int) := by omega
  have z11 : (N : Int) ≤ 64 := by omega
  have z12 : (N : Int) < 64 := by omega
  clear hPP
  go_enter Try.func12, Try.ntmps12
  go_wp2_with fail
  refine (KA _).mono ?_
  rintro e w1 ⟨rfl, hb1⟩
  have S1 := Lib.hid (S0.out.ext hb1)
  clear hb1 S0
  rw [← hB.out]
  obtain ⟨c0, c1, _⟩ := (S1.out.bx 0 rfl).c2
  have cl := (S1.out.bx 0 rfl).2.2
  go_wp2_with fail
  refine (K3.out _).mono ?_
  rintro e w2 ⟨rfl, hb2⟩
  have S2 := Lib.hid (S1.out.ext hb2)
  clear hb2 S1 c0 c1 cl
  go_wp2_with fail
  go_loopg [12, 13, 40] 2000 (fun q u12 u13 u40 wr => ∃ s v3 v4 : Nat, (s ≤ P ∧ v3 ≤ s ∧ v4 ≤ v3) ∧ u40 = .int .i64 (s : Nat) ∧ u12 = .int .i64 (v3 : Nat) ∧ u13 = .int .i64 (v4 : Nat) ∧ Hid (s + q = 2000 ∧ v3 = setP o N a oneW s ∧ v4 = setP o N a (isW a (on o N) b num den) s ∧ Own w wr [box B 23 [.int .i64 (num : Nat), .int .i64 (den : Nat)]]))
  case atStart => exact ⟨0, 0, 0, by omega, rfl, rfl, rfl, by omega, rfl, rfl, S2.out⟩
  case round =>
    obtain ⟨s, v3, v4, ⟨hs, hv3, hv4⟩, rfl, rfl, rfl, hI⟩ := hrel
    have I1 := Lib.hid hI.out.1
    obtain ⟨I3, I4, I5⟩ := hI.out.2
    have I2 := Lib.hid I5
    clear hI S2 I5
    by_cases hlt : s < P
    · have hsx : (s : Int) < (P : Int) := by omega
      have HO2 := HO.out
      have K6 := Lib.hid (fun W => ones_any s N W (by omega) (by omega))
      have e3 := setP_succ o N a oneW s
      have e4 := setP_succ o N a (isW a (on o N) b num den) s
      rw [← I3] at e3
      rw [← I4] at e4
      have bw : isW a (on o N) b num den (on (s &&& o) N) ≤ 1 := by unfold isW; split <;> omega
      by_cases hr : on s N = a
      case neg =>
        rw [if_neg hr] at e3 e4
        have E3 := Lib.hid e3
        have E4 := Lib.hid e4
        generalize on s N = r at *
        have hr' : ¬ (r : Int) = (a : Int) := by omega
        have hr2 : ((r : Int) == (a : Int)) = false := by simpa using hr'
        clear e3 e4 I3 I4 bw HO2 hr
        as_aux_lemma =>
        go_wp2_with fail
        refine (K6.out _).mono ?_
        rintro e w3 ⟨rfl, hb3⟩
        have S3 := Lib.hid (I2.out.ext hb3)
        clear hb3 I2
        go_wp2_with fail
        go_roundg (gk - 1)
        case measure => have := I1.out; omega
        case rel => exact ⟨s + 1, v3, v4, by omega, by go_num, rfl, rfl, by have := I1.out; omega, E3.out.symm, E4.out.symm, S3.out⟩
      · have KD := Lib.hid (fun W => differ_any ((on (s &&& o) N : Nat) : Int) a ((on (o ^^^ (s &&& o)) N : Nat) : Int) b num den W)
        rw [differ_set (by omega) (by omega) HNN.out hr HS.out] at KD
        rw [if_pos hr] at e3 e4
        rw [hr] at K6
        have K7 := Lib.hid (fun W => ones_any (s &&& o) N W (Nat.and_lt_two_pow _ (by omega)) (by omega))
        have K8 := Lib.hid (fun W => ones_any (o ^^^ (s &&& o)) N W (Nat.xor_lt_two_pow (by omega) (Nat.and_lt_two_pow _ (by omega))) (by omega))
        have y1 := i64_and_nat s o (by omega) (by omega)
        have y0 := i64_not_nat s (by omega)
        have y2 := i64_andnot_nat s o (by omega)
        have E3 := Lib.hid (show setP o N a oneW (s + 1) = v3 + 1 from e3)
        have E4 := Lib.hid (show setP o N a (isW a (on o N) b num den) (s + 1) = v4 + (if isD a (on o N) b num den (on (s &&& o) N) = true then 1 else 0) from e4)
        clear e3 e4 bw hr I3 I4 HO2
        generalize isD a (on o N) b num den (on (s &&& o) N) = bq at *
        generalize on (o ^^^ (s &&& o)) N = l at *
        generalize on (s &&& o) N = k at *
        generalize o ^^^ (s &&& o) = xl at *
        generalize s &&& o = xk at *
        have q1 : IntKind.i64.wrap ((v3 : Int) + 1) = ((v3 + 1 : Nat) : Int) := by rw [show (v3 : Int) + 1 = ((v3 + 1 : Nat) : Int) by omega]; exact IntWalk.i64_in _ (by omega)
        have q2 : IntKind.i64.wrap ((v4 : Int) + 1) = ((v4 + 1 : Nat) : Int) := by rw [show (v4 : Int) + 1 = ((v4 + 1 : Nat) : Int) by omega]; exact IntWalk.i64_in _ (by omega)
        as_aux_lemma =>
        go_wp2_with fail
        refine (K6.out _).mono ?_
        rintro e w3 ⟨rfl, hb3⟩
        have S3 := Lib.hid (I2.out.ext hb3)
        clear hb3 I2 K6
        go_wp2_with fail
        refine (K7.out _).mono ?_
        rintro e w4 ⟨rfl, hb4⟩
        have S4 := Lib.hid (S3.out.ext hb4)
        clear hb4 S3 K7
        go_wp2_with fail
        refine (K8.out _).mono ?_
        rintro e w5 ⟨rfl, hb5⟩
        have S5 := Lib.hid (S4.out.ext hb5)
        clear hb5 S4 K8
        obtain ⟨c0, c1, _⟩ := (S5.out.bx 0 rfl).c2
        have cl := (S5.out.bx 0 rfl).2.2
        go_wp2_with fail
        refine (KD.out _).mono ?_
        rintro e w6 ⟨rfl, hb6⟩
        have S6 := Lib.hid (S5.out.ext hb6)
        clear hb6 S5 KD c0 c1 cl
        rcases bq with _ | _
        · as_aux_lemma =>
          go_wp2_with fail
          go_roundg (gk - 1)
          case measure => have := I1.out; omega
          case rel => exact ⟨s + 1, v3 + 1, v4, by omega, by go_num, rfl, rfl, by have := I1.out; omega, E3.out.symm, by rw [E4.out]; simp, S6.out⟩
        · as_aux_lemma =>
          go_wp2_with fail
          go_roundg (gk - 1)
          case measure => have := I1.out; omega
          case rel => exact ⟨s + 1, v3 + 1, v4 + 1, by omega, by go_num, rfl, rfl, by have := I1.out; omega, E3.out.symm, by rw [E4.out]; simp, S6.out⟩
    · obtain rfl : s = P := by omega
      have hni : ¬ (s : Int) < (s : Int) := by omega
      have a1 := HALL.out.1
      have a2 := HALL.out.2
      rw [← I3] at a1
      rw [← I4] at a2
      have h50 := HP50.out
      rw [← a1] at a2 h50 K5
      have a3 : (v4 : Int) * (den : Int) ≤ (num : Int) * (v3 : Int) := by rw [← Int.natCast_mul, ← Int.natCast_mul]; exact Int.ofNat_le.2 a2
      have p1 := mul_bd (a := (v4 : Int)) (b := (den : Int)) (A := 2000) (B := 1000) (by omega) (by omega) (by omega) (by omega)
      have p2 := mul_bd (a := (num : Int)) (b := (v3 : Int)) (A := 1000) (B := 2000) (by omega) (by omega) (by omega) (by omega)
      have q3 : IntKind.i64.wrap ((v4 : Int) * (den : Int)) = (v4 : Int) * (den : Int) := IntWalk.i64_in _ (by omega)
      have q4 : IntKind.i64.wrap ((num : Int) * (v3 : Int)) = (num : Int) * (v3 : Int) := IntWalk.i64_in _ (by omega)
      clear p1 p2 a1 a2 h50 I3 I4 hlt
      as_aux_lemma =>
      obtain ⟨c0, c1, _⟩ := (I2.out.bx 0 rfl).c2
      have cl := (I2.out.bx 0 rfl).2.2
      go_wp2_with fail
      refine (K5.out _).mono ?_
      rintro e w3 ⟨rfl, hb3⟩
      have S3 := Lib.hid (I2.out.ext hb3)
      clear hb3 I2 c0 c1 cl
      obtain ⟨c0, c1, _⟩ := (S3.out.bx 0 rfl).c2
      have cl := (S3.out.bx 0 rfl).2.2
      go_wp2_with fail
      go_ret
      exact ⟨by first | rfl | simp [a3], S3.out.bel⟩
end Go.Proofs.Ytnalbchggjepdaa
