/- Rates: the walk of RatesFall. No condition. -/
import Derived.Test.YtnalbchggjepdaaXa
import Derived.Test.YtnalbchggjepdaaTl
import Derived.Test.YtnalbchggjepdaaTf
namespace Go.Proofs.Ytnalbchggjepdaa
open Go.RowKit Go.Shelf
attribute [local go_sem] Oper.semAt_some

theorem tailF_inv {k n l m a : Int} (h : tailF k n l m = (a, 0)) : ∃ K N L M : Nat, k = K ∧ n = N ∧ l = L ∧ m = M ∧ K ≤ N ∧ N ≤ 25 ∧ L ≤ M ∧ M ≤ 25 ∧ a = ((tail K N (K + L) M : Nat) : Int) := by
  unfold tailF at h
  split at h
  · rename_i h1
    simp only [tailOk, Bool.and_eq_true, inB, decide_eq_true_eq] at h1
    injection h with h2 _
    refine ⟨k.toNat, n.toNat, l.toNat, m.toNat, by omega, by omega, by omega, by omega, by omega, by omega, by omega, by omega, h2.symm⟩
  · injection h with _ h; cases h
theorem tailF_nat {K N L M : Nat} (h1 : K ≤ N) (h2 : N ≤ 25) (h3 : L ≤ M) (h4 : M ≤ 25) : tailF K N L M = (((tail K N (K + L) M : Nat) : Int), 0) := by
  unfold tailF
  rw [if_pos (by simp only [tailOk, Bool.and_eq_true, inB, decide_eq_true_eq]; omega)]
  simp
theorem chooseF_nat {a b : Nat} (h1 : a ≤ 50) (h2 : b ≤ a) : chooseF a b = (((pas a b : Nat) : Int), 0) := by
  unfold chooseF
  rw [if_pos (by simp only [Bool.and_eq_true, inB, decide_eq_true_eq]; omega)]
  simp
theorem pas_50 (a b : Nat) (h : a ≤ 50) : pas a b ≤ 1125899906842624 := pas_small a b h
theorem differF_nat {K N L M : Nat} {num den : Int} (h1 : K ≤ N) (h2 : N ≤ 25) (h3 : L ≤ M) (h4 : M ≤ 25) (hs : shareB num den = true) :
    differF K N L M num den = (decide (((tail K N (K + L) M : Nat) : Int) * den ≤ num * ((pas (N + M) N : Nat) : Int)), 0) := by
  have ok : tailOk (K : Int) N L M = true := by simp only [tailOk, Bool.and_eq_true, inB, decide_eq_true_eq]; omega
  obtain ⟨s1, s2, s3⟩ := share_of hs
  have t1 := tail_le_ways (k := K) (n := N) (h := K + L) (m := M) (by omega)
  have t2 := pas_50 (N + M) N (by omega)
  unfold differF
  rw [if_pos ok, if_pos hs, tailF_nat h1 h2 h3 h4]
  simp only [Int.toNat_natCast]
  have p1 := mul_bd (a := ((tail K N (K + L) M : Nat) : Int)) (b := den) (A := 1125899906842624) (B := 1000) (by omega) (by omega) (by omega) (by omega)
  have p2 := mul_bd (a := num) (b := ((pas (N + M) N : Nat) : Int)) (A := 1000) (B := 1125899906842624) (by omega) (by omega) (by omega) (by omega)
  have w1 : wrap64 (((tail K N (K + L) M : Nat) : Int) * den) = ((tail K N (K + L) M : Nat) : Int) * den := by rw [← wrap_eq]; exact IntWalk.i64_in _ (by omega)
  have w2 : wrap64 (num * ((pas (N + M) N : Nat) : Int)) = num * ((pas (N + M) N : Nat) : Int) := by rw [← wrap_eq]; exact IntWalk.i64_in _ (by omega)
  refine Prod.ext ?_ rfl
  simp only [w1, w2]
set_option maxRecDepth 100000 in
set_option maxHeartbeats 4000000 in
theorem ratesFall_walk (KA : AliveOk) (k n l m : Int) (w : World) :
    Calls Try.prog 14 #[.int .i64 k, .int .i64 n, .int .i64 l, .int .i64 m] w fun e w' => e = .returned (.bool true) ∧ Below w.heap.size w w' := by
  have S0 := Lib.hid (Own.start w)
  obtain ⟨a, f, ht⟩ : ∃ a b, tailF k n l m = (a, b) := ⟨_, _, rfl⟩
  have K1 := Lib.hid (fun W => tail_any k n l m W)
  rw [ht] at K1
  by_cases hf : f = 0
  case neg =>
    have hf' : (f == 0) = false := by simpa using hf
    clear ht
    go_enter Try.func14, Try.ntmps14
    go_wp2_with fail
    refine (KA _).mono ?_
    rintro e w1 ⟨rfl, hb1⟩
    have S1 := Lib.hid (S0.out.ext hb1)
    clear hb1 S0
    go_wp2_with fail
    refine (K1.out _).mono ?_
    rintro e w2 ⟨rfl, hb2⟩
    have S2 := Lib.hid (S1.out.ext hb2)
    clear hb2 S1
    go_wp2_with fail
    go_ret
    exact ⟨rfl, S2.out.bel⟩
  subst hf
  obtain ⟨K, N, L, M, rfl, rfl, rfl, rfl, hKN, hN, hLM, hM, rfl⟩ := tailF_inv ht
  clear ht
  obtain ⟨b, g, hg⟩ : ∃ a b, tailF ((K : Int) + 1) N ((L : Int) - 1) M = (a, b) := ⟨_, _, rfl⟩
  have K2 := Lib.hid (fun W => choose_any ((N : Int) + (M : Int)) N W)
  have e1 := chooseF_nat (a := N + M) (b := N) (by omega) (by omega)
  rw [Int.natCast_add] at e1
  rw [e1] at K2
  have K3 := Lib.hid (fun W => tail_any ((K : Int) + 1) N ((L : Int) - 1) M W)
  rw [hg] at K3
  have z1 : IntKind.i64.wrap ((N : Int) + (M : Int)) = (N : Int) + (M : Int) := IntWalk.i64_in _ (by omega)
  have z2 : IntKind.i64.wrap ((K : Int) + 1) = (K : Int) + 1 := IntWalk.i64_in _ (by omega)
  have z3 : IntKind.i64.wrap ((L : Int) - 1) = (L : Int) - 1 := IntWalk.i64_in _ (by omega)
  have q1 := tail_pos hKN hLM
  have q2 := tail_le_ways (k := K) (n := N) (h := K + L) (m := M) (by omega)
  have q3 : K = 0 → tail K N (K + L) M = pas (N + M) N := fun h => by subst h; exact tail_zero (by omega)
  have q4 : g = 0 → b ≤ ((tail K N (K + L) M : Nat) : Int) := fun h => by
    subst h
    obtain ⟨K', N', L', M', h1, h2, h3, h4, _, _, _, _, h5⟩ := tailF_inv hg
    have hm := tail_mono (n := N) (h := K + L) (m := M) 1 K
    have e1 : K' = K + 1 := by omega
    have e2 : N' = N := by omega
    have e3 : K + 1 + L' = K + L := by omega
    have e4 : M' = M := by omega
    rw [h5, e1, e2, e3, e4]
    omega
  clear e1 hg
  generalize tail K N (K + L) M = t at *
  generalize pas (N + M) N = p at *
  have b1 : ¬ (N : Int) < 0 := by omega
  have b2 : ¬ (M : Int) < 0 := by omega
  have b3 : ¬ (25 : Int) < (N : Int) := by omega
  have b4 : ¬ (25 : Int) < (M : Int) := by omega
  have b5 : ¬ (t : Int) < 1 := by omega
  have b6 : ¬ (p : Int) < (t : Int) := by omega
  by_cases hk : K = 0
  · have hk2 := q3 hk
    subst hk2
    subst hk
    clear q1 q2 q3
    by_cases hg : g = 0
    · subst hg
      have q5 := q4 rfl
      clear q4
      as_aux_lemma =>
      go_enter Try.func14, Try.ntmps14
      go_wp2_with fail
      refine (KA _).mono ?_
      rintro e w1 ⟨rfl, hb1⟩
      have S1 := Lib.hid (S0.out.ext hb1)
      clear hb1 S0
      go_wp2_with fail
      refine (K1.out _).mono ?_
      rintro e w2 ⟨rfl, hb2⟩
      have S2 := Lib.hid (S1.out.ext hb2)
      clear hb2 S1
      go_wp2_with fail
      refine (K2.out _).mono ?_
      rintro e w3 ⟨rfl, hb3⟩
      have S3 := Lib.hid (S2.out.ext hb3)
      clear hb3 S2
      go_wp2_with fail
      refine (K3.out _).mono ?_
      rintro e w4 ⟨rfl, hb4⟩
      have S4 := Lib.hid (S3.out.ext hb4)
      clear hb4 S3
      go_wp2_with fail
      go_ret
      exact ⟨by first | rfl | simp [q5], S4.out.bel⟩
    · have hg' : (g == 0) = false := by simpa using hg
      clear q4
      as_aux_lemma =>
      go_enter Try.func14, Try.ntmps14
      go_wp2_with fail
      refine (KA _).mono ?_
      rintro e w1 ⟨rfl, hb1⟩
      have S1 := Lib.hid (S0.out.ext hb1)
      clear hb1 S0
      go_wp2_with fail
      refine (K1.out _).mono ?_
      rintro e w2 ⟨rfl, hb2⟩
      have S2 := Lib.hid (S1.out.ext hb2)
      clear hb2 S1
      go_wp2_with fail
      refine (K2.out _).mono ?_
      rintro e w3 ⟨rfl, hb3⟩
      have S3 := Lib.hid (S2.out.ext hb3)
      clear hb3 S2
      go_wp2_with fail
      refine (K3.out _).mono ?_
      rintro e w4 ⟨rfl, hb4⟩
      have S4 := Lib.hid (S3.out.ext hb4)
      clear hb4 S3
      go_wp2_with fail
      go_ret
      exact ⟨by first | rfl | simp, S4.out.bel⟩
  · have hk' : ((K : Int) == 0) = false := by simp; omega
    clear q1 q2 q3
    by_cases hg : g = 0
    · subst hg
      have q5 := q4 rfl
      clear q4
      as_aux_lemma =>
      go_enter Try.func14, Try.ntmps14
      go_wp2_with fail
      refine (KA _).mono ?_
      rintro e w1 ⟨rfl, hb1⟩
      have S1 := Lib.hid (S0.out.ext hb1)
      clear hb1 S0
      go_wp2_with fail
      refine (K1.out _).mono ?_
      rintro e w2 ⟨rfl, hb2⟩
      have S2 := Lib.hid (S1.out.ext hb2)
      clear hb2 S1
      go_wp2_with fail
      refine (K2.out _).mono ?_
      rintro e w3 ⟨rfl, hb3⟩
      have S3 := Lib.hid (S2.out.ext hb3)
      clear hb3 S2
      go_wp2_with fail
      refine (K3.out _).mono ?_
      rintro e w4 ⟨rfl, hb4⟩
      have S4 := Lib.hid (S3.out.ext hb4)
      clear hb4 S3
      go_wp2_with fail
      go_ret
      exact ⟨by first | rfl | simp [q5], S4.out.bel⟩
    · have hg' : (g == 0) = false := by simpa using hg
      clear q4
      as_aux_lemma =>
      go_enter Try.func14, Try.ntmps14
      go_wp2_with fail
      refine (KA _).mono ?_
      rintro e w1 ⟨rfl, hb1⟩
      have S1 := Lib.hid (S0.out.ext hb1)
      clear hb1 S0
      go_wp2_with fail
      refine (K1.out _).mono ?_
      rintro e w2 ⟨rfl, hb2⟩
      have S2 := Lib.hid (S1.out.ext hb2)
      clear hb2 S1
      go_wp2_with fail
      refine (K2.out _).mono ?_
      rintro e w3 ⟨rfl, hb3⟩
      have S3 := Lib.hid (S2.out.ext hb3)
      clear hb3 S2
      go_wp2_with fail
      refine (K3.out _).mono ?_
      rintro e w4 ⟨rfl, hb4⟩
      have S4 := Lib.hid (S3.out.ext hb4)
      clear hb4 S3
      go_wp2_with fail
      go_ret
      exact ⟨by first | rfl | simp, S4.out.bel⟩
end Go.Proofs.Ytnalbchggjepdaa
