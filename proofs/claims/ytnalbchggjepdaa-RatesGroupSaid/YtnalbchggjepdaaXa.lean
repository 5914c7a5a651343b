/- Rates: the walk of RatesPlace. No condition. -/
import Derived.Test.YtnalbchggjepdaaWb
import Derived.Test.YtnalbchggjepdaaUe
namespace Go.Proofs.Ytnalbchggjepdaa
open Go.RowKit Go.Shelf
attribute [local go_sem] Oper.semAt_some

/-- The chapter's examples hold. -/
def AliveOk : Prop := ∀ w : World, Calls Try.prog 46 #[] w fun e w' => e = .returned (.bool true) ∧ Below w.heap.size w w'
theorem thrF_ok {l : List Int} {num den t : Int} (h : thrF l num den = (t, 0)) : scoE l = 0 ∧ shareB num den = true ∧ t = limF l num den := by
  unfold thrF at h
  split at h
  · split at h
    · injection h with h1 h2; exact ⟨by assumption, by assumption, h1.symm⟩
    · injection h with h1 h2; cases h2
  · injection h with h1 h2; contradiction
theorem chaF_ok {l : List Int} {s x y : Int} (h : chaF l s = ((x, y), 0)) : scoE l = 0 ∧ inB 0 1000 s = true ∧ x = 1 + ((atm l s : Nat) : Int) ∧ y = 1 + (l.length : Int) := by
  unfold chaF at h
  split at h
  · split at h
    · injection h with h1 h2
      injection h1 with h1 h3
      exact ⟨by assumption, by assumption, h1.symm, h3.symm⟩
    · injection h with h1 h2; cases h2
  · injection h with h1 h2; contradiction
theorem mul_bd {a b A B : Int} (ha : 0 ≤ a) (hA : a ≤ A) (hb : 0 ≤ b) (hB : b ≤ B) : 0 ≤ a * b ∧ a * b ≤ A * B :=
  ⟨Int.mul_nonneg ha hb, Int.le_trans (Int.mul_le_mul_of_nonneg_right hA hb) (Int.mul_le_mul_of_nonneg_left hB (Int.le_trans ha hA))⟩
/-- RatesPlace in plain words. -/
theorem place_law {l : List Int} {num den t x y s : Int} (h : thrF l num den = (t, 0)) (k : chaF l s = ((x, y), 0)) : shareB num den = true ∧ (s ≤ t ↔ x * den ≤ num * y) ∧ IntKind.i64.wrap (x * den) = x * den ∧ IntKind.i64.wrap (num * y) = num * y := by
  obtain ⟨h1, h2, h3⟩ := thrF_ok h
  obtain ⟨_, k2, k3, k4⟩ := chaF_ok k
  obtain ⟨s1, s2, s3⟩ := share_of h2
  obtain ⟨l1, _⟩ := scoE_ok h1
  have ha := atm_le l s
  have e : (l.length : Int) + 1 = y := by omega
  have p1 := mul_bd (a := x) (b := den) (A := 61) (B := 1000) (by omega) (by omega) (by omega) (by omega)
  have p2 := mul_bd (a := num) (b := y) (A := 1000) (B := 61) (by omega) (by omega) (by omega) (by omega)
  refine ⟨h2, ?_, IntWalk.i64_in _ (by omega), IntWalk.i64_in _ (by omega)⟩
  rw [h3, limF_le k2 h2, pla_iff h2, e, k3]
set_option maxRecDepth 100000 in
set_option maxHeartbeats 4000000 in
theorem ratesPlace_walk (KA : AliveOk) (A : Option Addr) (l : List Int) (n c : Nat) (num den score : Int) (w : World) (hr : Rd w A (ints l)) (hn : n = l.length) :
    Calls Try.prog 9 #[.slice A n c, .agg #[.int .i64 num, .int .i64 den], .int .i64 score] w fun e w' => e = .returned (.bool true) ∧ Below w.heap.size w w' := by
  have S0 := Lib.hid ((Own.start w).new' 23 #[.int .i64 num, .int .i64 den] (B := w.heap.size) rfl)
  obtain ⟨B, hB⟩ : ∃ B, B = w.heap.size := ⟨_, rfl⟩
  rw [← hB] at S0
  replace hB := Lib.hid hB
  by_cases hbig : 60 < n
  · have hb : (60 : Int) < (n : Int) := by omega
    clear hr hn
    go_enter Try.func9, Try.ntmps9
    go_wp2_with fail
    refine (KA _).mono ?_
    rintro e w1 ⟨rfl, hb1⟩
    have S1 := Lib.hid (S0.out.ext hb1)
    clear hb1 S0
    go_wp2_with fail
    go_ret
    exact ⟨rfl, by rw [← hB.out]; exact hB.out ▸ S1.out.bel⟩
  have hb : ¬ (60 : Int) < (n : Int) := by omega
  obtain ⟨t, f, ht⟩ : ∃ a b, thrF l num den = (a, b) := ⟨_, _, rfl⟩
  obtain ⟨x, y, g, hc⟩ : ∃ a b c, chaF l score = ((a, b), c) := ⟨_, _, _, rfl⟩
  have K1 := Lib.hid (fun W (h : Below w.heap.size w W) => threshold_any A l n c num den W (hr.below h) hn (by omega))
  have K2 := Lib.hid (fun W (h : Below w.heap.size w W) => chance_any A l n c score W (hr.below h) hn (by omega))
  rw [ht] at K1
  rw [hc] at K2
  have HT := Lib.hid ht
  have HC := Lib.hid hc
  clear hr hn ht hc hbig
  by_cases hf : f = 0
  case neg =>
    have hf' : (f == 0) = false := by simpa using hf
    as_aux_lemma =>
    go_enter Try.func9, Try.ntmps9
    go_wp2_with fail
    refine (KA _).mono ?_
    rintro e w1 ⟨rfl, hb1⟩
    have S1 := Lib.hid (S0.out.ext hb1)
    clear hb1 S0
    obtain ⟨c0, c1, _⟩ := (S1.out.bx 0 rfl).c2
    have cl := (S1.out.bx 0 rfl).2.2
    rw [← hB.out]
    go_wp2_with fail
    refine (K1.out _ S1.out.bel).mono ?_
    rintro e w2 ⟨rfl, hb2⟩
    have S2 := Lib.hid (S1.out.ext hb2)
    clear hb2 S1 c0 c1 cl K1
    go_wp2_with fail
    refine (K2.out _ S2.out.bel).mono ?_
    rintro e w3 ⟨rfl, hb3⟩
    have S3 := Lib.hid (S2.out.ext hb3)
    clear hb3 S2 K2
    obtain ⟨B3, hB3⟩ : ∃ B3, B3 = w3.heap.size := ⟨_, rfl⟩
    have S4 := Lib.hid (S3.out.new' 23 #[.int .i64 x, .int .i64 y] hB3)
    obtain ⟨c0, c1, _⟩ := (S4.out.bx 1 rfl).c2
    have cl := (S4.out.bx 1 rfl).2.2
    obtain ⟨d0, d1, _⟩ := (S4.out.bx 0 rfl).c2
    have dl := (S4.out.bx 0 rfl).2.2
    go_upto_region 6 with (fail)
    rw [← hB3]
    clear hB3 S3
    generalize w3.alloc _ = w4 at *
    go_wp2_with fail
    go_ret
    exact ⟨rfl, S4.out.bel⟩
  subst hf
  by_cases hg : g = 0
  case neg =>
    have hg' : (g == 0) = false := by simpa using hg
    as_aux_lemma =>
    go_enter Try.func9, Try.ntmps9
    go_wp2_with fail
    refine (KA _).mono ?_
    rintro e w1 ⟨rfl, hb1⟩
    have S1 := Lib.hid (S0.out.ext hb1)
    clear hb1 S0
    obtain ⟨c0, c1, _⟩ := (S1.out.bx 0 rfl).c2
    have cl := (S1.out.bx 0 rfl).2.2
    rw [← hB.out]
    go_wp2_with fail
    refine (K1.out _ S1.out.bel).mono ?_
    rintro e w2 ⟨rfl, hb2⟩
    have S2 := Lib.hid (S1.out.ext hb2)
    clear hb2 S1 c0 c1 cl K1
    go_wp2_with fail
    refine (K2.out _ S2.out.bel).mono ?_
    rintro e w3 ⟨rfl, hb3⟩
    have S3 := Lib.hid (S2.out.ext hb3)
    clear hb3 S2 K2
    obtain ⟨B3, hB3⟩ : ∃ B3, B3 = w3.heap.size := ⟨_, rfl⟩
    have S4 := Lib.hid (S3.out.new' 23 #[.int .i64 x, .int .i64 y] hB3)
    obtain ⟨c0, c1, _⟩ := (S4.out.bx 1 rfl).c2
    have cl := (S4.out.bx 1 rfl).2.2
    obtain ⟨d0, d1, _⟩ := (S4.out.bx 0 rfl).c2
    have dl := (S4.out.bx 0 rfl).2.2
    go_upto_region 6 with (fail)
    rw [← hB3]
    clear hB3 S3
    generalize w3.alloc _ = w4 at *
    go_wp2_with fail
    go_ret
    exact ⟨rfl, S4.out.bel⟩
  subst hg
  obtain ⟨hs, hi, z1, z2⟩ := place_law HT.out HC.out
  have K3 := Lib.hid (fun W => validShare_any num den W)
  rw [hs] at K3
  clear HT HC hs
  have HEQ := Lib.hid (show (decide (score ≤ t) == decide (x * den ≤ num * y)) = true by rw [beq_iff_eq]; exact decide_eq_decide.2 hi)
  clear hi
  as_aux_lemma =>
    go_enter Try.func9, Try.ntmps9
    go_wp2_with fail
    refine (KA _).mono ?_
    rintro e w1 ⟨rfl, hb1⟩
    have S1 := Lib.hid (S0.out.ext hb1)
    clear hb1 S0
    obtain ⟨c0, c1, _⟩ := (S1.out.bx 0 rfl).c2
    have cl := (S1.out.bx 0 rfl).2.2
    rw [← hB.out]
    go_wp2_with fail
    refine (K1.out _ S1.out.bel).mono ?_
    rintro e w2 ⟨rfl, hb2⟩
    have S2 := Lib.hid (S1.out.ext hb2)
    clear hb2 S1 c0 c1 cl K1
    go_wp2_with fail
    refine (K2.out _ S2.out.bel).mono ?_
    rintro e w3 ⟨rfl, hb3⟩
    have S3 := Lib.hid (S2.out.ext hb3)
    clear hb3 S2 K2
    obtain ⟨B3, hB3⟩ : ∃ B3, B3 = w3.heap.size := ⟨_, rfl⟩
    have S4 := Lib.hid (S3.out.new' 23 #[.int .i64 x, .int .i64 y] hB3)
    obtain ⟨c0, c1, _⟩ := (S4.out.bx 1 rfl).c2
    have cl := (S4.out.bx 1 rfl).2.2
    obtain ⟨d0, d1, _⟩ := (S4.out.bx 0 rfl).c2
    have dl := (S4.out.bx 0 rfl).2.2
    go_upto_region 6 with (fail)
    rw [← hB3]
    clear hB3 S3
    generalize w3.alloc _ = w4 at *
    go_wp2_with fail
    refine (K3.out _).mono ?_
    rintro e w5 ⟨rfl, hb5⟩
    have S5 := Lib.hid (S4.out.ext hb5)
    clear hb5 S4 K3 c0 c1 cl d0 d1 dl
    obtain ⟨c0, c1, _⟩ := (S5.out.bx 1 rfl).c2
    have cl := (S5.out.bx 1 rfl).2.2
    obtain ⟨d0, d1, _⟩ := (S5.out.bx 0 rfl).c2
    have dl := (S5.out.bx 0 rfl).2.2
    go_wp2_with fail
    go_ret
    exact ⟨by show Ending.returned (.bool (decide (score ≤ t) == decide (x * den ≤ num * y))) = _; rw [HEQ.out], S5.out.bel⟩
end Go.Proofs.Ytnalbchggjepdaa
