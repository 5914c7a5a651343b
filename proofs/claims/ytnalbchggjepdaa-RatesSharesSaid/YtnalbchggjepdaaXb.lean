/- Rates: the walk of RatesShares. No condition. -/
import Derived.Test.YtnalbchggjepdaaXa
namespace Go.Proofs.Ytnalbchggjepdaa
open Go.RowKit Go.Shelf
attribute [local go_sem] Oper.semAt_some

/-- RatesShares in plain words. -/
theorem shares_law {l : List Int} {n1 d1 n2 d2 a b : Int} (h : thrF l n1 d1 = (a, 0)) (k : thrF l n2 d2 = (b, 0)) :
    shareB n1 d1 = true ∧ shareB n2 d2 = true ∧ (¬ n2 * d1 < n1 * d2 → a ≤ b) ∧ IntKind.i64.wrap (n1 * d2) = n1 * d2 ∧ IntKind.i64.wrap (n2 * d1) = n2 * d1 := by
  obtain ⟨h1, h2, h3⟩ := thrF_ok h
  obtain ⟨_, k2, k3⟩ := thrF_ok k
  obtain ⟨s1, s2, s3⟩ := share_of h2
  obtain ⟨s4, s5, s6⟩ := share_of k2
  obtain ⟨_, l2⟩ := scoE_ok h1
  have p1 := mul_bd (a := n1) (b := d2) (A := 1000) (B := 1000) (by omega) (by omega) (by omega) (by omega)
  have p2 := mul_bd (a := n2) (b := d1) (A := 1000) (B := 1000) (by omega) (by omega) (by omega) (by omega)
  refine ⟨h2, k2, fun hs => ?_, IntWalk.i64_in _ (by omega), IntWalk.i64_in _ (by omega)⟩
  rw [h3, k3]
  exact lim_mono l2 h2 k2 (by omega)
theorem rev_take {l : List Int} {i : Nat} (h : i < l.length) : ints (l.reverse.take i) ++ [.int .i64 (l[l.length - 1 - i]'(by omega))] = ints (l.reverse.take (i + 1)) := by
  have hr : i < l.reverse.length := by simpa using h
  rw [List.take_succ_eq_append_getElem hr, ints_app, List.getElem_reverse]
set_option maxRecDepth 100000 in
set_option maxHeartbeats 4000000 in
theorem ratesShares_walk (KA : AliveOk) (A : Option Addr) (l : List Int) (n c : Nat) (n1 d1 n2 d2 : Int) (w : World) (hr : Rd w A (ints l)) (hn : n = l.length) :
    Calls Try.prog 10 #[.slice A n c, .agg #[.int .i64 n1, .int .i64 d1], .agg #[.int .i64 n2, .int .i64 d2]] w fun e w' => e = .returned (.bool true) ∧ Below w.heap.size w w' := by
  obtain ⟨B, hB⟩ : ∃ B, B = w.heap.size := ⟨_, rfl⟩
  obtain ⟨B2, hB2⟩ : ∃ B2, B2 = B + 1 := ⟨_, rfl⟩
  have S0 := Lib.hid (((Own.start w).new' 23 #[.int .i64 n1, .int .i64 d1] hB).new' 23 #[.int .i64 n2, .int .i64 d2] (B := B2) (by simp [hB2, hB]))
  replace hB := Lib.hid hB
  replace hB2 := Lib.hid (show B + 1 = B2 from hB2.symm)
  by_cases hbig : 60 < n
  · have hb : (60 : Int) < (n : Int) := by omega
    clear hr hn
    go_enter Try.func10, Try.ntmps10
    go_wp2_with fail
    refine (KA _).mono ?_
    rintro e w1 ⟨rfl, hb1⟩
    have S1 := Lib.hid (S0.out.ext hb1)
    clear hb1 S0
    go_wp2_with fail
    go_ret
    exact ⟨rfl, S1.out.bel⟩
  have hb : ¬ (60 : Int) < (n : Int) := by omega
  obtain ⟨a, e1, ha⟩ : ∃ a b, thrF l n1 d1 = (a, b) := ⟨_, _, rfl⟩
  obtain ⟨b, e2, hb2⟩ : ∃ a b, thrF l n2 d2 = (a, b) := ⟨_, _, rfl⟩
  have hc : thrF l.reverse n1 d1 = (a, e1) := by rw [← ha]; exact thrF_congr (List.reverse_perm l) n1 d1
  have K1 := Lib.hid (fun W (h : Below w.heap.size w W) => threshold_any A l n c n1 d1 W (hr.below h) hn (by omega))
  have K2 := Lib.hid (fun W (h : Below w.heap.size w W) => threshold_any A l n c n2 d2 W (hr.below h) hn (by omega))
  have K3 := Lib.hid (fun A c W (h : Rd W A (ints l.reverse)) => threshold_any A l.reverse n c n1 d1 W h (by rw [List.length_reverse]; exact hn) (by omega))
  rw [ha] at K1
  rw [hb2] at K2
  rw [hc] at K3
  have HA := Lib.hid ha
  have HB := Lib.hid hb2
  have HR := Lib.hid hr
  have HN := Lib.hid hn
  have hn60 : n ≤ 60 := by omega
  clear hr hn ha hb2 hc hbig
  go_enter Try.func10, Try.ntmps10
  go_wp2_with fail
  refine (KA _).mono ?_
  rintro e w1 ⟨rfl, hb1⟩
  have S1 := Lib.hid ((S0.out.ext hb1).nil 3 1)
  clear hb1 S0
  rw [← hB.out, hB2.out]
  go_wp2_with fail
  go_loopg [8, 27] n (fun q u8 u27 wr => ∃ i : Nat, ∃ A8 c8, i ≤ n ∧ u27 = .int .i64 (i : Nat) ∧ u8 = .slice A8 i c8 ∧ Hid (i + q = n ∧ Own w wr [row 3 1 (.slice A8 i c8) i (ints (l.reverse.take i)), box B2 23 [.int .i64 n2, .int .i64 d2], box B 23 [.int .i64 n1, .int .i64 d1]]))
  case atStart => exact ⟨0, none, 0, Nat.zero_le _, rfl, rfl, by omega, S1.out⟩
  case round =>
    obtain ⟨i, A8, c8, hi, rfl, rfl, hI⟩ := hrel
    have I1 := Lib.hid hI.out.1
    have I2 := Lib.hid hI.out.2
    clear hI S1
    by_cases hlt : i < n
    · as_aux_lemma =>
      obtain ⟨m, hm⟩ : ∃ m, m = n - 1 - i := ⟨_, rfl⟩
      have hil : i < l.length := by rw [← HN.out]; exact hlt
      have hix : (i : Int) < (n : Int) := by omega
      have hml : m < l.length := by rw [← HN.out]; omega
      have HRT := Lib.hid (rev_take hil)
      simp only [← HN.out, ← hm] at HRT
      obtain ⟨bb, off, rfl, c0, hbs⟩ := (HR.out.below I2.out.bel).int hml
      generalize l[m] = x at *
      have z1 : IntKind.i64.wrap ((n : Int) - 1) = (n : Int) - 1 := IntWalk.i64_in _ (by omega)
      have z2 : IntKind.i64.wrap ((n : Int) - 1 - (i : Int)) = (m : Int) := by rw [show (n : Int) - 1 - (i : Int) = (m : Int) by omega]; exact IntWalk.i64_in _ (by omega)
      have z3 : (m : Int) < (n : Int) := by omega
      clear hm hil hml
      have I3 := Lib.hid (I2.out.ext (below_alloc wr (.cells #[.int .i64 x] 3)))
      have HN3 := Lib.hid (Rd.new wr #[.int .i64 x] 3)
      go_wp2_with (at_builtin; go_loud (refine wpList_appP rfl (.tmp 30) (.tmp 39) 36 rfl st36 0 I3.out rfl rfl rfl (i + 1) (ints (l.reverse.take (i + 1))) ?_ (ints [x]) (by omega) HRT.out HN3.out (by simp [ints]) (ints_one [x]) (by unfold maxLen; omega) (by omega); intro A9 c9 w9 hS9); have S9 := Lib.hid (hS9.cast (qs := [row 3 1 (.slice A9 (i + 1) c9) (i + 1) (ints (l.reverse.take (i + 1))), box B2 23 [.int .i64 n2, .int .i64 d2], box B 23 [.int .i64 n1, .int .i64 d1]]) rfl); clear hS9 I3 HN3 I2 c0 hbs)
      go_roundg (gk - 1)
      case measure => have := I1.out; omega
      case rel => exact ⟨i + 1, A9, c9, by omega, by go_num, rfl, by have := I1.out; omega, S9.out⟩
    · obtain rfl : i = n := by omega
      have hni : ¬ (i : Int) < (i : Int) := by omega
      have HT := Lib.hid (show l.reverse.take i = l.reverse by rw [List.take_of_length_le (by rw [List.length_reverse, ← HN.out]; exact Nat.le_refl _)])
      rw [HT.out] at I2
      clear HT I1
      obtain ⟨c0, c1, _⟩ := (I2.out.bx 2 rfl).c2
      have cl := (I2.out.bx 2 rfl).2.2
      go_wp2_with fail
      refine (K1.out _ I2.out.bel).mono ?_
      rintro e w2 ⟨rfl, hb2⟩
      have S2 := Lib.hid (I2.out.ext hb2)
      clear hb2 I2 c0 c1 cl K1
      obtain ⟨c0, c1, _⟩ := (S2.out.bx 1 rfl).c2
      have cl := (S2.out.bx 1 rfl).2.2
      go_wp2_with fail
      refine (K2.out _ S2.out.bel).mono ?_
      rintro e w3 ⟨rfl, hb3⟩
      have S3 := Lib.hid (S2.out.ext hb3)
      clear hb3 S2 c0 c1 cl K2
      obtain ⟨c0, c1, _⟩ := (S3.out.bx 2 rfl).c2
      have cl := (S3.out.bx 2 rfl).2.2
      go_wp2_with fail
      refine (K3.out A8 c8 _ (S3.out.rd 0 rfl)).mono ?_
      rintro e w4 ⟨rfl, hb4⟩
      have S4 := Lib.hid (S3.out.ext hb4)
      clear hb4 S3 c0 c1 cl K3
      by_cases hf : e1 = 0
      case neg =>
        have hf' : (e1 == 0) = false := by simpa using hf
        as_aux_lemma =>
        go_wp2_with fail
        go_ret
        exact ⟨rfl, S4.out.bel⟩
      subst hf
      by_cases hg : e2 = 0
      case neg =>
        have hg' : (e2 == 0) = false := by simpa using hg
        as_aux_lemma =>
        go_wp2_with fail
        go_ret
        exact ⟨rfl, S4.out.bel⟩
      subst hg
      obtain ⟨s1, s2, hi2, z1, z2⟩ := shares_law HA.out HB.out
      have K4 := Lib.hid (fun W => validShare_any n1 d1 W)
      have K5 := Lib.hid (fun W => validShare_any n2 d2 W)
      rw [s1] at K4
      rw [s2] at K5
      clear HA HB s1 s2
      obtain ⟨c0, c1, _⟩ := (S4.out.bx 2 rfl).c2
      have cl := (S4.out.bx 2 rfl).2.2
      go_wp2_with fail
      refine (K4.out _).mono ?_
      rintro e w5 ⟨rfl, hb5⟩
      have S5 := Lib.hid (S4.out.ext hb5)
      clear hb5 S4 K4 c0 c1 cl
      obtain ⟨c0, c1, _⟩ := (S5.out.bx 1 rfl).c2
      have cl := (S5.out.bx 1 rfl).2.2
      go_wp2_with fail
      refine (K5.out _).mono ?_
      rintro e w6 ⟨rfl, hb6⟩
      have S6 := Lib.hid (S5.out.ext hb6)
      clear hb6 S5 K5 c0 c1 cl
      obtain ⟨c0, c1, _⟩ := (S6.out.bx 2 rfl).c2
      have cl := (S6.out.bx 2 rfl).2.2
      obtain ⟨d0, d1', _⟩ := (S6.out.bx 1 rfl).c2
      have dl := (S6.out.bx 1 rfl).2.2
      by_cases h3 : n2 * d1 < n1 * d2
      · as_aux_lemma =>
        clear hi2
        go_wp2_with fail
        go_ret
        exact ⟨rfl, S6.out.bel⟩
      · have h4 := hi2 (by omega)
        clear hi2
        as_aux_lemma =>
        go_wp2_with fail
        go_ret
        exact ⟨by first | rfl | simp [h4], S6.out.bel⟩
end Go.Proofs.Ytnalbchggjepdaa
