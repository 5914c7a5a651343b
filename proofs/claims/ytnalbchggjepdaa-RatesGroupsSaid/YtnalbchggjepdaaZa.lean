/- Rates: doubles and points of the reference. No condition. -/
import Derived.Test.YtnalbchggjepdaaXi
import Derived.Test.YtnalbchggjepdaaTe
namespace Go.Proofs.Ytnalbchggjepdaa
open Go.RowKit Go.Shelf
attribute [local go_sem] Oper.semAt_some

set_option maxRecDepth 100000 in
set_option maxHeartbeats 2000000 in
theorem refDoubles_any (A : Option Addr) (l : List Dbl) (n c : Nat) (w : World) (hr : Rd w A (flat encD l)) (hn : n = l.length) (hl : n ≤ 1000000) :
    Calls Try.prog 45 #[.slice A n c] w fun e w' => e = .returned (.int .i64 (dblE l)) ∧ Below w.heap.size w w' := by
  have HN := Lib.hid hn
  have HR := Lib.hid hr
  by_cases h1 : 200 < n
  · have HE := Lib.hid (show dblE l = 4 by unfold dblE; rw [if_pos (by omega)])
    have h1' : (200 : Int) < (n : Int) := by omega
    clear hr hn
    go_enter Try.func45, Try.ntmps45
    go_wp2_with fail
    go_ret
    exact ⟨by rw [HE.out]; rfl, Below.refl _ _⟩
  have HE := Lib.hid (show dblE l = if okD l then 0 else 2 by unfold dblE; rw [if_neg (by omega)])
  have h1' : ¬ (200 : Int) < (n : Int) := by omega
  clear hr hn
  go_enter Try.func45, Try.ntmps45
  go_wp2_with fail
  go_loopg [3] n (fun q u3 wr => ∃ k : Nat, k ≤ n ∧ u3 = .int .i64 (k : Nat) ∧ Hid (k + q = n ∧ okD (l.take k) = true ∧ Own w wr []))
  case atStart => exact ⟨0, Nat.zero_le _, rfl, by omega, rfl, Own.start w⟩
  case round =>
    obtain ⟨k, hk, rfl, hI⟩ := hrel
    have I1 := Lib.hid hI.out.1
    have I3 := Lib.hid hI.out.2.1
    have I2 := Lib.hid hI.out.2.2
    clear hI
    by_cases hlt : k < n
    · have hlt' : k < l.length := by rw [← HN.out]; exact hlt
      obtain ⟨b, off, rfl, hbs, c0, c1, c2⟩ := (HR.out.below I2.out.bel).dbl hlt'
      have HX := Lib.hid (fun h => okD_take hlt' I3.out h)
      have HX2 := Lib.hid (fun h => okD_here hlt' h)
      generalize l[k] = x at *
      obtain ⟨xa, xb, xs⟩ := x
      have hki : (k : Int) < (n : Int) := by omega
      have z1 : IntKind.i64.wrap ((k : Int) + 1) = ((k + 1 : Nat) : Int) := by rw [show (k : Int) + 1 = ((k + 1 : Nat) : Int) by omega]; exact IntWalk.i64_in _ (by omega)
      simp only at c0 c1 c2
      clear hlt'
      cases h2 : inB 0 1000 xa
      · have HX3 := Lib.hid (HX2.out (show dbB ⟨xa, xb, xs⟩ = false by simp [dbB, h2]))
        clear HX HX2
        as_aux_lemma =>
        go_wp2_with fail
        refine (within_any 0 1000 xa _).mono ?_
        rintro e w' ⟨rfl, rfl⟩
        rw [h2]
        clear h2
        go_wp2_with fail
        go_ret
        exact ⟨by rw [HE.out, HX3.out]; rfl, I2.out.bel⟩
      · cases h3 : inB 0 1000 xb
        · have HX3 := Lib.hid (HX2.out (show dbB ⟨xa, xb, xs⟩ = false by simp [dbB, h3]))
          clear HX HX2
          as_aux_lemma =>
          go_wp2_with fail
          refine (within_any 0 1000 xa _).mono ?_
          rintro e w' ⟨rfl, rfl⟩
          rw [h2]
          clear h2
          go_wp2_with fail
          refine (within_any 0 1000 xb _).mono ?_
          rintro e w' ⟨rfl, rfl⟩
          rw [h3]
          clear h3
          go_wp2_with fail
          go_ret
          exact ⟨by rw [HE.out, HX3.out]; rfl, I2.out.bel⟩
        · have HX3 := Lib.hid (HX.out (show dbB ⟨xa, xb, xs⟩ = true by simp [dbB, h2, h3]))
          clear HX HX2
          as_aux_lemma =>
          go_wp2_with fail
          refine (within_any 0 1000 xa _).mono ?_
          rintro e w' ⟨rfl, rfl⟩
          rw [h2]
          clear h2
          go_wp2_with fail
          refine (within_any 0 1000 xb _).mono ?_
          rintro e w' ⟨rfl, rfl⟩
          rw [h3]
          clear h3
          go_wp2_with fail
          go_roundg (gk - 1)
          case measure => have := I1.out; omega
          case rel => exact ⟨k + 1, by omega, rfl, by have := I1.out; omega, HX3.out, I2.out⟩
    · have hni : ¬ (k : Int) < (n : Int) := by omega
      have HX := Lib.hid (show okD l = true by have := I3.out; rwa [List.take_of_length_le (by rw [← HN.out]; omega)] at this)
      go_wp2_with fail
      go_ret
      exact ⟨by rw [HE.out, HX.out]; rfl, I2.out.bel⟩
set_option maxRecDepth 100000 in
set_option maxHeartbeats 2000000 in
theorem refAt_any (A : Option Addr) (l : List Dbl) (n c : Nat) (a b : Int) (w : World) (hr : Rd w A (flat encD l)) (hn : n = l.length) (hl : n ≤ 1000000) :
    Calls Try.prog 66 #[.slice A n c, .int .i64 a, .int .i64 b] w fun e w' => e = .returned (aggP (opF l a b)) ∧ Below w.heap.size w w' := by
  have HN := Lib.hid hn
  have HR := Lib.hid hr
  clear hr hn
  have S1 := Lib.hid (((Own.start w).new' 68 #[.int .i64 0, .int .i64 0, .int .i64 0, .int .i64 0] (B := w.heap.size) rfl).new' 68 #[.int .i64 a, .int .i64 b, .int .i64 0, .int .i64 0] (B := w.heap.size + 1) (by simp))
  go_enter Try.func66, Try.ntmps66
  go_wp2_with fail
  obtain ⟨B6, hB6⟩ : ∃ B, B = w.heap.size := ⟨_, rfl⟩
  obtain ⟨B7, hB7⟩ : ∃ B, B = B6 + 1 := ⟨_, rfl⟩
  rw [← hB6, ← hB7] at S1 ⊢
  clear hB7
  replace hB6 := Lib.hid hB6
  generalize (w.alloc _).alloc _ = w3 at *
  go_loopg [8] n (fun q u8 wr => ∃ k : Nat, k ≤ n ∧ u8 = .int .i64 (k : Nat) ∧ Hid (k + q = n ∧ Own w wr [box B7 68 [.int .i64 a, .int .i64 b, .int .i64 (accN (l.take k) a b : Nat), .int .i64 (refN (l.take k) a b : Nat)], box B6 68 [.int .i64 0, .int .i64 0, .int .i64 0, .int .i64 0]]))
  case atStart => exact ⟨0, Nat.zero_le _, rfl, by omega, S1.out⟩
  case round =>
    obtain ⟨k, hk, rfl, hI⟩ := hrel
    have I1 := Lib.hid hI.out.1
    have I2 := Lib.hid hI.out.2
    clear hI S1
    by_cases hlt : k < n
    · have hlt' : k < l.length := by rw [← HN.out]; exact hlt
      obtain ⟨bb, off, rfl, hbs, c0, c1, c2⟩ := (HR.out.below I2.out.bel).dbl hlt'
      have HA := Lib.hid (accN_take hlt' a b)
      have HF := Lib.hid (refN_take hlt' a b)
      have ha0 := accN_le (l.take k) a b
      have hf0 := refN_le (l.take k) a b
      rw [List.length_take] at ha0 hf0
      generalize l[k] = x at *
      obtain ⟨xa, xb, xs⟩ := x
      simp only at c0 c1 c2
      simp only [accB] at HA HF
      generalize accN (l.take k) a b = p at *
      generalize refN (l.take k) a b = r at *
      have hki : (k : Int) < (n : Int) := by omega
      have hp : p ≤ 1000000 := by omega
      have hq : r ≤ 1000000 := by omega
      have z1 : IntKind.i64.wrap ((p : Int) + 1) = (p : Int) + 1 := IntWalk.i64_in _ (by omega)
      have z2 : IntKind.i64.wrap ((r : Int) + 1) = (r : Int) + 1 := IntWalk.i64_in _ (by omega)
      have z3 : IntKind.i64.wrap ((k : Int) + 1) = ((k + 1 : Nat) : Int) := by rw [show (k : Int) + 1 = ((k + 1 : Nat) : Int) by omega]; exact IntWalk.i64_in _ (by omega)
      clear ha0 hf0 hlt'
      obtain ⟨d0, d1, d2, d3, df⟩ := (I2.out.bx 0 rfl).c4
      have dl := (I2.out.bx 0 rfl).2.2
      by_cases h1 : xa ≤ a
      · by_cases h2 : xb ≤ b
        · rcases xs with _ | _
          · as_aux_lemma =>
            have HA2 := Lib.hid (show (p : Int) + 1 = ((accN (l.take (k + 1)) a b : Nat) : Int) by rw [HA.out]; simp [h1, h2])
            have HF2 := Lib.hid (show (r : Int) = ((refN (l.take (k + 1)) a b : Nat) : Int) by rw [HF.out]; simp [h1, h2])
            go_wp2_with fail
            go_roundg (gk - 1)
            case measure => have := I1.out; omega
            case rel => exact ⟨k + 1, by omega, rfl, by have := I1.out; omega, by rw [← HA2.out, ← HF2.out]; exact I2.out.set 0 rfl 2 (.int .i64 ((p : Int) + 1))⟩
          · as_aux_lemma =>
            have HA2 := Lib.hid (show (p : Int) = ((accN (l.take (k + 1)) a b : Nat) : Int) by rw [HA.out]; simp [h1, h2])
            have HF2 := Lib.hid (show (r : Int) = ((refN (l.take (k + 1)) a b : Nat) : Int) by rw [HF.out]; simp [h1, h2])
            go_wp2_with fail
            go_roundg (gk - 1)
            case measure => have := I1.out; omega
            case rel => exact ⟨k + 1, by omega, rfl, by have := I1.out; omega, by rw [← HA2.out, ← HF2.out]; exact I2.out⟩
        · rcases xs with _ | _
          · as_aux_lemma =>
            have HA2 := Lib.hid (show (p : Int) = ((accN (l.take (k + 1)) a b : Nat) : Int) by rw [HA.out]; simp [h1, h2])
            have HF2 := Lib.hid (show (r : Int) = ((refN (l.take (k + 1)) a b : Nat) : Int) by rw [HF.out]; simp [h1, h2])
            go_wp2_with fail
            go_roundg (gk - 1)
            case measure => have := I1.out; omega
            case rel => exact ⟨k + 1, by omega, rfl, by have := I1.out; omega, by rw [← HA2.out, ← HF2.out]; exact I2.out⟩
          · as_aux_lemma =>
            have HA2 := Lib.hid (show (p : Int) = ((accN (l.take (k + 1)) a b : Nat) : Int) by rw [HA.out]; simp [h1, h2])
            have HF2 := Lib.hid (show (r : Int) + 1 = ((refN (l.take (k + 1)) a b : Nat) : Int) by rw [HF.out]; simp [h1, h2])
            go_wp2_with fail
            go_roundg (gk - 1)
            case measure => have := I1.out; omega
            case rel => exact ⟨k + 1, by omega, rfl, by have := I1.out; omega, by rw [← HA2.out, ← HF2.out]; exact I2.out.set 0 rfl 3 (.int .i64 ((r : Int) + 1))⟩
      · by_cases h2 : xb ≤ b
        · rcases xs with _ | _
          · as_aux_lemma =>
            have HA2 := Lib.hid (show (p : Int) = ((accN (l.take (k + 1)) a b : Nat) : Int) by rw [HA.out]; simp [h1, h2])
            have HF2 := Lib.hid (show (r : Int) = ((refN (l.take (k + 1)) a b : Nat) : Int) by rw [HF.out]; simp [h1, h2])
            go_wp2_with fail
            go_roundg (gk - 1)
            case measure => have := I1.out; omega
            case rel => exact ⟨k + 1, by omega, rfl, by have := I1.out; omega, by rw [← HA2.out, ← HF2.out]; exact I2.out⟩
          · as_aux_lemma =>
            have HA2 := Lib.hid (show (p : Int) = ((accN (l.take (k + 1)) a b : Nat) : Int) by rw [HA.out]; simp [h1, h2])
            have HF2 := Lib.hid (show (r : Int) + 1 = ((refN (l.take (k + 1)) a b : Nat) : Int) by rw [HF.out]; simp [h1, h2])
            go_wp2_with fail
            go_roundg (gk - 1)
            case measure => have := I1.out; omega
            case rel => exact ⟨k + 1, by omega, rfl, by have := I1.out; omega, by rw [← HA2.out, ← HF2.out]; exact I2.out.set 0 rfl 3 (.int .i64 ((r : Int) + 1))⟩
        · rcases xs with _ | _
          · as_aux_lemma =>
            have HA2 := Lib.hid (show (p : Int) = ((accN (l.take (k + 1)) a b : Nat) : Int) by rw [HA.out]; simp [h1, h2])
            have HF2 := Lib.hid (show (r : Int) = ((refN (l.take (k + 1)) a b : Nat) : Int) by rw [HF.out]; simp [h1, h2])
            go_wp2_with fail
            go_roundg (gk - 1)
            case measure => have := I1.out; omega
            case rel => exact ⟨k + 1, by omega, rfl, by have := I1.out; omega, by rw [← HA2.out, ← HF2.out]; exact I2.out⟩
          · as_aux_lemma =>
            have HA2 := Lib.hid (show (p : Int) = ((accN (l.take (k + 1)) a b : Nat) : Int) by rw [HA.out]; simp [h1, h2])
            have HF2 := Lib.hid (show (r : Int) + 1 = ((refN (l.take (k + 1)) a b : Nat) : Int) by rw [HF.out]; simp [h1, h2])
            go_wp2_with fail
            go_roundg (gk - 1)
            case measure => have := I1.out; omega
            case rel => exact ⟨k + 1, by omega, rfl, by have := I1.out; omega, by rw [← HA2.out, ← HF2.out]; exact I2.out.set 0 rfl 3 (.int .i64 ((r : Int) + 1))⟩
    · have hni : ¬ (k : Int) < (n : Int) := by omega
      have HA := Lib.hid (show l.take k = l by rw [List.take_of_length_le (by rw [← HN.out]; omega)])
      rw [HA.out] at I2
      obtain ⟨c0, c1, c2, c3, cf⟩ := (I2.out.bx 0 rfl).c4
      have clt := (I2.out.bx 0 rfl).2.2
      obtain ⟨d0, d1, d2, d3, df⟩ := (I2.out.bx 1 rfl).c4
      have dl := (I2.out.bx 1 rfl).2.2
      go_wp2_with fail
      have S9 := Lib.hid ((((I2.out.set 1 rfl 0 (.int .i64 a)).set 1 rfl 1 (.int .i64 b)).set 1 rfl 2 (.int .i64 (accN l a b : Nat))).set 1 rfl 3 (.int .i64 (refN l a b : Nat)))
      obtain ⟨q0, q1, q2, q3, _⟩ := (S9.out.bx 1 rfl).c4
      refine bodyPost_ret (v := aggP (opF l a b)) (by simp [results, Try.results66, go_sem, q0, q1, q2, q3, aggP, opF]) rfl ⟨rfl, S9.out.bel⟩
set_option maxRecDepth 100000 in
set_option maxHeartbeats 4000000 in
theorem refOperate_any (A : Option Addr) (l : List Dbl) (n c : Nat) (a b : Int) (w : World) (hr : Rd w A (flat encD l)) (hn : n = l.length) (hl : n ≤ 1000000) :
    Calls Try.prog 41 #[.slice A n c, .int .i64 a, .int .i64 b] w fun e w' => e = .returned (.tuple #[aggP (opeF l a b).1, .int .i64 (opeF l a b).2]) ∧ Below w.heap.size w w' := by
  obtain ⟨B, hB⟩ : ∃ B, B = w.heap.size := ⟨_, rfl⟩
  have S0 := Lib.hid ((Own.start w).new' 68 #[.int .i64 0, .int .i64 0, .int .i64 0, .int .i64 0] hB)
  replace hB := Lib.hid hB
  have K1 := Lib.hid (fun W (h : Below w.heap.size w W) => refDoubles_any A l n c W (hr.below h) hn hl)
  by_cases h0 : dblE l = 0
  case neg =>
    have HE := Lib.hid (show opeF l a b = (zeroP, dblE l) by simp [opeF, h0])
    rw [HE.out]
    generalize dblE l = v at *
    have h0' : (v == 0) = false := by simpa using h0
    clear hr hn h0
    go_enter Try.func41, Try.ntmps41
    go_wp2_with fail
    refine (K1.out _ S0.out.bel).mono ?_
    rintro e w1 ⟨rfl, hb1⟩
    have S1 := Lib.hid (S0.out.ext hb1)
    clear hb1 S0
    rw [← hB.out]
    obtain ⟨c0, c1, c2, c3, cf⟩ := (S1.out.bx 0 rfl).c4
    have cl := (S1.out.bx 0 rfl).2.2
    go_wp2_with fail
    have S9 := Lib.hid ((((S1.out.set 0 rfl 0 (.int .i64 0)).set 0 rfl 1 (.int .i64 0)).set 0 rfl 2 (.int .i64 0)).set 0 rfl 3 (.int .i64 0))
    obtain ⟨q0, q1, q2, q3, _⟩ := (S9.out.bx 0 rfl).c4
    refine bodyPost_ret (v := .tuple #[aggP zeroP, .int .i64 v]) (by simp [results, Try.results41, go_sem, q0, q1, q2, q3, aggP, zeroP]) rfl ⟨rfl, S9.out.bel⟩
  rw [h0] at K1
  have Ka := Lib.hid (fun W => within_any (-1) 1000 a W)
  have Kb := Lib.hid (fun W => within_any (-1) 1000 b W)
  cases h2 : inB (-1) 1000 a
  · have HE := Lib.hid (show opeF l a b = (zeroP, 2) by simp [opeF, h0, h2])
    rw [HE.out]
    rw [h2] at Ka
    clear hr hn h0 h2
    go_enter Try.func41, Try.ntmps41
    go_wp2_with fail
    refine (K1.out _ S0.out.bel).mono ?_
    rintro e w1 ⟨rfl, hb1⟩
    have S2 := Lib.hid (S0.out.ext hb1)
    clear hb1 S0
    rw [← hB.out]
    go_wp2_with fail
    refine (Ka.out _).mono ?_
    rintro e w' ⟨rfl, rfl⟩
    obtain ⟨c0, c1, c2, c3, cf⟩ := (S2.out.bx 0 rfl).c4
    have cl := (S2.out.bx 0 rfl).2.2
    go_wp2_with fail
    have S9 := Lib.hid ((((S2.out.set 0 rfl 0 (.int .i64 0)).set 0 rfl 1 (.int .i64 0)).set 0 rfl 2 (.int .i64 0)).set 0 rfl 3 (.int .i64 0))
    obtain ⟨q0, q1, q2, q3, _⟩ := (S9.out.bx 0 rfl).c4
    refine bodyPost_ret (v := .tuple #[aggP zeroP, .int .i64 2]) (by simp [results, Try.results41, go_sem, q0, q1, q2, q3, aggP, zeroP]) rfl ⟨rfl, S9.out.bel⟩
  cases h3 : inB (-1) 1000 b
  · have HE := Lib.hid (show opeF l a b = (zeroP, 2) by simp [opeF, h0, h3])
    rw [HE.out]
    rw [h2] at Ka
    rw [h3] at Kb
    clear hr hn h0 h2 h3
    go_enter Try.func41, Try.ntmps41
    go_wp2_with fail
    refine (K1.out _ S0.out.bel).mono ?_
    rintro e w1 ⟨rfl, hb1⟩
    have S2 := Lib.hid (S0.out.ext hb1)
    clear hb1 S0
    rw [← hB.out]
    go_wp2_with fail
    refine (Ka.out _).mono ?_
    rintro e w' ⟨rfl, rfl⟩
    go_wp2_with fail
    refine (Kb.out _).mono ?_
    rintro e w' ⟨rfl, rfl⟩
    obtain ⟨c0, c1, c2, c3, cf⟩ := (S2.out.bx 0 rfl).c4
    have cl := (S2.out.bx 0 rfl).2.2
    go_wp2_with fail
    have S9 := Lib.hid ((((S2.out.set 0 rfl 0 (.int .i64 0)).set 0 rfl 1 (.int .i64 0)).set 0 rfl 2 (.int .i64 0)).set 0 rfl 3 (.int .i64 0))
    obtain ⟨q0, q1, q2, q3, _⟩ := (S9.out.bx 0 rfl).c4
    refine bodyPost_ret (v := .tuple #[aggP zeroP, .int .i64 2]) (by simp [results, Try.results41, go_sem, q0, q1, q2, q3, aggP, zeroP]) rfl ⟨rfl, S9.out.bel⟩
  · have HE := Lib.hid (show opeF l a b = (opF l a b, 0) by simp [opeF, h0, h2, h3])
    rw [HE.out]
    rw [h2] at Ka
    rw [h3] at Kb
    have K3 := Lib.hid (fun W (h : Below w.heap.size w W) => refAt_any A l n c a b W (hr.below h) hn hl)
    generalize opF l a b = p at *
    obtain ⟨pa, pb, pc, pr⟩ := p
    simp only [aggP] at K3 ⊢
    clear hr hn h0 h2 h3
    go_enter Try.func41, Try.ntmps41
    go_wp2_with fail
    refine (K1.out _ S0.out.bel).mono ?_
    rintro e w1 ⟨rfl, hb1⟩
    have S2 := Lib.hid (S0.out.ext hb1)
    clear hb1 S0
    rw [← hB.out]
    go_wp2_with fail
    refine (Ka.out _).mono ?_
    rintro e w' ⟨rfl, rfl⟩
    go_wp2_with fail
    refine (Kb.out _).mono ?_
    rintro e w' ⟨rfl, rfl⟩
    go_wp2_with fail
    refine (K3.out _ S2.out.bel).mono ?_
    rintro e w3 ⟨rfl, hb3⟩
    have S3 := Lib.hid (S2.out.ext hb3)
    clear hb3 S2
    obtain ⟨c0, c1, c2, c3, cf⟩ := (S3.out.bx 0 rfl).c4
    have cl := (S3.out.bx 0 rfl).2.2
    go_wp2_with fail
    have S9 := Lib.hid ((((S3.out.set 0 rfl 0 (.int .i64 pa)).set 0 rfl 1 (.int .i64 pb)).set 0 rfl 2 (.int .i64 pc)).set 0 rfl 3 (.int .i64 pr))
    obtain ⟨q0, q1, q2, q3, _⟩ := (S9.out.bx 0 rfl).c4
    refine bodyPost_ret (v := .tuple #[.agg #[.int .i64 pa, .int .i64 pb, .int .i64 pc, .int .i64 pr], .int .i64 0]) (by simp [results, Try.results41, go_sem, q0, q1, q2, q3]) rfl ⟨rfl, S9.out.bel⟩
set_option maxRecDepth 100000 in
theorem better_any (p q : Pt) (w : World) : Calls Try.prog 75 #[aggP p, aggP q] w fun e w' => e = .returned (.bool (betB p q)) ∧ Below w.heap.size w w' := by
  obtain ⟨pa, pb, pc, pr⟩ := p
  obtain ⟨qa, qb, qc, qr⟩ := q
  have HE := Lib.hid (show betB ⟨pa, pb, pc, pr⟩ ⟨qa, qb, qc, qr⟩ = (decide (pc ≤ qc) && decide (pr ≤ qr) && (decide (pc < qc) || decide (pr < qr))) from rfl)
  rw [HE.out]
  simp only [aggP]
  have hb : Below w.heap.size w ((w.alloc (.cells #[.int .i64 pa, .int .i64 pb, .int .i64 pc, .int .i64 pr] 68)).alloc (.cells #[.int .i64 qa, .int .i64 qb, .int .i64 qc, .int .i64 qr] 68)) := below_more (below_alloc _ _) _
  by_cases h1 : pc ≤ qc
  · by_cases h2 : pr ≤ qr
    · by_cases h3 : pc < qc
      · go_enter Try.func75, Try.ntmps75
        go_wp2_with fail
        go_ret
        exact ⟨by first | rfl | (simp; omega), hb⟩
      · go_enter Try.func75, Try.ntmps75
        go_wp2_with fail
        go_ret
        exact ⟨by first | rfl | (simp; omega), hb⟩
    · go_enter Try.func75, Try.ntmps75
      go_wp2_with fail
      go_ret
      exact ⟨by first | rfl | (simp; omega), hb⟩
  · go_enter Try.func75, Try.ntmps75
    go_wp2_with fail
    go_ret
    exact ⟨by first | rfl | (simp; omega), hb⟩
end Go.Proofs.Ytnalbchggjepdaa
