/- Words: the sort itself computes the plain sort. No condition. -/
import Derived.Test.YtnienfgaidccpaaDoorRh
import Derived.Test.YtnienfgaidccpaaDoorRp
namespace Go.Proofs.YtnienfgaidccpaaDoor
open Go.RowKit Go.Shelf
attribute [local go_sem] Oper.semAt_some

theorem hnt_two {H : Sort.Hint} (h : hnt H = 2) : H = .decreasing := by
  cases H with
  | unknown => exact absurd h (by decide)
  | increasing => exact absurd h (by decide)
  | decreasing => rfl
set_option maxRecDepth 100000 in
set_option maxHeartbeats 8000000 in
theorem pdq_any : ∀ (N : Nat) (w0 : World) (ps : List Piece) (g n c : Nat) (d : Array Nat) (W : World) (_ : Own w0 W (dat g n c d :: ps)) (a b limit : Nat) (_ : d.size = n) (_ : a ≤ b) (_ : b ≤ n) (_ : n ≤ 1000000) (_ : limit ≤ 1000) (_ : bel a b d) (_ : b - a < N),
    Calls Tryd.prog 98 #[.slice (some ⟨g, 0, none⟩) n c, .int .i64 (a : Nat), .int .i64 (b : Nat), .int .i64 (limit : Nat)] W fun e w' => e = .returned (.tuple #[]) ∧ Own w0 w' (dat g n c (Sort.pdq ltN d a b limit true true) :: ps) := by
  intro N
  induction N with
  | zero => intro _ _ _ _ _ _ _ _ _ _ _ _ _ _ _ _ _ h; exact absurd h (Nat.not_lt_zero _)
  | succ N ih =>
    intro w0 ps g n c d W hO a b limit hd hab hbn hn hl hBl hN
    have IH := Lib.hid ih
    have S0 := Lib.hid hO
    obtain ⟨R, hR⟩ : ∃ R, R = Sort.pdq ltN d a b limit true true := ⟨_, rfl⟩
    rw [← hR]
    have H0 := Lib.hid (show d.size = n ∧ bel a b d ∧ R = Sort.pdq ltN d a b limit true true from ⟨hd, hBl, hR⟩)
    obtain ⟨NB, hNB⟩ : ∃ NB, NB = b - a := ⟨_, rfl⟩
    have HN := Lib.hid (show NB ≤ N by omega)
    have HNB := Lib.hid hNB
    clear ih hO hd hR hBl hN hNB
    go_enter Tryd.func98, Tryd.ntmps98
    go_wp2_with fail
    go_loopg [1, 2, 3, 8, 9] (b - a) (fun q u1 u2 u3 u8 u9 wr => ∃ (x y l : Nat) (wb wp : Bool), (x ≤ y ∧ y ≤ n ∧ l ≤ 1000) ∧ u1 = .int .i64 ((x : Nat) : Int) ∧ u2 = .int .i64 ((y : Nat) : Int) ∧ u3 = .int .i64 ((l : Nat) : Int) ∧ u8 = .bool wb ∧ u9 = .bool wp ∧
      Hid (∃ d, d.size = n ∧ bel x y d ∧ R = Sort.pdq ltN d x y l wb wp ∧ q = y - x ∧ y - x ≤ NB ∧ Own w0 wr (dat g n c d :: ps)))
    case atStart => exact ⟨a, b, limit, true, true, by omega, rfl, rfl, rfl, rfl, rfl, d, H0.out.1, H0.out.2.1, H0.out.2.2, rfl, by rw [HNB.out]; exact Nat.le_refl _, S0.out⟩
    case round =>
      obtain ⟨x, y, l, wb, wp, hxy, rfl, rfl, rfl, rfl, rfl, hI⟩ := hrel
      obtain ⟨d, q1, q2, q3, q4, q5, q6⟩ := hI.out
      have I1 := Lib.hid q1
      have I2 := Lib.hid q2
      have I3 := Lib.hid q3
      have IQ := Lib.hid q4
      have IN := Lib.hid q5
      have I6 := Lib.hid q6
      clear hI q1 q2 q3 q4 q5 q6 H0 S0 HNB
      obtain ⟨L, hL⟩ : ∃ L, L = y - x := ⟨_, rfl⟩
      have zL : (y : Int) - (x : Int) = (L : Int) := by omega
      have zLw : IntKind.i64.wrap (L : Int) = (L : Int) := IntWalk.i64_in _ (by omega)
      have HL := Lib.hid hL
      clear hL
      by_cases h12 : L ≤ 12
      · as_aux_lemma =>
        have h12z : (L : Int) ≤ 12 := by omega
        have HE := Lib.hid (show R = Sort.insertionSort ltN d x y by rw [I3.out, Sort.pdq_small (by rw [← HL.out]; exact h12)])
        have K := Lib.hid (fun W hO => insSort_any w0 ps g n c d W hO x y I1.out (by omega) (by omega) hn)
        go_wp2_with (go_at_call 105; with_reducible refine (K.out _ I6.out).mono ?_; rintro e w8 ⟨rfl, q⟩; have S1 := Lib.hid q; clear q)
        refine bodyPost_ret (results_none rfl _ _ _) rfl ?_
        exact ⟨rfl, by rw [HE.out]; exact S1.out⟩
      as_aux_lemma =>
      have h12z : ¬ (L : Int) ≤ 12 := by omega
      by_cases hl0 : l = 0
      · as_aux_lemma =>
        have HE := Lib.hid (show R = Sort.heapSort ltN d x y by rw [I3.out, Sort.pdq_heap (by rw [← HL.out]; exact h12) hl0])
        subst hl0
        have K := Lib.hid (fun W hO => heapSort_any w0 ps g n c d W hO x y I1.out (by omega) (by omega) hn)
        go_wp2_with (go_at_call 106; with_reducible refine (K.out _ I6.out).mono ?_; rintro e w8 ⟨rfl, q⟩; have S1 := Lib.hid q; clear q)
        refine bodyPost_ret (results_none rfl _ _ _) rfl ?_
        exact ⟨rfl, by rw [HE.out]; exact S1.out⟩
      as_aux_lemma =>
      have hl0z : ¬ (l : Int) = 0 := by omega
      have hl0b : ((l : Int) == 0) = false := by simp [hl0]
      obtain ⟨D1, D2, D3, LM, PV, P0, H0, HT, PB, V⟩ := rdv_is d x y l wb wp (by rw [← HL.out]; exact h12) hl0 (by rw [I1.out]; omega) I2.out
      have V := Lib.hid V
      have h13 : x + 13 ≤ y := by have := HL.out; omega
      have hLM : LM ≤ 1000 := by have := V.out.lm; omega
      have hPV : x ≤ PV ∧ PV < y := V.out.pv
      have hP0 : x ≤ P0 ∧ P0 < y := V.out.p0
      have T1 := Lib.hid (V.out.s1.trans I1.out)
      have T2 := Lib.hid (V.out.s2.trans I1.out)
      have T3 := Lib.hid (V.out.s3.trans I1.out)
      obtain ⟨G1, rfl⟩ : ∃ G1 : Nat, G1 = gk := ⟨_, rfl⟩
      go_upto_if 35 with (fail)
      go_cut [3] from 19 to 133 (fun u3 wx => u3 = .int .i64 ((LM : Nat) : Int) ∧ Hid (Own w0 wx (dat g n c D1 :: ps)))
      case first =>
        as_aux_lemma =>
        cases wb
        · obtain ⟨e1, e2⟩ := V.out.wf rfl
          have zl : (l : Int) - 1 = (LM : Int) := by omega
          have zlw : IntKind.i64.wrap (LM : Int) = (LM : Int) := IntWalk.i64_in _ (by omega)
          have K := Lib.hid (fun W hO => break_any w0 ps g n c d W hO x y I1.out h13 (by omega) hn)
          rw [← e1] at K
          clear e1 e2
          go_wp2_with (go_at_call 107; with_reducible refine (K.out _ I6.out).mono ?_; rintro e w8 ⟨rfl, q⟩; have S1 := Lib.hid q; clear q)
          go_meet
          exact ⟨rfl, S1.out⟩
        · obtain ⟨e1, e2⟩ := V.out.wt rfl
          subst e1 e2
          go_wp2_with fail
          go_meet
          exact ⟨rfl, I6.out⟩
      case rest =>
      obtain ⟨rfl, S1⟩ := hcut
      have KC := Lib.hid (fun W hO => choosePivot_any w0 ps g n c D1 W hO x y T1.out h13 (by omega) hn)
      rw [V.out.ch] at KC
      clear I6
      go_upto_if 50 with (go_at_call 108; with_reducible refine (KC.out _ S1.out).mono ?_; rintro e w8 ⟨rfl, q⟩; have S2 := Lib.hid q; clear q)
      go_cut [11, 12] from 19 to 133 (fun u11 u12 wx => u11 = .int .i64 ((PV : Nat) : Int) ∧ u12 = .int .i64 (hnt HT) ∧ Hid (Own w0 wx (dat g n c D2 :: ps)))
      case first =>
        as_aux_lemma =>
        by_cases hh : H0 = .decreasing
        · obtain ⟨e1, e2, e3⟩ := V.out.dec hh
          have K := Lib.hid (fun W hO => reverse_any w0 ps g n c D1 W hO x y T1.out (by omega) (by omega) hn)
          rw [← e1] at K
          have HE := Lib.hid e3
          obtain ⟨y1, hy1⟩ : ∃ y1, y1 = y - 1 := ⟨_, rfl⟩
          obtain ⟨p1, hp1⟩ : ∃ p1, p1 = P0 - x := ⟨_, rfl⟩
          have z1 : (y : Int) - 1 = (y1 : Int) := by omega
          have z1w : IntKind.i64.wrap (y1 : Int) = (y1 : Int) := IntWalk.i64_in _ (by omega)
          have z2 : (P0 : Int) - (x : Int) = (p1 : Int) := by omega
          have z2w : IntKind.i64.wrap (p1 : Int) = (p1 : Int) := IntWalk.i64_in _ (by omega)
          have z3 : (y1 : Int) - (p1 : Int) = (PV : Int) := by omega
          have z3w : IntKind.i64.wrap (PV : Int) = (PV : Int) := IntWalk.i64_in _ (by omega)
          have hc : hnt H0 = 2 := by rw [hh]; rfl
          clear e1 e2 e3 hy1 hp1 hh
          go_wp2_with (go_at_call 109; with_reducible refine (K.out _ S2.out).mono ?_; rintro e w8 ⟨rfl, q⟩; have S3 := Lib.hid q; clear q)
          go_meet
          exact ⟨rfl, by rw [HE.out]; rfl, S3.out⟩
        · obtain ⟨e1, e2, e3⟩ := V.out.ndec hh
          have hc : ¬ hnt H0 = 2 := fun h => hh (hnt_two h)
          subst e1 e2 e3
          go_wp2_with fail
          go_meet
          exact ⟨rfl, rfl, S2.out⟩
      case rest =>
      obtain ⟨rfl, rfl, S3⟩ := hcut
      clear S1 S2 KC
      go_upto_region 15 with (fail)
      obtain ⟨CB, hCB⟩ : ∃ CB, CB = (wb && wp && decide (HT = .increasing)) := ⟨_, rfl⟩
      have HCB := Lib.hid hCB
      obtain ⟨wq, hwq⟩ : ∃ wq : World, wq = wc := ⟨_, rfl⟩
      rw [← hwq] at S3 ⊢
      clear hwq
      go_cut [68] from 19 to 133 (fun u68 wx => u68 = .bool CB ∧ Hid (wx = wq))
      case first =>
        as_aux_lemma =>
        cases wb <;> cases wp <;> cases HT <;>
          (subst hCB
           have hc0 : hnt .unknown = 0 := rfl
           have hc1 : hnt .increasing = 1 := rfl
           have hc2 : hnt .decreasing = 2 := rfl
           go_wp2_with fail
           go_meet
           exact ⟨by simp, rfl⟩)
      case rest =>
      obtain ⟨rfl, hw⟩ := hcut
      have hw2 := hw.out
      subst hw2
      clear hw hCB
      go_upto_if 68 with (fail)
      go_cut [3] from 19 to 133 (fun u3 wx => u3 = .int .i64 ((LM : Nat) : Int) ∧ Hid (PB = false ∧ Own w0 wx (dat g n c D3 :: ps)))
      case first =>
        as_aux_lemma =>
        cases CB
        · obtain ⟨e1, e2⟩ := V.out.pin HCB.out.symm
          go_wp2_with fail
          go_meet
          exact ⟨rfl, e2, by rw [e1]; exact S3.out⟩
        · have e1 := V.out.piy HCB.out.symm
          have K := Lib.hid (fun W hO => pins_any w0 ps g n c D2 W hO x y T2.out (by omega) (by omega) hn)
          rw [e1] at K
          dsimp only at K
          clear e1
          cases PB
          · go_wp2_with (go_at_call 110; with_reducible refine (K.out _ S3.out).mono ?_; rintro e w8 ⟨rfl, q⟩; have S4 := Lib.hid q; clear q)
            go_meet
            exact ⟨rfl, by trivial, S4.out⟩
          · have HE := Lib.hid (show R = D3 by rw [I3.out, V.out.done rfl])
            go_wp2_with (go_at_call 110; with_reducible refine (K.out _ S3.out).mono ?_; rintro e w8 ⟨rfl, q⟩; have S4 := Lib.hid q; clear q)
            refine bodyPost_ret (results_none rfl _ _ _) rfl ?_
            exact ⟨rfl, by rw [HE.out]; exact S4.out⟩
      case rest =>
      obtain ⟨rfl, hS4⟩ := hcut
      obtain ⟨rfl, hS4b⟩ := hS4.out
      have S4 := Lib.hid hS4b
      clear hS4 hS4b S3 HCB
      obtain ⟨TB, hTB⟩ : ∃ TB, TB = tst x PV D3 := ⟨_, rfl⟩
      have HTB := Lib.hid hTB
      clear hTB
      go_upto_region 17 with (fail)
      go_cut [87] from 19 to 133 (fun u87 wx => u87 = .bool TB ∧ Hid (Own w0 wx (dat g n c D3 :: ps)))
      case first =>
        as_aux_lemma =>
        by_cases hx0 : 0 < x
        case neg =>
          have hx0z : ¬ (0 : Int) < (x : Int) := by omega
          have HC := Lib.hid (show TB = false by rw [HTB.out, tst]; simp; omega)
          clear HTB
          go_wp2_with fail
          have hne : Nonempty (OwnOf w0 (dat g n c D3 :: ps)) := ⟨⟨_, S4.out⟩⟩
          refine wp_region_own S4.out (by kernel_rfl) (by kernel_rfl) ?_
          iterate 15 (go_big_quiet_step (fail))
          refine wpQuiet_nil ?_
          rintro wS5 ⟨z, hz⟩
          have S5 := Lib.hid (show Own w0 wS5 (dat g n c D3 :: ps) by rw [hz]; exact z.own)
          clear hz z S4 hne
          go_wp2_with fail
          go_meet
          exact ⟨congrArg Value.bool HC.out.symm, S5.out⟩
        have hx0z : (0 : Int) < (x : Int) := by omega
        obtain ⟨xm, hxm⟩ : ∃ xm, xm = x - 1 := ⟨_, rfl⟩
        have zxm : (x : Int) - 1 = (xm : Int) := by omega
        have zxmw : IntKind.i64.wrap (xm : Int) = (xm : Int) := IntWalk.i64_in _ (by omega)
        have hxmn : (xm : Int) < (n : Int) := by omega
        have hpn : (PV : Int) < (n : Int) := by omega
        have FA := Lib.hid (fun z : OwnOf w0 (dat g n c D3 :: ps) => z.own.rowAt (g := g) 0 rfl (at_arr (d := D3) (i := xm) (by have := T3.out; omega) rfl))
        have FB := Lib.hid (fun z : OwnOf w0 (dat g n c D3 :: ps) => z.own.rowAt (g := g) 0 rfl (at_arr (d := D3) (i := PV) (by have := T3.out; omega) rfl))
        have HC := Lib.hid (show TB = !ltN D3[xm]! D3[PV]! by rw [HTB.out, tst, ← hxm, decide_eq_true hx0, Bool.true_and])
        clear HTB
        generalize D3[xm]! = x1 at *
        generalize D3[PV]! = x2 at *
        have fa := FA.out
        have fb := FB.out
        have KL := Lib.hid (fun W1 => less_any x1 x2 W1)
        have hne : Nonempty (OwnOf w0 (dat g n c D3 :: ps)) := ⟨⟨_, S4.out⟩⟩
        clear FA FB hxm
        cases hl : ltN x1 x2
        all_goals
          rw [hl] at KL HC
          clear hl
          go_wp2_with fail
          refine wp_region_own S4.out (by kernel_rfl) (by kernel_rfl) ?_
          iterate 12 (go_big_quiet_step (fail))
          go_big_quiet_step ((go_at_call 111; exact own_same (KL.out _)))
          iterate 2 (go_big_quiet_step (fail))
          refine wpQuiet_nil ?_
          rintro wS5 ⟨z, hz⟩
          have S5 := Lib.hid (show Own w0 wS5 (dat g n c D3 :: ps) by rw [hz]; exact z.own)
          clear hz z S4 fa fb hne KL
          go_wp2_with fail
          go_meet
          exact ⟨congrArg Value.bool HC.out.symm, S5.out⟩
      case rest =>
      obtain ⟨rfl, S5⟩ := hcut
      clear S4
      cases TB
      case true => as_aux_lemma =>
        obtain ⟨mid, d4, h4⟩ : ∃ mid d4, Sort.partitionEqual ltN D3 x y PV = (mid, d4) := ⟨_, _, rfl⟩
        obtain ⟨r1, r2, r3, r4, r5⟩ := V.out.eq rfl HTB.out.symm mid d4 h4
        have K := Lib.hid (fun W hO => partEq_any w0 ps g n c D3 W hO x y PV T3.out hPV.1 hPV.2 (by omega) hn)
        rw [h4] at K
        dsimp only at K
        have HR := Lib.hid (show (d4.size = n ∧ bel mid y d4) ∧ R = Sort.pdq ltN d4 mid y LM wb wp from ⟨⟨by rw [r3]; exact I1.out, r4⟩, by rw [I3.out]; exact r5⟩)
        clear r3 r4 r5 h4
        have HM := Lib.hid r1
        clear r1
        go_wp2_with (go_at_call 112; with_reducible refine (K.out _ S5.out).mono ?_; rintro e w8 ⟨rfl, q⟩; have S6 := Lib.hid q; clear q)
        go_roundg (y - mid)
        case measure => have := IQ.out; have := HM.out; omega
        case rel => exact ⟨mid, y, LM, wb, wp, by omega, rfl, rfl, rfl, rfl, rfl, d4, HR.out.1.1, HR.out.1.2, HR.out.2, rfl, by have := IN.out; have := HM.out; omega, S6.out⟩
      as_aux_lemma =>
      obtain ⟨mid, ap, d4, h4⟩ : ∃ mid ap d4, Sort.partition ltN D3 x y PV = (mid, ap, d4) := ⟨_, _, _, rfl⟩
      obtain ⟨r1, r2, r3, r4, r5, rL, rR⟩ := V.out.pt rfl HTB.out.symm mid ap d4 h4
      have K := Lib.hid (fun W hO => part_any w0 ps g n c D3 W hO x y PV T3.out hPV.1 hPV.2 (by omega) hn)
      rw [h4] at K
      dsimp only at K
      have d4n : d4.size = n := by rw [r3]; exact I1.out
      obtain ⟨ll, hll⟩ : ∃ ll, ll = mid - x := ⟨_, rfl⟩
      obtain ⟨rl, hrl⟩ : ∃ rl, rl = y - mid := ⟨_, rfl⟩
      obtain ⟨L8, hL8⟩ : ∃ L8, L8 = L / 8 := ⟨_, rfl⟩
      have e8 : (y - x) / 8 = L8 := by rw [← HL.out, hL8]
      have zll : (mid : Int) - (x : Int) = (ll : Int) := by omega
      have zrl : (y : Int) - (mid : Int) = (rl : Int) := by omega
      have z8 : (L : Int).tdiv 8 = (L8 : Int) := by rw [Int.tdiv_eq_ediv_of_nonneg (by omega)]; omega
      have zllw : IntKind.i64.wrap (ll : Int) = (ll : Int) := IntWalk.i64_in _ (by omega)
      have zrlw : IntKind.i64.wrap (rl : Int) = (rl : Int) := IntWalk.i64_in _ (by omega)
      have z8w : IntKind.i64.wrap (L8 : Int) = (L8 : Int) := IntWalk.i64_in _ (by omega)
      have hmid : x ≤ mid ∧ mid < y := ⟨r1, r2⟩
      obtain ⟨M1, hM1⟩ : ∃ M1, M1 = mid + 1 := ⟨_, rfl⟩
      have zm1 : (mid : Int) + 1 = (M1 : Int) := by omega
      have zm1w : IntKind.i64.wrap (M1 : Int) = (M1 : Int) := IntWalk.i64_in _ (by omega)
      rw [← hll, ← hrl, e8, ← hM1] at rL rR
      rw [← hM1] at r5
      have HG := Lib.hid (show (y - M1 < G1 ∧ x ≤ M1 ∧ M1 ≤ y) ∧ mid - x < G1 ∧ G1 ≤ NB by have := IQ.out; have := IN.out; omega)
      have IHN := Lib.hid (show ∀ k, k < y - x → k < N by intro k hk; have := HN.out; have := IN.out; omega)
      by_cases hlt : ll < rl
      · as_aux_lemma =>
        have hltz : (ll : Int) < (rl : Int) := by omega
        obtain ⟨d5, hd5⟩ : ∃ d5, d5 = Sort.pdq ltN d4 x mid LM true true := ⟨_, rfl⟩
        obtain ⟨s1, s2, s3⟩ := rL hlt d5 hd5
        have K2 := Lib.hid (fun W hO => IH.out w0 ps g n c d4 W hO x mid LM d4n r1 (by omega) hn hLM r4 (IHN.out _ (by omega)))
        rw [← hd5] at K2
        have HR := Lib.hid (show (d5.size = n ∧ bel M1 y d5) ∧ R = Sort.pdq ltN d5 M1 y LM (decide (L8 ≤ ll)) ap from ⟨⟨by rw [s1]; exact I1.out, s2⟩, by rw [I3.out]; exact s3⟩)
        clear hM1 s1 s2 s3 hd5 rL rR r3 r4 r5 h4 hll hrl hL8 e8 d4n
        rcases Nat.lt_or_ge ll L8 with h8 | h8
        · as_aux_lemma =>
          have h8i : ¬ (L8 : Int) ≤ (ll : Int) := by omega
          rw [decide_eq_false (by omega)] at HR
          go_wp2_with (first | (go_at_call 113; with_reducible refine (K.out _ S5.out).mono ?_; rintro e w8 ⟨rfl, q⟩; have S6 := Lib.hid q; clear q) | (go_at_call 98; with_reducible refine (K2.out _ S6.out).mono ?_; rintro e w8 ⟨rfl, q⟩; have S7 := Lib.hid q; clear q))
          go_roundg (y - M1)
          case measure => have := HG.out; omega
          case rel => exact ⟨M1, y, LM, false, ap, by have := HG.out; omega, by go_num, by go_num, rfl, by first | rfl | (simp; omega), rfl, d5, HR.out.1.1, HR.out.1.2, HR.out.2, rfl, by have := HG.out; omega, S7.out⟩
        · as_aux_lemma =>
          have h8i : (L8 : Int) ≤ (ll : Int) := by omega
          rw [decide_eq_true (by omega)] at HR
          go_wp2_with (first | (go_at_call 113; with_reducible refine (K.out _ S5.out).mono ?_; rintro e w8 ⟨rfl, q⟩; have S6 := Lib.hid q; clear q) | (go_at_call 98; with_reducible refine (K2.out _ S6.out).mono ?_; rintro e w8 ⟨rfl, q⟩; have S7 := Lib.hid q; clear q))
          go_roundg (y - M1)
          case measure => have := HG.out; omega
          case rel => exact ⟨M1, y, LM, true, ap, by have := HG.out; omega, by go_num, by go_num, rfl, by first | rfl | (simp; omega), rfl, d5, HR.out.1.1, HR.out.1.2, HR.out.2, rfl, by have := HG.out; omega, S7.out⟩
      · as_aux_lemma =>
        have hltz : ¬ (ll : Int) < (rl : Int) := by omega
        obtain ⟨d5, hd5⟩ : ∃ d5, d5 = Sort.pdq ltN d4 M1 y LM true true := ⟨_, rfl⟩
        obtain ⟨s1, s2, s3⟩ := rR hlt d5 hd5
        have K2 := Lib.hid (fun W hO => IH.out w0 ps g n c d4 W hO M1 y LM d4n (by omega) (by omega) hn hLM r5 (IHN.out _ (by omega)))
        rw [← hd5] at K2
        have HR := Lib.hid (show (d5.size = n ∧ bel x mid d5) ∧ R = Sort.pdq ltN d5 x mid LM (decide (L8 ≤ rl)) ap from ⟨⟨by rw [s1]; exact I1.out, s2⟩, by rw [I3.out]; exact s3⟩)
        clear hM1 s1 s2 s3 hd5 rL rR r3 r4 r5 h4 hll hrl hL8 e8 d4n
        rcases Nat.lt_or_ge rl L8 with h8 | h8
        · as_aux_lemma =>
          have h8i : ¬ (L8 : Int) ≤ (rl : Int) := by omega
          rw [decide_eq_false (by omega)] at HR
          go_wp2_with (first | (go_at_call 113; with_reducible refine (K.out _ S5.out).mono ?_; rintro e w8 ⟨rfl, q⟩; have S6 := Lib.hid q; clear q) | (go_at_call 98; with_reducible refine (K2.out _ S6.out).mono ?_; rintro e w8 ⟨rfl, q⟩; have S7 := Lib.hid q; clear q))
          go_roundg (mid - x)
          case measure => have := HG.out; omega
          case rel => exact ⟨x, mid, LM, false, ap, by have := HG.out; omega, by go_num, by go_num, rfl, by first | rfl | (simp; omega), rfl, d5, HR.out.1.1, HR.out.1.2, HR.out.2, rfl, by have := HG.out; omega, S7.out⟩
        · as_aux_lemma =>
          have h8i : (L8 : Int) ≤ (rl : Int) := by omega
          rw [decide_eq_true (by omega)] at HR
          go_wp2_with (first | (go_at_call 113; with_reducible refine (K.out _ S5.out).mono ?_; rintro e w8 ⟨rfl, q⟩; have S6 := Lib.hid q; clear q) | (go_at_call 98; with_reducible refine (K2.out _ S6.out).mono ?_; rintro e w8 ⟨rfl, q⟩; have S7 := Lib.hid q; clear q))
          go_roundg (mid - x)
          case measure => have := HG.out; omega
          case rel => exact ⟨x, mid, LM, true, ap, by have := HG.out; omega, by go_num, by go_num, rfl, by first | rfl | (simp; omega), rfl, d5, HR.out.1.1, HR.out.1.2, HR.out.2, rfl, by have := HG.out; omega, S7.out⟩
end Go.Proofs.YtnienfgaidccpaaDoor
