/- Words: the partition by equal elements. No condition. -/
import Derived.Test.YtnienfgaidccpaaDoorRc
namespace Go.Proofs.YtnienfgaidccpaaDoor
open Go.RowKit Go.Shelf
attribute [local go_sem] Oper.semAt_some

theorem scanUp_step {p : Nat → Bool} {d : Array Nat} {j i : Nat} : Sort.scanUp p d j i = if (decide (i ≤ j) && p d[i]!) = true then Sort.scanUp p d j (i + 1) else i := by
  rw [Sort.scanUp]
theorem scanDown_step {p : Nat → Bool} {d : Array Nat} {i j : Nat} : Sort.scanDown p d i j = if (decide (i ≤ j) && p d[j]!) = true then Sort.scanDown p d i (j - 1) else j := by
  cases j with
  | zero => simp [Sort.scanDown]
  | succ j => rw [Sort.scanDown]; rfl
set_option maxRecDepth 100000 in
set_option maxHeartbeats 8000000 in
theorem partEq_any (w0 : World) (ps : List Piece) (g n c : Nat) (d : Array Nat) (W : World) (hO : Own w0 W (dat g n c d :: ps)) (a b p : Nat) (hd : d.size = n) (hap : a ≤ p) (hpb : p < b) (hbn : b ≤ n) (hn : n ≤ 1000000) :
    Calls Tryd.prog 112 #[.slice (some ⟨g, 0, none⟩) n c, .int .i64 (a : Nat), .int .i64 (b : Nat), .int .i64 (p : Nat)] W fun e w' => e = .returned (.int .i64 ((Sort.partitionEqual ltN d a b p).1 : Nat)) ∧ Own w0 w' (dat g n c (Sort.partitionEqual ltN d a b p).2 :: ps) := by
  have S0 := Lib.hid hO
  have hsz : d.size = n := hd
  obtain ⟨R, hR⟩ : ∃ R, R = Sort.partitionEqual ltN d a b p := ⟨_, rfl⟩
  rw [← hR]
  have han : (a : Int) < (n : Int) := by omega
  have hpn : (p : Int) < (n : Int) := by omega
  obtain ⟨vi, vj, d1, d2, d0, sq1, sq2, sq3, sq4, sq5, sq6, sq7⟩ := swp_vars d (a) (p)
  have SI := Lib.hid (at_arr (d := d) (i := a) (by omega) sq1)
  have SJ := Lib.hid (at_arr (d := d) (i := p) (by omega) sq2)
  have SBI := Lib.hid (show a < d.size by omega)
  have SBJ := Lib.hid (show p < d.size by omega)
  have SQ3 := Lib.hid sq3
  have SQ4 := Lib.hid sq4
  have SQ5 := Lib.hid sq5
  have SQ6 := Lib.hid sq6
  have SQ7 := Lib.hid sq7
  have SZ := Lib.hid (show d0.size = d.size by rw [← sq7]; exact swp_size _ _ _)
  clear sq1 sq2 sq3 sq4 sq5 sq6 sq7
  obtain ⟨b1, hb1⟩ : ∃ b1, b1 = b - 1 := ⟨_, rfl⟩
  have H0 := Lib.hid (show R = Sort.partEqLoop ltN a (a + 1) b1 d0 by rw [hR, Sort.partitionEqual, SQ7.out, hb1])
  have za : IntKind.i64.wrap ((a : Int) + 1) = ((a + 1 : Nat) : Int) := by rw [show (a : Int) + 1 = ((a + 1 : Nat) : Int) by omega]; exact IntWalk.i64_in _ (by omega)
  have zb : IntKind.i64.wrap ((b : Int) - 1) = (b1 : Int) := by rw [show (b : Int) - 1 = (b1 : Int) by omega]; exact IntWalk.i64_in _ (by omega)
  have hb1n : b1 < n := by omega
  have HD := Lib.hid hd
  clear hO hd hR hb1 hsz
  go_enter Tryd.func112, Tryd.ntmps112
  go_upto_region 1 with (fail)
  refine wp_region_state 84 [(11, (.slice (some ⟨g, 0, none⟩) n c)), (12, (.int .i64 ((a : Nat) : Int))), (13, (.slice (some ⟨g, 0, none⟩) n c)), (14, (.int .i64 ((p : Nat) : Int))), (15, (.slice (some ⟨g, 0, none⟩) n c)), (16, (.int .i64 ((p : Nat) : Int))), (17, (.pointer (some ⟨g, p, none⟩))), (18, (.int .u16 (vj : Nat))), (19, (.slice (some ⟨g, 0, none⟩) n c)), (20, (.int .i64 ((a : Nat) : Int))), (21, (.pointer (some ⟨g, a, none⟩))), (22, (.int .u16 (vi : Nat))), (23, (.pointer (some ⟨g, a, none⟩))), (24, (.pointer (some ⟨g, p, none⟩)))] (fun L vs w' => Own w0 w' (dat g n c (cond (L 13) (cond (L 15) d0 d1) (cond (L 15) d2 d)) :: ps)) (by kernel_rfl) (by kernel_rfl) [11, 12, 13, 14, 15, 16, 17, 18, 19, 20, 21, 22, 23, 24] (by kernel_rfl) rfl (by kernel_rfl) 16 rfl ?_ ?_ ?_
  · exact fun L hL => (S0.out.ext (Below.refl _ _).drew).cast (by simp [hL 13 (by decide), hL 15 (by decide)])
  · refine ⟨StepS.of [] (by kernel_rfl) ?_, ?_⟩
    · intro L vs wq hL hA hC hJ
      unfold forAll
      exact StepV.val 11 (by kernel_rfl) (by kernel_rfl) rfl (by simp) rfl rfl hJ
    refine ⟨StepS.of [] (by kernel_rfl) ?_, ?_⟩
    · intro L vs wq hL hA hC hJ
      unfold forAll
      exact StepV.val 12 (by kernel_rfl) (by kernel_rfl) rfl (by simp) rfl rfl hJ
    refine ⟨StepS.of [] (by kernel_rfl) ?_, ?_⟩
    · intro L vs wq hL hA hC hJ
      unfold forAll
      exact StepV.val 13 (by kernel_rfl) (by kernel_rfl) rfl (by simp) rfl rfl hJ
    refine ⟨StepS.of [] (by kernel_rfl) ?_, ?_⟩
    · intro L vs wq hL hA hC hJ
      unfold forAll
      exact StepV.val 14 (by kernel_rfl) (by kernel_rfl) rfl (by simp) rfl rfl hJ
    refine ⟨StepS.of [] (by kernel_rfl) ?_, ?_⟩
    · intro L vs wq hL hA hC hJ
      unfold forAll
      exact StepV.val 15 (by kernel_rfl) (by kernel_rfl) rfl (by simp) rfl rfl hJ
    refine ⟨StepS.of [] (by kernel_rfl) ?_, ?_⟩
    · intro L vs wq hL hA hC hJ
      unfold forAll
      exact StepV.val 16 (by kernel_rfl) (by kernel_rfl) rfl (by simp) rfl rfl hJ
    refine ⟨StepS.of [15, 16] (by kernel_rfl) ?_, ?_⟩
    · intro L vs wq hL hA hC hJ h15 h16
      rw [(show vs 15 = (.slice (some ⟨g, 0, none⟩) n c) from h15), (show vs 16 = (.int .i64 ((p : Nat) : Int)) from h16)]
      unfold forAll
      exact StepV.val 17 (by kernel_rfl) (by go_simp) rfl (by simp [Act.put]) rfl rfl hJ
    refine ⟨StepS.of [17] (by kernel_rfl) ?_, ?_⟩
    · intro L vs wq hL hA hC hJ h17
      rw [(show vs 17 = (.pointer (some ⟨g, p, none⟩)) from h17)]
      unfold forAll
      have q1 := hC.no (j := 13) (i := 7) (by kernel_rfl) hL
      have q2 := hC.no (j := 15) (i := 7) (by kernel_rfl) hL
      have K := Own.cast (qs := dat g n c d :: ps) hJ (by simp [q1, q2])
      have t0 := K.rowAt 0 rfl (u := .int .u16 (vj : Nat)) (j := p) SJ.out
      have tl := (K.rowLt 0 rfl).1
      exact StepV.val 18 (by kernel_rfl) (by go_simp) rfl (by simp [Act.put]) rfl rfl hJ
    refine ⟨StepS.of [] (by kernel_rfl) ?_, ?_⟩
    · intro L vs wq hL hA hC hJ
      unfold forAll
      exact StepV.val 19 (by kernel_rfl) (by kernel_rfl) rfl (by simp) rfl rfl hJ
    refine ⟨StepS.of [] (by kernel_rfl) ?_, ?_⟩
    · intro L vs wq hL hA hC hJ
      unfold forAll
      exact StepV.val 20 (by kernel_rfl) (by kernel_rfl) rfl (by simp) rfl rfl hJ
    refine ⟨StepS.of [19, 20] (by kernel_rfl) ?_, ?_⟩
    · intro L vs wq hL hA hC hJ h19 h20
      rw [(show vs 19 = (.slice (some ⟨g, 0, none⟩) n c) from h19), (show vs 20 = (.int .i64 ((a : Nat) : Int)) from h20)]
      unfold forAll
      exact StepV.val 21 (by kernel_rfl) (by go_simp) rfl (by simp [Act.put]) rfl rfl hJ
    refine ⟨StepS.of [21] (by kernel_rfl) ?_, ?_⟩
    · intro L vs wq hL hA hC hJ h21
      rw [(show vs 21 = (.pointer (some ⟨g, a, none⟩)) from h21)]
      unfold forAll
      have q1 := hC.no (j := 13) (i := 11) (by kernel_rfl) hL
      have q2 := hC.no (j := 15) (i := 11) (by kernel_rfl) hL
      have K := Own.cast (qs := dat g n c d :: ps) hJ (by simp [q1, q2])
      have t0 := K.rowAt 0 rfl (u := .int .u16 (vi : Nat)) (j := a) SI.out
      have tl := (K.rowLt 0 rfl).1
      exact StepV.val 22 (by kernel_rfl) (by go_simp) rfl (by simp [Act.put]) rfl rfl hJ
    refine ⟨StepS.of [11, 12] (by kernel_rfl) ?_, ?_⟩
    · intro L vs wq hL hA hC hJ h11 h12
      rw [(show vs 11 = (.slice (some ⟨g, 0, none⟩) n c) from h11), (show vs 12 = (.int .i64 ((a : Nat) : Int)) from h12)]
      unfold forAll
      exact StepV.val 23 (by kernel_rfl) (by go_simp) rfl (by simp [Act.put]) rfl rfl hJ
    refine ⟨StepS.of [23, 18] (by kernel_rfl) ?_, ?_⟩
    · intro L vs wq hL hA hC hJ h23 h18
      rw [(show vs 23 = (.pointer (some ⟨g, a, none⟩)) from h23), (show vs 18 = (.int .u16 (vj : Nat)) from h18)]
      unfold forAll
      cases q : L 15
      · have K := Own.cast (qs := dat g n c d :: ps) hJ (by simp [hL, q])
        have tl := (K.rowLt 0 rfl).1; have tf := (K.rowLt 0 rfl).2
        have t0 := K.rowAt 0 rfl (j := a) SI.out
        exact StepV.skip (by kernel_rfl) (by go_simp) rfl rfl ((K.setD (a) vj).cast (by simp [upd, q, SQ3.out]))
      · have K := Own.cast (qs := dat g n c d2 :: ps) hJ (by simp [hL, q])
        have tl := (K.rowLt 0 rfl).1; have tf := (K.rowLt 0 rfl).2
        obtain ⟨u9, t0⟩ := K.someD (i := a) (by rw [← SQ4.out, Array.size_setIfInBounds]; exact SBI.out)
        exact StepV.skip (by kernel_rfl) (by go_simp) rfl rfl ((K.setD (a) vj).cast (by simp [upd, q, SQ6.out]))
    refine ⟨StepS.of [13, 14] (by kernel_rfl) ?_, ?_⟩
    · intro L vs wq hL hA hC hJ h13 h14
      rw [(show vs 13 = (.slice (some ⟨g, 0, none⟩) n c) from h13), (show vs 14 = (.int .i64 ((p : Nat) : Int)) from h14)]
      unfold forAll
      exact StepV.val 24 (by kernel_rfl) (by go_simp) rfl (by simp [Act.put]) rfl rfl hJ
    refine ⟨StepS.of [24, 22] (by kernel_rfl) ?_, ?_⟩
    · intro L vs wq hL hA hC hJ h24 h22
      rw [(show vs 24 = (.pointer (some ⟨g, p, none⟩)) from h24), (show vs 22 = (.int .u16 (vi : Nat)) from h22)]
      unfold forAll
      cases q : L 13
      · have K := Own.cast (qs := dat g n c d :: ps) hJ (by simp [hL, q])
        have tl := (K.rowLt 0 rfl).1; have tf := (K.rowLt 0 rfl).2
        have t0 := K.rowAt 0 rfl (j := p) SJ.out
        exact StepV.skip (by kernel_rfl) (by go_simp) rfl rfl ((K.setD (p) vi).cast (by simp [upd, q, SQ4.out]))
      · have K := Own.cast (qs := dat g n c d1 :: ps) hJ (by simp [hL, q])
        have tl := (K.rowLt 0 rfl).1; have tf := (K.rowLt 0 rfl).2
        obtain ⟨u9, t0⟩ := K.someD (i := p) (by rw [← SQ3.out, Array.size_setIfInBounds]; exact SBJ.out)
        exact StepV.skip (by kernel_rfl) (by go_simp) rfl rfl ((K.setD (p) vi).cast (by simp [upd, q, SQ5.out]))
    exact trivial
  · intro vs wS1 hJ h11 h12 h13 h14 h15 h16 h17 h18 h19 h20 h21 h22 h23 h24
    rw [(show vs 11 = (.slice (some ⟨g, 0, none⟩) n c) from h11), (show vs 12 = (.int .i64 ((a : Nat) : Int)) from h12), (show vs 13 = (.slice (some ⟨g, 0, none⟩) n c) from h13), (show vs 14 = (.int .i64 ((p : Nat) : Int)) from h14), (show vs 15 = (.slice (some ⟨g, 0, none⟩) n c) from h15), (show vs 16 = (.int .i64 ((p : Nat) : Int)) from h16), (show vs 17 = (.pointer (some ⟨g, p, none⟩)) from h17), (show vs 18 = (.int .u16 (vj : Nat)) from h18), (show vs 19 = (.slice (some ⟨g, 0, none⟩) n c) from h19), (show vs 20 = (.int .i64 ((a : Nat) : Int)) from h20), (show vs 21 = (.pointer (some ⟨g, a, none⟩)) from h21), (show vs 22 = (.int .u16 (vi : Nat)) from h22), (show vs 23 = (.pointer (some ⟨g, a, none⟩)) from h23), (show vs 24 = (.pointer (some ⟨g, p, none⟩)) from h24)]
    clear h11 h12 h13 h14 h15 h16 h17 h18 h19 h20 h21 h22 h23 h24
    have S1 := Lib.hid (Own.cast (qs := dat g n c d0 :: ps) hJ rfl)
    clear hJ
    unfold forAll
    simp only [Act.put, List.setIfInBounds_toArray, List.set_cons_zero, List.set_cons_succ]
    go_wp2_with fail
    go_loopg [9, 10] (b1 + 1 - (a + 1)) (fun q u9 u10 wr => ∃ i j : Nat, (1 ≤ i ∧ i ≤ n + 1 ∧ j < n) ∧ u9 = .int .i64 ((i : Nat) : Int) ∧ u10 = .int .i64 ((j : Nat) : Int) ∧ Hid (∃ d, R = Sort.partEqLoop ltN a i j d ∧ d.size = n ∧ q = j + 1 - i ∧ Own w0 wr (dat g n c d :: ps)))
    case atStart => exact ⟨a + 1, b1, by omega, rfl, rfl, d0, H0.out, SZ.out.trans HD.out, rfl, S1.out⟩
    case round =>
    obtain ⟨i, j, hij, rfl, rfl, hI⟩ := hrel
    obtain ⟨d, q1, q2, q3, q4⟩ := hI.out
    have I0 := Lib.hid q1
    have HSZ := Lib.hid q2
    have IQ := Lib.hid q3
    have I5 := Lib.hid q4
    clear hI q1 q2 q3 q4 S1 H0 HD SI SJ SQ3 SQ4 SQ5 SQ6 SQ7 SZ SBI SBJ
    obtain ⟨I2, hI2⟩ : ∃ I2, I2 = Sort.scanUp (fun y => !ltN d[a]! y) d j i := ⟨_, rfl⟩
    obtain ⟨J2, hJ2⟩ : ∃ J2, J2 = Sort.scanDown (fun y => ltN d[a]! y) d I2 j := ⟨_, rfl⟩
    have HEQ := Lib.hid (show R = if I2 > J2 then (I2, d) else Sort.partEqLoop ltN a (I2 + 1) (J2 - 1) (Sort.swp d I2 J2) by rw [I0.out, Sort.partEqLoop_eq, ← hI2, ← hJ2])
    have HI0 := Lib.hid hI2
    have HJD := Lib.hid hJ2
    clear hI2 hJ2 I0
    obtain ⟨G1, rfl⟩ : ∃ G1 : Nat, G1 = gk := ⟨_, rfl⟩
    go_wp2_with fail
    go_loopg [9] ((j + 1 - (i))) (fun q u wr => ∃ x : Nat, (i ≤ x ∧ x ≤ n + 1) ∧ u = .int .i64 ((x : Nat) : Int) ∧ Hid (I2 = Sort.scanUp (fun y => !ltN d[a]! y) d j x ∧ q = (j + 1 - (x)) ∧ Own w0 wr (dat g n c d :: ps)))
    case atStart => exact ⟨i, by omega, rfl, HI0.out, rfl, I5.out⟩
    case round =>
      obtain ⟨x, hran, rfl, hI⟩ := hrel
      have Q0 := Lib.hid hI.out.1
      have QM := Lib.hid hI.out.2.1
      have Q2 := Lib.hid hI.out.2.2
      clear hI I5 HI0
      obtain ⟨cb, hcb⟩ : ∃ cb, cb = (decide (x ≤ j) && (fun y => !ltN d[a]! y) d[x]!) := ⟨_, rfl⟩
      have HST := Lib.hid (show I2 = if cb = true then Sort.scanUp (fun y => !ltN d[a]! y) d j (x + 1) else x by rw [Q0.out, scanUp_step, hcb])
      have HCB := Lib.hid (show cb = true → x ≤ j from fun h => by rw [hcb] at h; simp at h; omega)
      obtain ⟨CBV, hCBV⟩ : ∃ V, V = cb := ⟨_, rfl⟩
      go_upto_region 3 with (fail)
      go_cut [43] from 29 to 45 (fun u wx => u = .bool CBV ∧ Hid (Own w0 wx (dat g n c d :: ps)))
      case first =>
        as_aux_lemma =>
        by_cases hle : x ≤ j
        case neg =>
          have HC := Lib.hid (show CBV = false by rw [hCBV, hcb]; simp [hle])
          clear hcb hCBV HST HCB
          go_wp2_with fail
          have hle2 : ¬ (x : Int) ≤ (j : Int) := by omega
          have hne : Nonempty (OwnOf w0 (dat g n c d :: ps)) := ⟨⟨_, Q2.out⟩⟩
          refine wp_region_own Q2.out (by kernel_rfl) (by kernel_rfl) ?_
          iterate 15 (go_big_quiet_step (fail))
          refine wpQuiet_nil ?_
          rintro wQ9 ⟨z, hz⟩
          have Q9 := Lib.hid (show Own w0 wQ9 (dat g n c d :: ps) by rw [hz]; exact z.own)
          clear hz z Q2 hne
          go_wp2_with fail
          go_meet
          exact ⟨congrArg Value.bool HC.out.symm, Q9.out⟩
        have hle2 : (x : Int) ≤ (j : Int) := by omega
        have hxn : (x : Int) < (n : Int) := by omega
        have han : (a : Int) < (n : Int) := by omega
        have FA := Lib.hid (fun z : OwnOf w0 (dat g n c d :: ps) => z.own.rowAt (g := g) 0 rfl (at_arr (d := d) (i := x) (by have := HSZ.out; omega) rfl))
        have FB := Lib.hid (fun z : OwnOf w0 (dat g n c d :: ps) => z.own.rowAt (g := g) 0 rfl (at_arr (d := d) (i := a) (by have := HSZ.out; omega) rfl))
        have HC := Lib.hid (show CBV = (fun y => !ltN d[a]! y) d[x]! by rw [hCBV, hcb]; simp [hle])
        dsimp only at HC
        clear hcb hCBV HST HCB Q0
        generalize d[x]! = x1 at *
        generalize d[a]! = x2 at *
        have fa := FA.out
        have fb := FB.out
        have KL := Lib.hid (fun W1 => less_any x2 x1 W1)
        have hne : Nonempty (OwnOf w0 (dat g n c d :: ps)) := ⟨⟨_, Q2.out⟩⟩
        clear FA FB
        cases hl : ltN x2 x1
        all_goals
          rw [hl] at KL HC
          clear hl
          go_wp2_with fail
          refine wp_region_own Q2.out (by kernel_rfl) (by kernel_rfl) ?_
          iterate 12 (go_big_quiet_step (fail))
          go_big_quiet_step ((go_at_call 111; exact own_same (KL.out _)))
          iterate 2 (go_big_quiet_step (fail))
          refine wpQuiet_nil ?_
          rintro wQ9 ⟨z, hz⟩
          have Q9 := Lib.hid (show Own w0 wQ9 (dat g n c d :: ps) by rw [hz]; exact z.own)
          clear hz z Q2 fa fb hne KL
          go_wp2_with fail
          go_meet
          exact ⟨congrArg Value.bool HC.out.symm, Q9.out⟩
      case rest =>
        obtain ⟨rfl, S4⟩ := hcut
        subst hCBV
        clear Q2 Q0 hcb
        rcases CBV with _ | _
        case true => as_aux_lemma =>
          have hle := HCB.out rfl
          have HE := Lib.hid (show I2 = Sort.scanUp (fun y => !ltN d[a]! y) d j (x + 1) from HST.out)
          have zx : IntKind.i64.wrap ((x : Int) + 1) = ((x + 1 : Nat) : Int) := by rw [show (x : Int) + 1 = ((x + 1 : Nat) : Int) by omega]; exact IntWalk.i64_in _ (by omega)
          have HLE := Lib.hid hle
          clear HST HCB
          go_wp2_with fail
          go_roundg ((j + 1 - (x + 1)))
          case measure => have := QM.out; have := HLE.out; omega
          case rel => exact ⟨x + 1, by have := HLE.out; omega, by go_num, HE.out, rfl, S4.out⟩
        have HI2 := Lib.hid (show I2 = x from HST.out)
        clear HST HCB QM
        have HXI := Lib.hid (show i ≤ x by omega)
        have HJ0 := Lib.hid (show J2 = Sort.scanDown (fun y => ltN d[a]! y) d x j by rw [← HI2.out]; exact HJD.out)
        go_wp2_with fail
        go_loopg [10] ((j + 1 - (x))) (fun q u wr => ∃ y : Nat, (y ≤ j) ∧ u = .int .i64 ((y : Nat) : Int) ∧ Hid (J2 = Sort.scanDown (fun y => ltN d[a]! y) d x y ∧ q = (y + 1 - (x)) ∧ Own w0 wr (dat g n c d :: ps)))
        case atStart => exact ⟨j, by omega, rfl, HJ0.out, rfl, S4.out⟩
        case round =>
          obtain ⟨y, hran, rfl, hI⟩ := hrel
          have Q0 := Lib.hid hI.out.1
          have QM := Lib.hid hI.out.2.1
          have Q2 := Lib.hid hI.out.2.2
          clear hI S4 HJ0
          obtain ⟨cb, hcb⟩ : ∃ cb, cb = (decide (x ≤ y) && (fun y => ltN d[a]! y) d[y]!) := ⟨_, rfl⟩
          have HST := Lib.hid (show J2 = if cb = true then Sort.scanDown (fun y => ltN d[a]! y) d x (y - 1) else y by rw [Q0.out, scanDown_step, hcb])
          have HCB := Lib.hid (show cb = true → x ≤ y from fun h => by rw [hcb] at h; simp at h; omega)
          obtain ⟨CBV, hCBV⟩ : ∃ V, V = cb := ⟨_, rfl⟩
          go_upto_region 5 with (fail)
          go_cut [59] from 46 to 61 (fun u wx => u = .bool CBV ∧ Hid (Own w0 wx (dat g n c d :: ps)))
          case first =>
            as_aux_lemma =>
            by_cases hle : x ≤ y
            case neg =>
              have HC := Lib.hid (show CBV = false by rw [hCBV, hcb]; simp [hle])
              clear hcb hCBV HST HCB
              go_wp2_with fail
              have hle2 : ¬ (x : Int) ≤ (y : Int) := by omega
              have hne : Nonempty (OwnOf w0 (dat g n c d :: ps)) := ⟨⟨_, Q2.out⟩⟩
              refine wp_region_own Q2.out (by kernel_rfl) (by kernel_rfl) ?_
              iterate 14 (go_big_quiet_step (fail))
              refine wpQuiet_nil ?_
              rintro wQ9 ⟨z, hz⟩
              have Q9 := Lib.hid (show Own w0 wQ9 (dat g n c d :: ps) by rw [hz]; exact z.own)
              clear hz z Q2 hne
              go_wp2_with fail
              go_meet
              exact ⟨congrArg Value.bool HC.out.symm, Q9.out⟩
            have hle2 : (x : Int) ≤ (y : Int) := by omega
            have hxn : (y : Int) < (n : Int) := by omega
            have han : (a : Int) < (n : Int) := by omega
            have FA := Lib.hid (fun z : OwnOf w0 (dat g n c d :: ps) => z.own.rowAt (g := g) 0 rfl (at_arr (d := d) (i := y) (by have := HSZ.out; omega) rfl))
            have FB := Lib.hid (fun z : OwnOf w0 (dat g n c d :: ps) => z.own.rowAt (g := g) 0 rfl (at_arr (d := d) (i := a) (by have := HSZ.out; omega) rfl))
            have HC := Lib.hid (show CBV = (fun y => ltN d[a]! y) d[y]! by rw [hCBV, hcb]; simp [hle])
            dsimp only at HC
            clear hcb hCBV HST HCB Q0
            generalize d[y]! = x1 at *
            generalize d[a]! = x2 at *
            have fa := FA.out
            have fb := FB.out
            have KL := Lib.hid (fun W1 => less_any x2 x1 W1)
            have hne : Nonempty (OwnOf w0 (dat g n c d :: ps)) := ⟨⟨_, Q2.out⟩⟩
            clear FA FB
            cases hl : ltN x2 x1
            all_goals
              rw [hl] at KL HC
              clear hl
              go_wp2_with fail
              refine wp_region_own Q2.out (by kernel_rfl) (by kernel_rfl) ?_
              iterate 12 (go_big_quiet_step (fail))
              go_big_quiet_step ((go_at_call 111; exact own_same (KL.out _)))
              iterate 1 (go_big_quiet_step (fail))
              refine wpQuiet_nil ?_
              rintro wQ9 ⟨z, hz⟩
              have Q9 := Lib.hid (show Own w0 wQ9 (dat g n c d :: ps) by rw [hz]; exact z.own)
              clear hz z Q2 fa fb hne KL
              go_wp2_with fail
              go_meet
              exact ⟨congrArg Value.bool HC.out.symm, Q9.out⟩
          case rest =>
            obtain ⟨rfl, S5⟩ := hcut
            subst hCBV
            clear Q2 Q0 hcb
            rcases CBV with _ | _
            case true => as_aux_lemma =>
              have hle := HCB.out rfl
              have HE := Lib.hid (show J2 = Sort.scanDown (fun y => ltN d[a]! y) d x (y - 1) from HST.out)
              have zx : IntKind.i64.wrap ((y : Int) - 1) = ((y - 1 : Nat) : Int) := by rw [show (y : Int) - 1 = ((y - 1 : Nat) : Int) by omega]; exact IntWalk.i64_in _ (by omega)
              have HLE := Lib.hid hle
              clear HST HCB
              go_wp2_with fail
              go_roundg ((y - 1 + 1 - (x)))
              case measure => have := QM.out; have := HLE.out; omega
              case rel => exact ⟨y - 1, by have := HLE.out; omega, by go_num, HE.out, rfl, S5.out⟩
            have HJ2 := Lib.hid (show J2 = y from HST.out)
            clear HST HCB QM
            have HYJ := Lib.hid (show y ≤ j by omega)
            rw [HI2.out, HJ2.out] at HEQ
            by_cases hgt : y < x
            · as_aux_lemma =>
              have hgt2 : (y : Int) < (x : Int) := by omega
              have HF := Lib.hid (show R = (x, d) by rw [HEQ.out, if_pos hgt])
              go_wp2_with fail
              go_ret
              exact ⟨by rw [HF.out]; rfl, by rw [HF.out]; exact S5.out⟩
            as_aux_lemma =>
            have hgt2 : ¬ (y : Int) < (x : Int) := by omega
            have hxn : (x : Int) < (n : Int) := by omega
            have hyn : (y : Int) < (n : Int) := by omega
            have hsz : d.size = n := HSZ.out
            have zx : IntKind.i64.wrap ((x : Int) + 1) = ((x + 1 : Nat) : Int) := by rw [show (x : Int) + 1 = ((x + 1 : Nat) : Int) by omega]; exact IntWalk.i64_in _ (by omega)
            have zy : IntKind.i64.wrap ((y : Int) - 1) = ((y - 1 : Nat) : Int) := by rw [show (y : Int) - 1 = ((y - 1 : Nat) : Int) by omega]; exact IntWalk.i64_in _ (by omega)
            obtain ⟨vi, vj, d1, d2, dn, sq1, sq2, sq3, sq4, sq5, sq6, sq7⟩ := swp_vars d (x) (y)
            have SI := Lib.hid (at_arr (d := d) (i := x) (by omega) sq1)
            have SJ := Lib.hid (at_arr (d := d) (i := y) (by omega) sq2)
            have SBI := Lib.hid (show x < d.size by omega)
            have SBJ := Lib.hid (show y < d.size by omega)
            have SQ3 := Lib.hid sq3
            have SQ4 := Lib.hid sq4
            have SQ5 := Lib.hid sq5
            have SQ6 := Lib.hid sq6
            have SQ7 := Lib.hid sq7
            have SZ := Lib.hid (show dn.size = d.size by rw [← sq7]; exact swp_size _ _ _)
            clear sq1 sq2 sq3 sq4 sq5 sq6 sq7
            have HF := Lib.hid (show R = Sort.partEqLoop ltN a (x + 1) (y - 1) dn by rw [HEQ.out, if_neg hgt, SQ7.out])
            have HGT := Lib.hid hgt
            clear hsz HEQ
            go_upto_region 8 with (fail)
            refine wp_region_state 84 [(65, (.slice (some ⟨g, 0, none⟩) n c)), (66, (.int .i64 ((x : Nat) : Int))), (67, (.slice (some ⟨g, 0, none⟩) n c)), (68, (.int .i64 ((y : Nat) : Int))), (69, (.slice (some ⟨g, 0, none⟩) n c)), (70, (.int .i64 ((y : Nat) : Int))), (71, (.pointer (some ⟨g, y, none⟩))), (72, (.int .u16 (vj : Nat))), (73, (.slice (some ⟨g, 0, none⟩) n c)), (74, (.int .i64 ((x : Nat) : Int))), (75, (.pointer (some ⟨g, x, none⟩))), (76, (.int .u16 (vi : Nat))), (77, (.pointer (some ⟨g, x, none⟩))), (78, (.pointer (some ⟨g, y, none⟩)))] (fun L vs w' => Own w0 w' (dat g n c (cond (L 13) (cond (L 15) dn d1) (cond (L 15) d2 d)) :: ps)) (by kernel_rfl) (by kernel_rfl) [65, 66, 67, 68, 69, 70, 71, 72, 73, 74, 75, 76, 77, 78] (by kernel_rfl) rfl (by kernel_rfl) 16 rfl ?_ ?_ ?_
            · exact fun L hL => (S5.out.ext (Below.refl _ _).drew).cast (by simp [hL 13 (by decide), hL 15 (by decide)])
            · refine ⟨StepS.of [] (by kernel_rfl) ?_, ?_⟩
              · intro L vs wq hL hA hC hJ
                unfold forAll
                exact StepV.val 65 (by kernel_rfl) (by kernel_rfl) rfl (by simp) rfl rfl hJ
              refine ⟨StepS.of [] (by kernel_rfl) ?_, ?_⟩
              · intro L vs wq hL hA hC hJ
                unfold forAll
                exact StepV.val 66 (by kernel_rfl) (by kernel_rfl) rfl (by simp) rfl rfl hJ
              refine ⟨StepS.of [] (by kernel_rfl) ?_, ?_⟩
              · intro L vs wq hL hA hC hJ
                unfold forAll
                exact StepV.val 67 (by kernel_rfl) (by kernel_rfl) rfl (by simp) rfl rfl hJ
              refine ⟨StepS.of [] (by kernel_rfl) ?_, ?_⟩
              · intro L vs wq hL hA hC hJ
                unfold forAll
                exact StepV.val 68 (by kernel_rfl) (by kernel_rfl) rfl (by simp) rfl rfl hJ
              refine ⟨StepS.of [] (by kernel_rfl) ?_, ?_⟩
              · intro L vs wq hL hA hC hJ
                unfold forAll
                exact StepV.val 69 (by kernel_rfl) (by kernel_rfl) rfl (by simp) rfl rfl hJ
              refine ⟨StepS.of [] (by kernel_rfl) ?_, ?_⟩
              · intro L vs wq hL hA hC hJ
                unfold forAll
                exact StepV.val 70 (by kernel_rfl) (by kernel_rfl) rfl (by simp) rfl rfl hJ
              refine ⟨StepS.of [69, 70] (by kernel_rfl) ?_, ?_⟩
              · intro L vs wq hL hA hC hJ h69 h70
                rw [(show vs 69 = (.slice (some ⟨g, 0, none⟩) n c) from h69), (show vs 70 = (.int .i64 ((y : Nat) : Int)) from h70)]
                unfold forAll
                exact StepV.val 71 (by kernel_rfl) (by go_simp) rfl (by simp [Act.put]) rfl rfl hJ
              refine ⟨StepS.of [71] (by kernel_rfl) ?_, ?_⟩
              · intro L vs wq hL hA hC hJ h71
                rw [(show vs 71 = (.pointer (some ⟨g, y, none⟩)) from h71)]
                unfold forAll
                have q1 := hC.no (j := 13) (i := 7) (by kernel_rfl) hL
                have q2 := hC.no (j := 15) (i := 7) (by kernel_rfl) hL
                have K := Own.cast (qs := dat g n c d :: ps) hJ (by simp [q1, q2])
                have t0 := K.rowAt 0 rfl (u := .int .u16 (vj : Nat)) (j := y) SJ.out
                have tl := (K.rowLt 0 rfl).1
                exact StepV.val 72 (by kernel_rfl) (by go_simp) rfl (by simp [Act.put]) rfl rfl hJ
              refine ⟨StepS.of [] (by kernel_rfl) ?_, ?_⟩
              · intro L vs wq hL hA hC hJ
                unfold forAll
                exact StepV.val 73 (by kernel_rfl) (by kernel_rfl) rfl (by simp) rfl rfl hJ
              refine ⟨StepS.of [] (by kernel_rfl) ?_, ?_⟩
              · intro L vs wq hL hA hC hJ
                unfold forAll
                exact StepV.val 74 (by kernel_rfl) (by kernel_rfl) rfl (by simp) rfl rfl hJ
              refine ⟨StepS.of [73, 74] (by kernel_rfl) ?_, ?_⟩
              · intro L vs wq hL hA hC hJ h73 h74
                rw [(show vs 73 = (.slice (some ⟨g, 0, none⟩) n c) from h73), (show vs 74 = (.int .i64 ((x : Nat) : Int)) from h74)]
                unfold forAll
                exact StepV.val 75 (by kernel_rfl) (by go_simp) rfl (by simp [Act.put]) rfl rfl hJ
              refine ⟨StepS.of [75] (by kernel_rfl) ?_, ?_⟩
              · intro L vs wq hL hA hC hJ h75
                rw [(show vs 75 = (.pointer (some ⟨g, x, none⟩)) from h75)]
                unfold forAll
                have q1 := hC.no (j := 13) (i := 11) (by kernel_rfl) hL
                have q2 := hC.no (j := 15) (i := 11) (by kernel_rfl) hL
                have K := Own.cast (qs := dat g n c d :: ps) hJ (by simp [q1, q2])
                have t0 := K.rowAt 0 rfl (u := .int .u16 (vi : Nat)) (j := x) SI.out
                have tl := (K.rowLt 0 rfl).1
                exact StepV.val 76 (by kernel_rfl) (by go_simp) rfl (by simp [Act.put]) rfl rfl hJ
              refine ⟨StepS.of [65, 66] (by kernel_rfl) ?_, ?_⟩
              · intro L vs wq hL hA hC hJ h65 h66
                rw [(show vs 65 = (.slice (some ⟨g, 0, none⟩) n c) from h65), (show vs 66 = (.int .i64 ((x : Nat) : Int)) from h66)]
                unfold forAll
                exact StepV.val 77 (by kernel_rfl) (by go_simp) rfl (by simp [Act.put]) rfl rfl hJ
              refine ⟨StepS.of [77, 72] (by kernel_rfl) ?_, ?_⟩
              · intro L vs wq hL hA hC hJ h77 h72
                rw [(show vs 77 = (.pointer (some ⟨g, x, none⟩)) from h77), (show vs 72 = (.int .u16 (vj : Nat)) from h72)]
                unfold forAll
                cases q : L 15
                · have K := Own.cast (qs := dat g n c d :: ps) hJ (by simp [hL, q])
                  have tl := (K.rowLt 0 rfl).1; have tf := (K.rowLt 0 rfl).2
                  have t0 := K.rowAt 0 rfl (j := x) SI.out
                  exact StepV.skip (by kernel_rfl) (by go_simp) rfl rfl ((K.setD (x) vj).cast (by simp [upd, q, SQ3.out]))
                · have K := Own.cast (qs := dat g n c d2 :: ps) hJ (by simp [hL, q])
                  have tl := (K.rowLt 0 rfl).1; have tf := (K.rowLt 0 rfl).2
                  obtain ⟨u9, t0⟩ := K.someD (i := x) (by rw [← SQ4.out, Array.size_setIfInBounds]; exact SBI.out)
                  exact StepV.skip (by kernel_rfl) (by go_simp) rfl rfl ((K.setD (x) vj).cast (by simp [upd, q, SQ6.out]))
              refine ⟨StepS.of [67, 68] (by kernel_rfl) ?_, ?_⟩
              · intro L vs wq hL hA hC hJ h67 h68
                rw [(show vs 67 = (.slice (some ⟨g, 0, none⟩) n c) from h67), (show vs 68 = (.int .i64 ((y : Nat) : Int)) from h68)]
                unfold forAll
                exact StepV.val 78 (by kernel_rfl) (by go_simp) rfl (by simp [Act.put]) rfl rfl hJ
              refine ⟨StepS.of [78, 76] (by kernel_rfl) ?_, ?_⟩
              · intro L vs wq hL hA hC hJ h78 h76
                rw [(show vs 78 = (.pointer (some ⟨g, y, none⟩)) from h78), (show vs 76 = (.int .u16 (vi : Nat)) from h76)]
                unfold forAll
                cases q : L 13
                · have K := Own.cast (qs := dat g n c d :: ps) hJ (by simp [hL, q])
                  have tl := (K.rowLt 0 rfl).1; have tf := (K.rowLt 0 rfl).2
                  have t0 := K.rowAt 0 rfl (j := y) SJ.out
                  exact StepV.skip (by kernel_rfl) (by go_simp) rfl rfl ((K.setD (y) vi).cast (by simp [upd, q, SQ4.out]))
                · have K := Own.cast (qs := dat g n c d1 :: ps) hJ (by simp [hL, q])
                  have tl := (K.rowLt 0 rfl).1; have tf := (K.rowLt 0 rfl).2
                  obtain ⟨u9, t0⟩ := K.someD (i := y) (by rw [← SQ3.out, Array.size_setIfInBounds]; exact SBJ.out)
                  exact StepV.skip (by kernel_rfl) (by go_simp) rfl rfl ((K.setD (y) vi).cast (by simp [upd, q, SQ5.out]))
              exact trivial
            · intro vs wS6 hJ h65 h66 h67 h68 h69 h70 h71 h72 h73 h74 h75 h76 h77 h78
              rw [(show vs 65 = (.slice (some ⟨g, 0, none⟩) n c) from h65), (show vs 66 = (.int .i64 ((x : Nat) : Int)) from h66), (show vs 67 = (.slice (some ⟨g, 0, none⟩) n c) from h67), (show vs 68 = (.int .i64 ((y : Nat) : Int)) from h68), (show vs 69 = (.slice (some ⟨g, 0, none⟩) n c) from h69), (show vs 70 = (.int .i64 ((y : Nat) : Int)) from h70), (show vs 71 = (.pointer (some ⟨g, y, none⟩)) from h71), (show vs 72 = (.int .u16 (vj : Nat)) from h72), (show vs 73 = (.slice (some ⟨g, 0, none⟩) n c) from h73), (show vs 74 = (.int .i64 ((x : Nat) : Int)) from h74), (show vs 75 = (.pointer (some ⟨g, x, none⟩)) from h75), (show vs 76 = (.int .u16 (vi : Nat)) from h76), (show vs 77 = (.pointer (some ⟨g, x, none⟩)) from h77), (show vs 78 = (.pointer (some ⟨g, y, none⟩)) from h78)]
              clear h65 h66 h67 h68 h69 h70 h71 h72 h73 h74 h75 h76 h77 h78
              have S6 := Lib.hid (Own.cast (qs := dat g n c dn :: ps) hJ rfl)
              clear hJ
              unfold forAll
              simp only [Act.put, List.setIfInBounds_toArray, List.set_cons_zero, List.set_cons_succ]
              go_wp2_with fail
              go_roundg (y - 1 + 1 - (x + 1))
              case measure => have := IQ.out; have := HXI.out; have := HYJ.out; have := HGT.out; omega
              case rel => exact ⟨x + 1, y - 1, by have := HGT.out; omega, by go_num, by go_num, dn, HF.out, SZ.out.trans HSZ.out, rfl, S6.out⟩
end Go.Proofs.YtnienfgaidccpaaDoor
