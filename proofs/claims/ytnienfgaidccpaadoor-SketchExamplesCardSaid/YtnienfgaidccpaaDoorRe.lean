/- Words: the partition. No condition. -/
import Derived.Test.YtnienfgaidccpaaDoorRd
namespace Go.Proofs.YtnienfgaidccpaaDoor
open Go.RowKit Go.Shelf
attribute [local go_sem] Oper.semAt_some
set_option maxRecDepth 100000 in
set_option maxHeartbeats 8000000 in
theorem part_any (w0 : World) (ps : List Piece) (g n c : Nat) (dd : Array Nat) (W : World) (hO : Own w0 W (dat g n c dd :: ps)) (a b p : Nat) (hd : dd.size = n) (hap : a ≤ p) (hpb : p < b) (hbn : b ≤ n) (hn : n ≤ 1000000) :
    Calls Tryd.prog 113 #[.slice (some ⟨g, 0, none⟩) n c, .int .i64 (a : Nat), .int .i64 (b : Nat), .int .i64 (p : Nat)] W fun e w' => e = .returned (.tuple #[.int .i64 ((Sort.partition ltN dd a b p).1 : Nat), .bool (Sort.partition ltN dd a b p).2.1]) ∧ Own w0 w' (dat g n c (Sort.partition ltN dd a b p).2.2 :: ps) := by
  have S0 := Lib.hid hO
  have hsz : dd.size = n := hd
  obtain ⟨R, hR⟩ : ∃ R, R = Sort.partition ltN dd a b p := ⟨_, rfl⟩
  rw [← hR]
  have han : (a : Int) < (n : Int) := by omega
  have hpn : (p : Int) < (n : Int) := by omega
  obtain ⟨vi, vj, d1, d2, d, sq1, sq2, sq3, sq4, sq5, sq6, sq7⟩ := swp_vars dd (a) (p)
  have SI := Lib.hid (at_arr (d := dd) (i := a) (by omega) sq1)
  have SJ := Lib.hid (at_arr (d := dd) (i := p) (by omega) sq2)
  have SBI := Lib.hid (show a < dd.size by omega)
  have SBJ := Lib.hid (show p < dd.size by omega)
  have SQ3 := Lib.hid sq3
  have SQ4 := Lib.hid sq4
  have SQ5 := Lib.hid sq5
  have SQ6 := Lib.hid sq6
  have SQ7 := Lib.hid sq7
  have SZ := Lib.hid (show d.size = dd.size by rw [← sq7]; exact swp_size _ _ _)
  clear sq1 sq2 sq3 sq4 sq5 sq6 sq7
  obtain ⟨b1, hb1⟩ : ∃ b1, b1 = b - 1 := ⟨_, rfl⟩
  obtain ⟨P2, hP2⟩ : ∃ P2, P2 = Sort.scanUp (fun y => ltN y d[a]!) d b1 (a + 1) := ⟨_, rfl⟩
  obtain ⟨V2, hV2⟩ : ∃ V2, V2 = Sort.scanDown (fun y => !ltN y d[a]!) d P2 b1 := ⟨_, rfl⟩
  have HEQ := Lib.hid (show R = if P2 > V2 then (V2, true, Sort.swp d V2 a) else ((Sort.partLoop ltN a (P2 + 1) (V2 - 1) (Sort.swp d P2 V2)).1, false, Sort.swp (Sort.partLoop ltN a (P2 + 1) (V2 - 1) (Sort.swp d P2 V2)).2 (Sort.partLoop ltN a (P2 + 1) (V2 - 1) (Sort.swp d P2 V2)).1 a) by rw [hR, Sort.partition, SQ7.out, ← hb1, ← hP2, ← hV2])
  have za : IntKind.i64.wrap ((a : Int) + 1) = ((a + 1 : Nat) : Int) := by rw [show (a : Int) + 1 = ((a + 1 : Nat) : Int) by omega]; exact IntWalk.i64_in _ (by omega)
  have zb : IntKind.i64.wrap ((b : Int) - 1) = (b1 : Int) := by rw [show (b : Int) - 1 = (b1 : Int) by omega]; exact IntWalk.i64_in _ (by omega)
  have hb1n : b1 < n ∧ a ≤ b1 := by omega
  have HSZ := Lib.hid (SZ.out.trans hd)
  have HP0 := Lib.hid hP2
  have HQD := Lib.hid hV2
  clear hO hd hR hb1 hsz hP2 hV2
  go_enter Tryd.func113, Tryd.ntmps113
  go_upto_region 1 with (fail)
  refine wp_region_state 168 [(12, (.slice (some ⟨g, 0, none⟩) n c)), (13, (.int .i64 ((a : Nat) : Int))), (14, (.slice (some ⟨g, 0, none⟩) n c)), (15, (.int .i64 ((p : Nat) : Int))), (16, (.slice (some ⟨g, 0, none⟩) n c)), (17, (.int .i64 ((p : Nat) : Int))), (18, (.pointer (some ⟨g, p, none⟩))), (19, (.int .u16 (vj : Nat))), (20, (.slice (some ⟨g, 0, none⟩) n c)), (21, (.int .i64 ((a : Nat) : Int))), (22, (.pointer (some ⟨g, a, none⟩))), (23, (.int .u16 (vi : Nat))), (24, (.pointer (some ⟨g, a, none⟩))), (25, (.pointer (some ⟨g, p, none⟩)))] (fun L vs w' => Own w0 w' (dat g n c (cond (L 13) (cond (L 15) d d1) (cond (L 15) d2 dd)) :: ps)) (by kernel_rfl) (by kernel_rfl) [12, 13, 14, 15, 16, 17, 18, 19, 20, 21, 22, 23, 24, 25] (by kernel_rfl) rfl (by kernel_rfl) 16 rfl ?_ ?_ ?_
  · exact fun L hL => (S0.out.ext (Below.refl _ _).drew).cast (by simp [hL 13 (by decide), hL 15 (by decide)])
  · refine ⟨StepS.of [] (by kernel_rfl) ?_, ?_⟩
    · intro L vs wq hL hA hC hJ
      unfold forAll
      exact StepV.val 12 (by kernel_rfl) (by kernel_rfl) rfl (by simp) rfl rfl hJ
    refine ⟨StepS.of [] (by kernel_rfl) ?_, ?_⟩
    · intro L vs wq hL hA hC hJ
      unfold forAll
      exact StepV.val 13 (by kernel_rfl) (by kernel_rfl) rfl (by simp) rfl rfl hJ
    refine ⟨StepS.of [] (by kernel_rfl) ?_, ?_⟩
    · intro L vs wq hL hA hC hJ
      unfold forAll
      exact StepV.val 14 (by kernel_rfl) (by kernel_rfl) rfl (by simp) rfl rfl hJ
    refine ⟨StepS.of [] (by kernel_rfl) ?_, ?_⟩
    · intro L vs wq hL hA hC hJ
      unfold forAll
      exact StepV.val 15 (by kernel_rfl) (by kernel_rfl) rfl (by simp) rfl rfl hJ
    refine ⟨StepS.of [] (by kernel_rfl) ?_, ?_⟩
    · intro L vs wq hL hA hC hJ
      unfold forAll
      exact StepV.val 16 (by kernel_rfl) (by kernel_rfl) rfl (by simp) rfl rfl hJ
    refine ⟨StepS.of [] (by kernel_rfl) ?_, ?_⟩
    · intro L vs wq hL hA hC hJ
      unfold forAll
      exact StepV.val 17 (by kernel_rfl) (by kernel_rfl) rfl (by simp) rfl rfl hJ
    refine ⟨StepS.of [16, 17] (by kernel_rfl) ?_, ?_⟩
    · intro L vs wq hL hA hC hJ h16 h17
      rw [(show vs 16 = (.slice (some ⟨g, 0, none⟩) n c) from h16), (show vs 17 = (.int .i64 ((p : Nat) : Int)) from h17)]
      unfold forAll
      exact StepV.val 18 (by kernel_rfl) (by go_simp) rfl (by simp [Act.put]) rfl rfl hJ
    refine ⟨StepS.of [18] (by kernel_rfl) ?_, ?_⟩
    · intro L vs wq hL hA hC hJ h18
      rw [(show vs 18 = (.pointer (some ⟨g, p, none⟩)) from h18)]
      unfold forAll
      have q1 := hC.no (j := 13) (i := 7) (by kernel_rfl) hL
      have q2 := hC.no (j := 15) (i := 7) (by kernel_rfl) hL
      have K := Own.cast (qs := dat g n c dd :: ps) hJ (by simp [q1, q2])
      have t0 := K.rowAt 0 rfl (u := .int .u16 (vj : Nat)) (j := p) SJ.out
      have tl := (K.rowLt 0 rfl).1
      exact StepV.val 19 (by kernel_rfl) (by go_simp) rfl (by simp [Act.put]) rfl rfl hJ
    refine ⟨StepS.of [] (by kernel_rfl) ?_, ?_⟩
    · intro L vs wq hL hA hC hJ
      unfold forAll
      exact StepV.val 20 (by kernel_rfl) (by kernel_rfl) rfl (by simp) rfl rfl hJ
    refine ⟨StepS.of [] (by kernel_rfl) ?_, ?_⟩
    · intro L vs wq hL hA hC hJ
      unfold forAll
      exact StepV.val 21 (by kernel_rfl) (by kernel_rfl) rfl (by simp) rfl rfl hJ
    refine ⟨StepS.of [20, 21] (by kernel_rfl) ?_, ?_⟩
    · intro L vs wq hL hA hC hJ h20 h21
      rw [(show vs 20 = (.slice (some ⟨g, 0, none⟩) n c) from h20), (show vs 21 = (.int .i64 ((a : Nat) : Int)) from h21)]
      unfold forAll
      exact StepV.val 22 (by kernel_rfl) (by go_simp) rfl (by simp [Act.put]) rfl rfl hJ
    refine ⟨StepS.of [22] (by kernel_rfl) ?_, ?_⟩
    · intro L vs wq hL hA hC hJ h22
      rw [(show vs 22 = (.pointer (some ⟨g, a, none⟩)) from h22)]
      unfold forAll
      have q1 := hC.no (j := 13) (i := 11) (by kernel_rfl) hL
      have q2 := hC.no (j := 15) (i := 11) (by kernel_rfl) hL
      have K := Own.cast (qs := dat g n c dd :: ps) hJ (by simp [q1, q2])
      have t0 := K.rowAt 0 rfl (u := .int .u16 (vi : Nat)) (j := a) SI.out
      have tl := (K.rowLt 0 rfl).1
      exact StepV.val 23 (by kernel_rfl) (by go_simp) rfl (by simp [Act.put]) rfl rfl hJ
    refine ⟨StepS.of [12, 13] (by kernel_rfl) ?_, ?_⟩
    · intro L vs wq hL hA hC hJ h12 h13
      rw [(show vs 12 = (.slice (some ⟨g, 0, none⟩) n c) from h12), (show vs 13 = (.int .i64 ((a : Nat) : Int)) from h13)]
      unfold forAll
      exact StepV.val 24 (by kernel_rfl) (by go_simp) rfl (by simp [Act.put]) rfl rfl hJ
    refine ⟨StepS.of [24, 19] (by kernel_rfl) ?_, ?_⟩
    · intro L vs wq hL hA hC hJ h24 h19
      rw [(show vs 24 = (.pointer (some ⟨g, a, none⟩)) from h24), (show vs 19 = (.int .u16 (vj : Nat)) from h19)]
      unfold forAll
      cases q : L 15
      · have K := Own.cast (qs := dat g n c dd :: ps) hJ (by simp [hL, q])
        have tl := (K.rowLt 0 rfl).1; have tf := (K.rowLt 0 rfl).2
        have t0 := K.rowAt 0 rfl (j := a) SI.out
        exact StepV.skip (by kernel_rfl) (by go_simp) rfl rfl ((K.setD (a) vj).cast (by simp [upd, q, SQ3.out]))
      · have K := Own.cast (qs := dat g n c d2 :: ps) hJ (by simp [hL, q])
        have tl := (K.rowLt 0 rfl).1; have tf := (K.rowLt 0 rfl).2
        obtain ⟨u9, t0⟩ := K.someD (i := a) (by rw [← SQ4.out, Array.size_setIfInBounds]; exact SBI.out)
        exact StepV.skip (by kernel_rfl) (by go_simp) rfl rfl ((K.setD (a) vj).cast (by simp [upd, q, SQ6.out]))
    refine ⟨StepS.of [14, 15] (by kernel_rfl) ?_, ?_⟩
    · intro L vs wq hL hA hC hJ h14 h15
      rw [(show vs 14 = (.slice (some ⟨g, 0, none⟩) n c) from h14), (show vs 15 = (.int .i64 ((p : Nat) : Int)) from h15)]
      unfold forAll
      exact StepV.val 25 (by kernel_rfl) (by go_simp) rfl (by simp [Act.put]) rfl rfl hJ
    refine ⟨StepS.of [25, 23] (by kernel_rfl) ?_, ?_⟩
    · intro L vs wq hL hA hC hJ h25 h23
      rw [(show vs 25 = (.pointer (some ⟨g, p, none⟩)) from h25), (show vs 23 = (.int .u16 (vi : Nat)) from h23)]
      unfold forAll
      cases q : L 13
      · have K := Own.cast (qs := dat g n c dd :: ps) hJ (by simp [hL, q])
        have tl := (K.rowLt 0 rfl).1; have tf := (K.rowLt 0 rfl).2
        have t0 := K.rowAt 0 rfl (j := p) SJ.out
        exact StepV.skip (by kernel_rfl) (by go_simp) rfl rfl ((K.setD (p) vi).cast (by simp [upd, q, SQ4.out]))
      · have K := Own.cast (qs := dat g n c d1 :: ps) hJ (by simp [hL, q])
        have tl := (K.rowLt 0 rfl).1; have tf := (K.rowLt 0 rfl).2
        obtain ⟨u9, t0⟩ := K.someD (i := p) (by rw [← SQ3.out, Array.size_setIfInBounds]; exact SBJ.out)
        exact StepV.skip (by kernel_rfl) (by go_simp) rfl rfl ((K.setD (p) vi).cast (by simp [upd, q, SQ5.out]))
    exact trivial
  · intro vs wS1 hJ h12 h13 h14 h15 h16 h17 h18 h19 h20 h21 h22 h23 h24 h25
    rw [(show vs 12 = (.slice (some ⟨g, 0, none⟩) n c) from h12), (show vs 13 = (.int .i64 ((a : Nat) : Int)) from h13), (show vs 14 = (.slice (some ⟨g, 0, none⟩) n c) from h14), (show vs 15 = (.int .i64 ((p : Nat) : Int)) from h15), (show vs 16 = (.slice (some ⟨g, 0, none⟩) n c) from h16), (show vs 17 = (.int .i64 ((p : Nat) : Int)) from h17), (show vs 18 = (.pointer (some ⟨g, p, none⟩)) from h18), (show vs 19 = (.int .u16 (vj : Nat)) from h19), (show vs 20 = (.slice (some ⟨g, 0, none⟩) n c) from h20), (show vs 21 = (.int .i64 ((a : Nat) : Int)) from h21), (show vs 22 = (.pointer (some ⟨g, a, none⟩)) from h22), (show vs 23 = (.int .u16 (vi : Nat)) from h23), (show vs 24 = (.pointer (some ⟨g, a, none⟩)) from h24), (show vs 25 = (.pointer (some ⟨g, p, none⟩)) from h25)]
    clear h12 h13 h14 h15 h16 h17 h18 h19 h20 h21 h22 h23 h24 h25
    have S1 := Lib.hid (Own.cast (qs := dat g n c d :: ps) hJ rfl)
    clear hJ
    unfold forAll
    simp only [Act.put, List.setIfInBounds_toArray, List.set_cons_zero, List.set_cons_succ]
    clear SI SJ SQ3 SQ4 SQ5 SQ6 SQ7 SZ SBI SBJ
    go_wp2_with fail
    go_loopg [10] ((b1 + 1 - ((a + 1)))) (fun q u wr => ∃ x : Nat, (a + 1 ≤ x ∧ x ≤ n + 1) ∧ u = .int .i64 ((x : Nat) : Int) ∧ Hid (P2 = Sort.scanUp (fun y => ltN y d[a]!) d b1 x ∧ q = (b1 + 1 - (x)) ∧ Own w0 wr (dat g n c d :: ps)))
    case atStart => exact ⟨(a + 1), by omega, rfl, HP0.out, rfl, S1.out⟩
    case round =>
      obtain ⟨x, hran, rfl, hI⟩ := hrel
      have Q0 := Lib.hid hI.out.1
      have QM := Lib.hid hI.out.2.1
      have Q2 := Lib.hid hI.out.2.2
      clear hI S1 HP0
      obtain ⟨cb, hcb⟩ : ∃ cb, cb = (decide (x ≤ b1) && (fun y => ltN y d[a]!) d[x]!) := ⟨_, rfl⟩
      have HST := Lib.hid (show P2 = if cb = true then Sort.scanUp (fun y => ltN y d[a]!) d b1 (x + 1) else x by rw [Q0.out, scanUp_step, hcb])
      have HCB := Lib.hid (show cb = true → x ≤ b1 from fun h => by rw [hcb] at h; simp at h; omega)
      obtain ⟨CBV, hCBV⟩ : ∃ V, V = cb := ⟨_, rfl⟩
      go_upto_region 3 with (fail)
      go_cut [43] from 30 to 45 (fun u wx => u = .bool CBV ∧ Hid (Own w0 wx (dat g n c d :: ps)))
      case first =>
        as_aux_lemma =>
        by_cases hle : x ≤ b1
        case neg =>
          have HC := Lib.hid (show CBV = false by rw [hCBV, hcb]; simp [hle])
          clear hcb hCBV HST HCB
          go_wp2_with fail
          have hle2 : ¬ (x : Int) ≤ (b1 : Int) := by omega
          have hne : Nonempty (OwnOf w0 (dat g n c d :: ps)) := ⟨⟨_, Q2.out⟩⟩
          refine wp_region_own Q2.out (by kernel_rfl) (by kernel_rfl) ?_
          iterate 14 (go_big_quiet_step (fail))
          refine wpQuiet_nil ?_
          rintro wQ9 ⟨z, hz⟩
          have Q9 := Lib.hid (show Own w0 wQ9 (dat g n c d :: ps) by rw [hz]; exact z.own)
          clear hz z Q2 hne
          go_wp2_with fail
          go_meet
          exact ⟨congrArg Value.bool HC.out.symm, Q9.out⟩
        have hle2 : (x : Int) ≤ (b1 : Int) := by omega
        have hxn : (x : Int) < (n : Int) := by omega
        have han : (a : Int) < (n : Int) := by omega
        have FA := Lib.hid (fun z : OwnOf w0 (dat g n c d :: ps) => z.own.rowAt (g := g) 0 rfl (at_arr (d := d) (i := x) (by have := HSZ.out; omega) rfl))
        have FB := Lib.hid (fun z : OwnOf w0 (dat g n c d :: ps) => z.own.rowAt (g := g) 0 rfl (at_arr (d := d) (i := a) (by have := HSZ.out; omega) rfl))
        have HC := Lib.hid (show CBV = (fun y => ltN y d[a]!) d[x]! by rw [hCBV, hcb]; simp [hle])
        dsimp only at HC
        clear hcb hCBV HST HCB Q0
        generalize d[x]! = x1 at *
        generalize d[a]! = x2 at *
        have fa := FA.out
        have fb := FB.out
        have KL := Lib.hid (fun W1 => less_any x1 x2 W1)
        have hne : Nonempty (OwnOf w0 (dat g n c d :: ps)) := ⟨⟨_, Q2.out⟩⟩
        clear FA FB
        cases hl : ltN x1 x2
        all_goals
          rw [hl] at KL HC
          clear hl
          go_wp2_with fail
          refine wp_region_own Q2.out (by kernel_rfl) (by kernel_rfl) ?_
          iterate 12 (go_big_quiet_step (fail))
          go_big_quiet_step ((go_at_call 111; exact own_same (KL.out _)))
          iterate 1 (go_big_quiet_step (fail))
          refine wpQuiet_nil ?_
          rintro wQ9 ⟨z, hz⟩
          have Q9 := Lib.hid (show Own w0 wQ9 (dat g n c d :: ps) by rw [hz]; exact z.own)
          clear hz z Q2 fa fb hne KL
          go_wp2_with fail
          go_meet
          exact ⟨congrArg Value.bool HC.out.symm, Q9.out⟩
      case rest =>
        obtain ⟨rfl, S2⟩ := hcut
        subst hCBV
        clear Q2 Q0 hcb
        rcases CBV with _ | _
        case true => as_aux_lemma =>
          have hle := HCB.out rfl
          have HE := Lib.hid (show P2 = Sort.scanUp (fun y => ltN y d[a]!) d b1 (x + 1) from HST.out)
          have zx : IntKind.i64.wrap ((x : Int) + 1) = ((x + 1 : Nat) : Int) := by rw [show (x : Int) + 1 = ((x + 1 : Nat) : Int) by omega]; exact IntWalk.i64_in _ (by omega)
          have HLE := Lib.hid hle
          clear HST HCB
          go_wp2_with fail
          go_roundg ((b1 + 1 - (x + 1)))
          case measure => have := QM.out; have := HLE.out; omega
          case rel => exact ⟨x + 1, by have := HLE.out; omega, by go_num, HE.out, rfl, S2.out⟩
        have HP2 := Lib.hid (show P2 = x from HST.out)
        clear HST HCB QM
        have HXI := Lib.hid (show a + 1 ≤ x by omega)
        have HJ0 := Lib.hid (show V2 = Sort.scanDown (fun y => !ltN y d[a]!) d x b1 by rw [← HP2.out]; exact HQD.out)
        go_wp2_with fail
        go_loopg [11] ((b1 + 1 - (x))) (fun q u wr => ∃ y : Nat, (a ≤ y ∧ y ≤ b1) ∧ u = .int .i64 ((y : Nat) : Int) ∧ Hid (V2 = Sort.scanDown (fun y => !ltN y d[a]!) d x y ∧ q = (y + 1 - (x)) ∧ Own w0 wr (dat g n c d :: ps)))
        case atStart => exact ⟨b1, by omega, rfl, HJ0.out, rfl, S2.out⟩
        case round =>
          obtain ⟨y, hran, rfl, hI⟩ := hrel
          have Q0 := Lib.hid hI.out.1
          have QM := Lib.hid hI.out.2.1
          have Q2 := Lib.hid hI.out.2.2
          clear hI S2 HJ0
          obtain ⟨cb, hcb⟩ : ∃ cb, cb = (decide (x ≤ y) && (fun y => !ltN y d[a]!) d[y]!) := ⟨_, rfl⟩
          have HST := Lib.hid (show V2 = if cb = true then Sort.scanDown (fun y => !ltN y d[a]!) d x (y - 1) else y by rw [Q0.out, scanDown_step, hcb])
          have HCB := Lib.hid (show cb = true → x ≤ y from fun h => by rw [hcb] at h; simp at h; omega)
          obtain ⟨CBV, hCBV⟩ : ∃ V, V = cb := ⟨_, rfl⟩
          go_upto_region 5 with (fail)
          go_cut [60] from 46 to 62 (fun u wx => u = .bool CBV ∧ Hid (Own w0 wx (dat g n c d :: ps)))
          case first =>
            as_aux_lemma =>
            by_cases hle : x ≤ y
            case neg =>
              have HC := Lib.hid (show CBV = false by rw [hCBV, hcb]; simp [hle])
              clear hcb hCBV HST HCB
              go_wp2_with fail
              have hle2 : ¬ (x : Int) ≤ (y : Int) := by omega
              have hne : Nonempty (OwnOf w0 (dat g n c d :: ps)) := ⟨⟨_, Q2.out⟩⟩
              refine wp_region_own Q2.out (by kernel_rfl) (by kernel_rfl) ?_
              iterate 15 (go_big_quiet_step (fail))
              refine wpQuiet_nil ?_
              rintro wQ9 ⟨z, hz⟩
              have Q9 := Lib.hid (show Own w0 wQ9 (dat g n c d :: ps) by rw [hz]; exact z.own)
              clear hz z Q2 hne
              go_wp2_with fail
              go_meet
              exact ⟨congrArg Value.bool HC.out.symm, Q9.out⟩
            have hle2 : (x : Int) ≤ (y : Int) := by omega
            have hxn : (y : Int) < (n : Int) := by omega
            have han : (a : Int) < (n : Int) := by omega
            have FA := Lib.hid (fun z : OwnOf w0 (dat g n c d :: ps) => z.own.rowAt (g := g) 0 rfl (at_arr (d := d) (i := y) (by have := HSZ.out; omega) rfl))
            have FB := Lib.hid (fun z : OwnOf w0 (dat g n c d :: ps) => z.own.rowAt (g := g) 0 rfl (at_arr (d := d) (i := a) (by have := HSZ.out; omega) rfl))
            have HC := Lib.hid (show CBV = (fun y => !ltN y d[a]!) d[y]! by rw [hCBV, hcb]; simp [hle])
            dsimp only at HC
            clear hcb hCBV HST HCB Q0
            generalize d[y]! = x1 at *
            generalize d[a]! = x2 at *
            have fa := FA.out
            have fb := FB.out
            have KL := Lib.hid (fun W1 => less_any x1 x2 W1)
            have hne : Nonempty (OwnOf w0 (dat g n c d :: ps)) := ⟨⟨_, Q2.out⟩⟩
            clear FA FB
            cases hl : ltN x1 x2
            all_goals
              rw [hl] at KL HC
              clear hl
              go_wp2_with fail
              refine wp_region_own Q2.out (by kernel_rfl) (by kernel_rfl) ?_
              iterate 12 (go_big_quiet_step (fail))
              go_big_quiet_step ((go_at_call 111; exact own_same (KL.out _)))
              iterate 2 (go_big_quiet_step (fail))
              refine wpQuiet_nil ?_
              rintro wQ9 ⟨z, hz⟩
              have Q9 := Lib.hid (show Own w0 wQ9 (dat g n c d :: ps) by rw [hz]; exact z.own)
              clear hz z Q2 fa fb hne KL
              go_wp2_with fail
              go_meet
              exact ⟨congrArg Value.bool HC.out.symm, Q9.out⟩
          case rest =>
            obtain ⟨rfl, S3⟩ := hcut
            subst hCBV
            clear Q2 Q0 hcb
            rcases CBV with _ | _
            case true => as_aux_lemma =>
              have hle := HCB.out rfl
              have HE := Lib.hid (show V2 = Sort.scanDown (fun y => !ltN y d[a]!) d x (y - 1) from HST.out)
              have zx : IntKind.i64.wrap ((y : Int) - 1) = ((y - 1 : Nat) : Int) := by rw [show (y : Int) - 1 = ((y - 1 : Nat) : Int) by omega]; exact IntWalk.i64_in _ (by omega)
              have HLE := Lib.hid hle
              clear HST HCB
              go_wp2_with fail
              go_roundg ((y - 1 + 1 - (x)))
              case measure => have := QM.out; have := HLE.out; omega
              case rel => exact ⟨y - 1, by have := HLE.out; omega, by go_num, HE.out, rfl, S3.out⟩
            have HV2 := Lib.hid (show V2 = y from HST.out)
            clear HST HCB QM
            rw [HP2.out, HV2.out] at HEQ
            by_cases hgt : y < x
            · as_aux_lemma =>
              have hgt2 : (y : Int) < (x : Int) := by omega
              have hyn : (y : Int) < (n : Int) := by omega
              have hsz : d.size = n := HSZ.out
              obtain ⟨vi, vj, d1, d2, dn, sq1, sq2, sq3, sq4, sq5, sq6, sq7⟩ := swp_vars d (y) (a)
              have SI := Lib.hid (at_arr (d := d) (i := y) (by omega) sq1)
              have SJ := Lib.hid (at_arr (d := d) (i := a) (by omega) sq2)
              have SBI := Lib.hid (show y < d.size by omega)
              have SBJ := Lib.hid (show a < d.size by omega)
              have SQ3 := Lib.hid sq3
              have SQ4 := Lib.hid sq4
              have SQ5 := Lib.hid sq5
              have SQ6 := Lib.hid sq6
              have SQ7 := Lib.hid sq7
              have SZ := Lib.hid (show dn.size = d.size by rw [← sq7]; exact swp_size _ _ _)
              clear sq1 sq2 sq3 sq4 sq5 sq6 sq7
              have HF := Lib.hid (show R = (y, true, dn) by rw [HEQ.out, if_pos hgt, SQ7.out])
              clear hsz HEQ
              go_upto_region 8 with (fail)
              refine wp_region_state 168 [(66, (.slice (some ⟨g, 0, none⟩) n c)), (67, (.int .i64 ((y : Nat) : Int))), (68, (.slice (some ⟨g, 0, none⟩) n c)), (69, (.int .i64 ((a : Nat) : Int))), (70, (.slice (some ⟨g, 0, none⟩) n c)), (71, (.int .i64 ((a : Nat) : Int))), (72, (.pointer (some ⟨g, a, none⟩))), (73, (.int .u16 (vj : Nat))), (74, (.slice (some ⟨g, 0, none⟩) n c)), (75, (.int .i64 ((y : Nat) : Int))), (76, (.pointer (some ⟨g, y, none⟩))), (77, (.int .u16 (vi : Nat))), (78, (.pointer (some ⟨g, y, none⟩))), (79, (.pointer (some ⟨g, a, none⟩)))] (fun L vs w' => Own w0 w' (dat g n c (cond (L 13) (cond (L 15) dn d1) (cond (L 15) d2 d)) :: ps)) (by kernel_rfl) (by kernel_rfl) [66, 67, 68, 69, 70, 71, 72, 73, 74, 75, 76, 77, 78, 79] (by kernel_rfl) rfl (by kernel_rfl) 16 rfl ?_ ?_ ?_
              · exact fun L hL => (S3.out.ext (Below.refl _ _).drew).cast (by simp [hL 13 (by decide), hL 15 (by decide)])
              · refine ⟨StepS.of [] (by kernel_rfl) ?_, ?_⟩
                · intro L vs wq hL hA hC hJ
                  unfold forAll
                  exact StepV.val 66 (by kernel_rfl) (by kernel_rfl) rfl (by simp) rfl rfl hJ
                refine ⟨StepS.of [] (by kernel_rfl) ?_, ?_⟩
                · intro L vs wq hL hA hC hJ
                  unfold forAll
                  exact StepV.val 67 (by kernel_rfl) (by kernel_rfl) rfl (by simp) rfl rfl hJ
                refine ⟨StepS.of [] (by kernel_rfl) ?_, ?_⟩
                · intro L vs wq hL hA hC hJ
                  unfold forAll
                  exact StepV.val 68 (by kernel_rfl) (by kernel_rfl) rfl (by simp) rfl rfl hJ
                refine ⟨StepS.of [] (by kernel_rfl) ?_, ?_⟩
                · intro L vs wq hL hA hC hJ
                  unfold forAll
                  exact StepV.val 69 (by kernel_rfl) (by kernel_rfl) rfl (by simp) rfl rfl hJ
                refine ⟨StepS.of [] (by kernel_rfl) ?_, ?_⟩
                · intro L vs wq hL hA hC hJ
                  unfold forAll
                  exact StepV.val 70 (by kernel_rfl) (by kernel_rfl) rfl (by simp) rfl rfl hJ
                refine ⟨StepS.of [] (by kernel_rfl) ?_, ?_⟩
                · intro L vs wq hL hA hC hJ
                  unfold forAll
                  exact StepV.val 71 (by kernel_rfl) (by kernel_rfl) rfl (by simp) rfl rfl hJ
                refine ⟨StepS.of [70, 71] (by kernel_rfl) ?_, ?_⟩
                · intro L vs wq hL hA hC hJ h70 h71
                  rw [(show vs 70 = (.slice (some ⟨g, 0, none⟩) n c) from h70), (show vs 71 = (.int .i64 ((a : Nat) : Int)) from h71)]
                  unfold forAll
                  exact StepV.val 72 (by kernel_rfl) (by go_simp) rfl (by simp [Act.put]) rfl rfl hJ
                refine ⟨StepS.of [72] (by kernel_rfl) ?_, ?_⟩
                · intro L vs wq hL hA hC hJ h72
                  rw [(show vs 72 = (.pointer (some ⟨g, a, none⟩)) from h72)]
                  unfold forAll
                  have q1 := hC.no (j := 13) (i := 7) (by kernel_rfl) hL
                  have q2 := hC.no (j := 15) (i := 7) (by kernel_rfl) hL
                  have K := Own.cast (qs := dat g n c d :: ps) hJ (by simp [q1, q2])
                  have t0 := K.rowAt 0 rfl (u := .int .u16 (vj : Nat)) (j := a) SJ.out
                  have tl := (K.rowLt 0 rfl).1
                  exact StepV.val 73 (by kernel_rfl) (by go_simp) rfl (by simp [Act.put]) rfl rfl hJ
                refine ⟨StepS.of [] (by kernel_rfl) ?_, ?_⟩
                · intro L vs wq hL hA hC hJ
                  unfold forAll
                  exact StepV.val 74 (by kernel_rfl) (by kernel_rfl) rfl (by simp) rfl rfl hJ
                refine ⟨StepS.of [] (by kernel_rfl) ?_, ?_⟩
                · intro L vs wq hL hA hC hJ
                  unfold forAll
                  exact StepV.val 75 (by kernel_rfl) (by kernel_rfl) rfl (by simp) rfl rfl hJ
                refine ⟨StepS.of [74, 75] (by kernel_rfl) ?_, ?_⟩
                · intro L vs wq hL hA hC hJ h74 h75
                  rw [(show vs 74 = (.slice (some ⟨g, 0, none⟩) n c) from h74), (show vs 75 = (.int .i64 ((y : Nat) : Int)) from h75)]
                  unfold forAll
                  exact StepV.val 76 (by kernel_rfl) (by go_simp) rfl (by simp [Act.put]) rfl rfl hJ
                refine ⟨StepS.of [76] (by kernel_rfl) ?_, ?_⟩
                · intro L vs wq hL hA hC hJ h76
                  rw [(show vs 76 = (.pointer (some ⟨g, y, none⟩)) from h76)]
                  unfold forAll
                  have q1 := hC.no (j := 13) (i := 11) (by kernel_rfl) hL
                  have q2 := hC.no (j := 15) (i := 11) (by kernel_rfl) hL
                  have K := Own.cast (qs := dat g n c d :: ps) hJ (by simp [q1, q2])
                  have t0 := K.rowAt 0 rfl (u := .int .u16 (vi : Nat)) (j := y) SI.out
                  have tl := (K.rowLt 0 rfl).1
                  exact StepV.val 77 (by kernel_rfl) (by go_simp) rfl (by simp [Act.put]) rfl rfl hJ
                refine ⟨StepS.of [66, 67] (by kernel_rfl) ?_, ?_⟩
                · intro L vs wq hL hA hC hJ h66 h67
                  rw [(show vs 66 = (.slice (some ⟨g, 0, none⟩) n c) from h66), (show vs 67 = (.int .i64 ((y : Nat) : Int)) from h67)]
                  unfold forAll
                  exact StepV.val 78 (by kernel_rfl) (by go_simp) rfl (by simp [Act.put]) rfl rfl hJ
                refine ⟨StepS.of [78, 73] (by kernel_rfl) ?_, ?_⟩
                · intro L vs wq hL hA hC hJ h78 h73
                  rw [(show vs 78 = (.pointer (some ⟨g, y, none⟩)) from h78), (show vs 73 = (.int .u16 (vj : Nat)) from h73)]
                  unfold forAll
                  cases q : L 15
                  · have K := Own.cast (qs := dat g n c d :: ps) hJ (by simp [hL, q])
                    have tl := (K.rowLt 0 rfl).1; have tf := (K.rowLt 0 rfl).2
                    have t0 := K.rowAt 0 rfl (j := y) SI.out
                    exact StepV.skip (by kernel_rfl) (by go_simp) rfl rfl ((K.setD (y) vj).cast (by simp [upd, q, SQ3.out]))
                  · have K := Own.cast (qs := dat g n c d2 :: ps) hJ (by simp [hL, q])
                    have tl := (K.rowLt 0 rfl).1; have tf := (K.rowLt 0 rfl).2
                    obtain ⟨u9, t0⟩ := K.someD (i := y) (by rw [← SQ4.out, Array.size_setIfInBounds]; exact SBI.out)
                    exact StepV.skip (by kernel_rfl) (by go_simp) rfl rfl ((K.setD (y) vj).cast (by simp [upd, q, SQ6.out]))
                refine ⟨StepS.of [68, 69] (by kernel_rfl) ?_, ?_⟩
                · intro L vs wq hL hA hC hJ h68 h69
                  rw [(show vs 68 = (.slice (some ⟨g, 0, none⟩) n c) from h68), (show vs 69 = (.int .i64 ((a : Nat) : Int)) from h69)]
                  unfold forAll
                  exact StepV.val 79 (by kernel_rfl) (by go_simp) rfl (by simp [Act.put]) rfl rfl hJ
                refine ⟨StepS.of [79, 77] (by kernel_rfl) ?_, ?_⟩
                · intro L vs wq hL hA hC hJ h79 h77
                  rw [(show vs 79 = (.pointer (some ⟨g, a, none⟩)) from h79), (show vs 77 = (.int .u16 (vi : Nat)) from h77)]
                  unfold forAll
                  cases q : L 13
                  · have K := Own.cast (qs := dat g n c d :: ps) hJ (by simp [hL, q])
                    have tl := (K.rowLt 0 rfl).1; have tf := (K.rowLt 0 rfl).2
                    have t0 := K.rowAt 0 rfl (j := a) SJ.out
                    exact StepV.skip (by kernel_rfl) (by go_simp) rfl rfl ((K.setD (a) vi).cast (by simp [upd, q, SQ4.out]))
                  · have K := Own.cast (qs := dat g n c d1 :: ps) hJ (by simp [hL, q])
                    have tl := (K.rowLt 0 rfl).1; have tf := (K.rowLt 0 rfl).2
                    obtain ⟨u9, t0⟩ := K.someD (i := a) (by rw [← SQ3.out, Array.size_setIfInBounds]; exact SBJ.out)
                    exact StepV.skip (by kernel_rfl) (by go_simp) rfl rfl ((K.setD (a) vi).cast (by simp [upd, q, SQ5.out]))
                exact trivial
              · intro vs wS4 hJ h66 h67 h68 h69 h70 h71 h72 h73 h74 h75 h76 h77 h78 h79
                rw [(show vs 66 = (.slice (some ⟨g, 0, none⟩) n c) from h66), (show vs 67 = (.int .i64 ((y : Nat) : Int)) from h67), (show vs 68 = (.slice (some ⟨g, 0, none⟩) n c) from h68), (show vs 69 = (.int .i64 ((a : Nat) : Int)) from h69), (show vs 70 = (.slice (some ⟨g, 0, none⟩) n c) from h70), (show vs 71 = (.int .i64 ((a : Nat) : Int)) from h71), (show vs 72 = (.pointer (some ⟨g, a, none⟩)) from h72), (show vs 73 = (.int .u16 (vj : Nat)) from h73), (show vs 74 = (.slice (some ⟨g, 0, none⟩) n c) from h74), (show vs 75 = (.int .i64 ((y : Nat) : Int)) from h75), (show vs 76 = (.pointer (some ⟨g, y, none⟩)) from h76), (show vs 77 = (.int .u16 (vi : Nat)) from h77), (show vs 78 = (.pointer (some ⟨g, y, none⟩)) from h78), (show vs 79 = (.pointer (some ⟨g, a, none⟩)) from h79)]
                clear h66 h67 h68 h69 h70 h71 h72 h73 h74 h75 h76 h77 h78 h79
                have S4 := Lib.hid (Own.cast (qs := dat g n c dn :: ps) hJ rfl)
                clear hJ
                unfold forAll
                simp only [Act.put, List.setIfInBounds_toArray, List.set_cons_zero, List.set_cons_succ]
                go_wp2_with fail
                go_ret2
                exact ⟨by rw [HF.out]; rfl, by rw [HF.out]; exact S4.out⟩
            as_aux_lemma =>
            have hgt2 : ¬ (y : Int) < (x : Int) := by omega
            have hxn : (x : Int) < (n : Int) := by omega
            have hyn : (y : Int) < (n : Int) := by omega
            have hsz : d.size = n := HSZ.out
            have zx : IntKind.i64.wrap ((x : Int) + 1) = ((x + 1 : Nat) : Int) := by rw [show (x : Int) + 1 = ((x + 1 : Nat) : Int) by omega]; exact IntWalk.i64_in _ (by omega)
            have zy : IntKind.i64.wrap ((y : Int) - 1) = ((y - 1 : Nat) : Int) := by rw [show (y : Int) - 1 = ((y - 1 : Nat) : Int) by omega]; exact IntWalk.i64_in _ (by omega)
            obtain ⟨vi, vj, d1, d2, dn, sq1, sq2, sq3, sq4, sq5, sq6, sq7⟩ := swp_vars d (x) (y)
            have SI := Lib.hid (at_arr (d := d) (i := x) (by omega) sq1)
            have SJ := Lib.hid (at_arr (d := d) (i := y) (by omega) sq2)
            have SBI := Lib.hid (show x < d.size by omega)
            have SBJ := Lib.hid (show y < d.size by omega)
            have SQ3 := Lib.hid sq3
            have SQ4 := Lib.hid sq4
            have SQ5 := Lib.hid sq5
            have SQ6 := Lib.hid sq6
            have SQ7 := Lib.hid sq7
            have SZ := Lib.hid (show dn.size = d.size by rw [← sq7]; exact swp_size _ _ _)
            clear sq1 sq2 sq3 sq4 sq5 sq6 sq7
            obtain ⟨RL, hRL⟩ : ∃ RL, RL = Sort.partLoop ltN a (x + 1) (y - 1) dn := ⟨_, rfl⟩
            have HF := Lib.hid hRL
            have HRL := Lib.hid (show R = (RL.1, false, Sort.swp RL.2 RL.1 a) by rw [HEQ.out, if_neg hgt, hRL, SQ7.out])
            have HGT := Lib.hid hgt
            clear hsz HEQ hRL
            go_upto_region 10 with (fail)
            refine wp_region_state 168 [(81, (.slice (some ⟨g, 0, none⟩) n c)), (82, (.int .i64 ((x : Nat) : Int))), (83, (.slice (some ⟨g, 0, none⟩) n c)), (84, (.int .i64 ((y : Nat) : Int))), (85, (.slice (some ⟨g, 0, none⟩) n c)), (86, (.int .i64 ((y : Nat) : Int))), (87, (.pointer (some ⟨g, y, none⟩))), (88, (.int .u16 (vj : Nat))), (89, (.slice (some ⟨g, 0, none⟩) n c)), (90, (.int .i64 ((x : Nat) : Int))), (91, (.pointer (some ⟨g, x, none⟩))), (92, (.int .u16 (vi : Nat))), (93, (.pointer (some ⟨g, x, none⟩))), (94, (.pointer (some ⟨g, y, none⟩)))] (fun L vs w' => Own w0 w' (dat g n c (cond (L 13) (cond (L 15) dn d1) (cond (L 15) d2 d)) :: ps)) (by kernel_rfl) (by kernel_rfl) [81, 82, 83, 84, 85, 86, 87, 88, 89, 90, 91, 92, 93, 94] (by kernel_rfl) rfl (by kernel_rfl) 16 rfl ?_ ?_ ?_
            · exact fun L hL => (S3.out.ext (Below.refl _ _).drew).cast (by simp [hL 13 (by decide), hL 15 (by decide)])
            · refine ⟨StepS.of [] (by kernel_rfl) ?_, ?_⟩
              · intro L vs wq hL hA hC hJ
                unfold forAll
                exact StepV.val 81 (by kernel_rfl) (by kernel_rfl) rfl (by simp) rfl rfl hJ
              refine ⟨StepS.of [] (by kernel_rfl) ?_, ?_⟩
              · intro L vs wq hL hA hC hJ
                unfold forAll
                exact StepV.val 82 (by kernel_rfl) (by kernel_rfl) rfl (by simp) rfl rfl hJ
              refine ⟨StepS.of [] (by kernel_rfl) ?_, ?_⟩
              · intro L vs wq hL hA hC hJ
                unfold forAll
                exact StepV.val 83 (by kernel_rfl) (by kernel_rfl) rfl (by simp) rfl rfl hJ
              refine ⟨StepS.of [] (by kernel_rfl) ?_, ?_⟩
              · intro L vs wq hL hA hC hJ
                unfold forAll
                exact StepV.val 84 (by kernel_rfl) (by kernel_rfl) rfl (by simp) rfl rfl hJ
              refine ⟨StepS.of [] (by kernel_rfl) ?_, ?_⟩
              · intro L vs wq hL hA hC hJ
                unfold forAll
                exact StepV.val 85 (by kernel_rfl) (by kernel_rfl) rfl (by simp) rfl rfl hJ
              refine ⟨StepS.of [] (by kernel_rfl) ?_, ?_⟩
              · intro L vs wq hL hA hC hJ
                unfold forAll
                exact StepV.val 86 (by kernel_rfl) (by kernel_rfl) rfl (by simp) rfl rfl hJ
              refine ⟨StepS.of [85, 86] (by kernel_rfl) ?_, ?_⟩
              · intro L vs wq hL hA hC hJ h85 h86
                rw [(show vs 85 = (.slice (some ⟨g, 0, none⟩) n c) from h85), (show vs 86 = (.int .i64 ((y : Nat) : Int)) from h86)]
                unfold forAll
                exact StepV.val 87 (by kernel_rfl) (by go_simp) rfl (by simp [Act.put]) rfl rfl hJ
              refine ⟨StepS.of [87] (by kernel_rfl) ?_, ?_⟩
              · intro L vs wq hL hA hC hJ h87
                rw [(show vs 87 = (.pointer (some ⟨g, y, none⟩)) from h87)]
                unfold forAll
                have q1 := hC.no (j := 13) (i := 7) (by kernel_rfl) hL
                have q2 := hC.no (j := 15) (i := 7) (by kernel_rfl) hL
                have K := Own.cast (qs := dat g n c d :: ps) hJ (by simp [q1, q2])
                have t0 := K.rowAt 0 rfl (u := .int .u16 (vj : Nat)) (j := y) SJ.out
                have tl := (K.rowLt 0 rfl).1
                exact StepV.val 88 (by kernel_rfl) (by go_simp) rfl (by simp [Act.put]) rfl rfl hJ
              refine ⟨StepS.of [] (by kernel_rfl) ?_, ?_⟩
              · intro L vs wq hL hA hC hJ
                unfold forAll
                exact StepV.val 89 (by kernel_rfl) (by kernel_rfl) rfl (by simp) rfl rfl hJ
              refine ⟨StepS.of [] (by kernel_rfl) ?_, ?_⟩
              · intro L vs wq hL hA hC hJ
                unfold forAll
                exact StepV.val 90 (by kernel_rfl) (by kernel_rfl) rfl (by simp) rfl rfl hJ
              refine ⟨StepS.of [89, 90] (by kernel_rfl) ?_, ?_⟩
              · intro L vs wq hL hA hC hJ h89 h90
                rw [(show vs 89 = (.slice (some ⟨g, 0, none⟩) n c) from h89), (show vs 90 = (.int .i64 ((x : Nat) : Int)) from h90)]
                unfold forAll
                exact StepV.val 91 (by kernel_rfl) (by go_simp) rfl (by simp [Act.put]) rfl rfl hJ
              refine ⟨StepS.of [91] (by kernel_rfl) ?_, ?_⟩
              · intro L vs wq hL hA hC hJ h91
                rw [(show vs 91 = (.pointer (some ⟨g, x, none⟩)) from h91)]
                unfold forAll
                have q1 := hC.no (j := 13) (i := 11) (by kernel_rfl) hL
                have q2 := hC.no (j := 15) (i := 11) (by kernel_rfl) hL
                have K := Own.cast (qs := dat g n c d :: ps) hJ (by simp [q1, q2])
                have t0 := K.rowAt 0 rfl (u := .int .u16 (vi : Nat)) (j := x) SI.out
                have tl := (K.rowLt 0 rfl).1
                exact StepV.val 92 (by kernel_rfl) (by go_simp) rfl (by simp [Act.put]) rfl rfl hJ
              refine ⟨StepS.of [81, 82] (by kernel_rfl) ?_, ?_⟩
              · intro L vs wq hL hA hC hJ h81 h82
                rw [(show vs 81 = (.slice (some ⟨g, 0, none⟩) n c) from h81), (show vs 82 = (.int .i64 ((x : Nat) : Int)) from h82)]
                unfold forAll
                exact StepV.val 93 (by kernel_rfl) (by go_simp) rfl (by simp [Act.put]) rfl rfl hJ
              refine ⟨StepS.of [93, 88] (by kernel_rfl) ?_, ?_⟩
              · intro L vs wq hL hA hC hJ h93 h88
                rw [(show vs 93 = (.pointer (some ⟨g, x, none⟩)) from h93), (show vs 88 = (.int .u16 (vj : Nat)) from h88)]
                unfold forAll
                cases q : L 15
                · have K := Own.cast (qs := dat g n c d :: ps) hJ (by simp [hL, q])
                  have tl := (K.rowLt 0 rfl).1; have tf := (K.rowLt 0 rfl).2
                  have t0 := K.rowAt 0 rfl (j := x) SI.out
                  exact StepV.skip (by kernel_rfl) (by go_simp) rfl rfl ((K.setD (x) vj).cast (by simp [upd, q, SQ3.out]))
                · have K := Own.cast (qs := dat g n c d2 :: ps) hJ (by simp [hL, q])
                  have tl := (K.rowLt 0 rfl).1; have tf := (K.rowLt 0 rfl).2
                  obtain ⟨u9, t0⟩ := K.someD (i := x) (by rw [← SQ4.out, Array.size_setIfInBounds]; exact SBI.out)
                  exact StepV.skip (by kernel_rfl) (by go_simp) rfl rfl ((K.setD (x) vj).cast (by simp [upd, q, SQ6.out]))
              refine ⟨StepS.of [83, 84] (by kernel_rfl) ?_, ?_⟩
              · intro L vs wq hL hA hC hJ h83 h84
                rw [(show vs 83 = (.slice (some ⟨g, 0, none⟩) n c) from h83), (show vs 84 = (.int .i64 ((y : Nat) : Int)) from h84)]
                unfold forAll
                exact StepV.val 94 (by kernel_rfl) (by go_simp) rfl (by simp [Act.put]) rfl rfl hJ
              refine ⟨StepS.of [94, 92] (by kernel_rfl) ?_, ?_⟩
              · intro L vs wq hL hA hC hJ h94 h92
                rw [(show vs 94 = (.pointer (some ⟨g, y, none⟩)) from h94), (show vs 92 = (.int .u16 (vi : Nat)) from h92)]
                unfold forAll
                cases q : L 13
                · have K := Own.cast (qs := dat g n c d :: ps) hJ (by simp [hL, q])
                  have tl := (K.rowLt 0 rfl).1; have tf := (K.rowLt 0 rfl).2
                  have t0 := K.rowAt 0 rfl (j := y) SJ.out
                  exact StepV.skip (by kernel_rfl) (by go_simp) rfl rfl ((K.setD (y) vi).cast (by simp [upd, q, SQ4.out]))
                · have K := Own.cast (qs := dat g n c d1 :: ps) hJ (by simp [hL, q])
                  have tl := (K.rowLt 0 rfl).1; have tf := (K.rowLt 0 rfl).2
                  obtain ⟨u9, t0⟩ := K.someD (i := y) (by rw [← SQ3.out, Array.size_setIfInBounds]; exact SBJ.out)
                  exact StepV.skip (by kernel_rfl) (by go_simp) rfl rfl ((K.setD (y) vi).cast (by simp [upd, q, SQ5.out]))
              exact trivial
            · intro vs wS4 hJ h81 h82 h83 h84 h85 h86 h87 h88 h89 h90 h91 h92 h93 h94
              rw [(show vs 81 = (.slice (some ⟨g, 0, none⟩) n c) from h81), (show vs 82 = (.int .i64 ((x : Nat) : Int)) from h82), (show vs 83 = (.slice (some ⟨g, 0, none⟩) n c) from h83), (show vs 84 = (.int .i64 ((y : Nat) : Int)) from h84), (show vs 85 = (.slice (some ⟨g, 0, none⟩) n c) from h85), (show vs 86 = (.int .i64 ((y : Nat) : Int)) from h86), (show vs 87 = (.pointer (some ⟨g, y, none⟩)) from h87), (show vs 88 = (.int .u16 (vj : Nat)) from h88), (show vs 89 = (.slice (some ⟨g, 0, none⟩) n c) from h89), (show vs 90 = (.int .i64 ((x : Nat) : Int)) from h90), (show vs 91 = (.pointer (some ⟨g, x, none⟩)) from h91), (show vs 92 = (.int .u16 (vi : Nat)) from h92), (show vs 93 = (.pointer (some ⟨g, x, none⟩)) from h93), (show vs 94 = (.pointer (some ⟨g, y, none⟩)) from h94)]
              clear h81 h82 h83 h84 h85 h86 h87 h88 h89 h90 h91 h92 h93 h94
              have S4 := Lib.hid (Own.cast (qs := dat g n c dn :: ps) hJ rfl)
              clear hJ
              unfold forAll
              simp only [Act.put, List.setIfInBounds_toArray, List.set_cons_zero, List.set_cons_succ]
              have HXB := Lib.hid (show a + 1 ≤ x ∧ x ≤ y ∧ y < n by have := HGT.out; omega)
              clear hgt hran
              go_wp2_with fail
              go_loopg [10, 11] (y - 1 + 1 - (x + 1)) (fun q u10 u11 wr => ∃ i j : Nat, (a + 1 ≤ i ∧ i ≤ n + 1 ∧ a ≤ j ∧ j < n) ∧ u10 = .int .i64 ((i : Nat) : Int) ∧ u11 = .int .i64 ((j : Nat) : Int) ∧ Hid (∃ d, RL = Sort.partLoop ltN a i j d ∧ d.size = n ∧ q = j + 1 - i ∧ Own w0 wr (dat g n c d :: ps)))
              case atStart => exact ⟨x + 1, y - 1, by have := HXB.out; omega, by go_num, by go_num, dn, HF.out, SZ.out.trans HSZ.out, rfl, S4.out⟩
              case round =>
                obtain ⟨i, j, hij, rfl, rfl, hI⟩ := hrel
                obtain ⟨d, q1, q2, q3, q4⟩ := hI.out
                clear HSZ
                have I0 := Lib.hid q1
                have HSZ := Lib.hid q2
                have IQ := Lib.hid q3
                have I5 := Lib.hid q4
                clear hI q1 q2 q3 q4 S4 HF SI SJ SQ3 SQ4 SQ5 SQ6 SQ7 SZ SBI SBJ HGT
                obtain ⟨I2, hI2⟩ : ∃ I2, I2 = Sort.scanUp (fun y => ltN y d[a]!) d j i := ⟨_, rfl⟩
                obtain ⟨J2, hJ2⟩ : ∃ J2, J2 = Sort.scanDown (fun y => !ltN y d[a]!) d I2 j := ⟨_, rfl⟩
                have HEQ := Lib.hid (show RL = if I2 > J2 then (J2, d) else Sort.partLoop ltN a (I2 + 1) (J2 - 1) (Sort.swp d I2 J2) by rw [I0.out, Sort.partLoop_eq, ← hI2, ← hJ2])
                have HI0 := Lib.hid hI2
                have HJD := Lib.hid hJ2
                clear hI2 hJ2 I0
                obtain ⟨G1, rfl⟩ : ∃ G1 : Nat, G1 = gk := ⟨_, rfl⟩
                clear HXB hgt2 hxn hyn zx zy
                go_wp2_with fail
                go_loopg [10] ((j + 1 - (i))) (fun q u wr => ∃ x : Nat, (i ≤ x ∧ x ≤ n + 1) ∧ u = .int .i64 ((x : Nat) : Int) ∧ Hid (I2 = Sort.scanUp (fun y => ltN y d[a]!) d j x ∧ q = (j + 1 - (x)) ∧ Own w0 wr (dat g n c d :: ps)))
                case atStart => exact ⟨i, by omega, rfl, HI0.out, rfl, I5.out⟩
                case round =>
                  obtain ⟨x, hran, rfl, hI⟩ := hrel
                  have Q0 := Lib.hid hI.out.1
                  have QM := Lib.hid hI.out.2.1
                  have Q2 := Lib.hid hI.out.2.2
                  clear hI I5 HI0
                  obtain ⟨cb, hcb⟩ : ∃ cb, cb = (decide (x ≤ j) && (fun y => ltN y d[a]!) d[x]!) := ⟨_, rfl⟩
                  have HST := Lib.hid (show I2 = if cb = true then Sort.scanUp (fun y => ltN y d[a]!) d j (x + 1) else x by rw [Q0.out, scanUp_step, hcb])
                  have HCB := Lib.hid (show cb = true → x ≤ j from fun h => by rw [hcb] at h; simp at h; omega)
                  obtain ⟨CBV, hCBV⟩ : ∃ V, V = cb := ⟨_, rfl⟩
                  go_upto_region 13 with (fail)
                  go_cut [112] from 99 to 114 (fun u wx => u = .bool CBV ∧ Hid (Own w0 wx (dat g n c d :: ps)))
                  case first =>
                    as_aux_lemma =>
                    by_cases hle : x ≤ j
                    case neg =>
                      have HC := Lib.hid (show CBV = false by rw [hCBV, hcb]; simp [hle])
                      clear hcb hCBV HST HCB
                      go_wp2_with fail
                      have hle2 : ¬ (x : Int) ≤ (j : Int) := by omega
                      have hne : Nonempty (OwnOf w0 (dat g n c d :: ps)) := ⟨⟨_, Q2.out⟩⟩
                      refine wp_region_own Q2.out (by kernel_rfl) (by kernel_rfl) ?_
                      iterate 14 (go_big_quiet_step (fail))
                      refine wpQuiet_nil ?_
                      rintro wQ9 ⟨z, hz⟩
                      have Q9 := Lib.hid (show Own w0 wQ9 (dat g n c d :: ps) by rw [hz]; exact z.own)
                      clear hz z Q2 hne
                      go_wp2_with fail
                      go_meet
                      exact ⟨congrArg Value.bool HC.out.symm, Q9.out⟩
                    have hle2 : (x : Int) ≤ (j : Int) := by omega
                    have hxn : (x : Int) < (n : Int) := by omega
                    have han : (a : Int) < (n : Int) := by omega
                    have FA := Lib.hid (fun z : OwnOf w0 (dat g n c d :: ps) => z.own.rowAt (g := g) 0 rfl (at_arr (d := d) (i := x) (by have := HSZ.out; omega) rfl))
                    have FB := Lib.hid (fun z : OwnOf w0 (dat g n c d :: ps) => z.own.rowAt (g := g) 0 rfl (at_arr (d := d) (i := a) (by have := HSZ.out; omega) rfl))
                    have HC := Lib.hid (show CBV = (fun y => ltN y d[a]!) d[x]! by rw [hCBV, hcb]; simp [hle])
                    dsimp only at HC
                    clear hcb hCBV HST HCB Q0
                    generalize d[x]! = x1 at *
                    generalize d[a]! = x2 at *
                    have fa := FA.out
                    have fb := FB.out
                    have KL := Lib.hid (fun W1 => less_any x1 x2 W1)
                    have hne : Nonempty (OwnOf w0 (dat g n c d :: ps)) := ⟨⟨_, Q2.out⟩⟩
                    clear FA FB
                    cases hl : ltN x1 x2
                    all_goals
                      rw [hl] at KL HC
                      clear hl
                      go_wp2_with fail
                      refine wp_region_own Q2.out (by kernel_rfl) (by kernel_rfl) ?_
                      iterate 12 (go_big_quiet_step (fail))
                      go_big_quiet_step ((go_at_call 111; exact own_same (KL.out _)))
                      iterate 1 (go_big_quiet_step (fail))
                      refine wpQuiet_nil ?_
                      rintro wQ9 ⟨z, hz⟩
                      have Q9 := Lib.hid (show Own w0 wQ9 (dat g n c d :: ps) by rw [hz]; exact z.own)
                      clear hz z Q2 fa fb hne KL
                      go_wp2_with fail
                      go_meet
                      exact ⟨congrArg Value.bool HC.out.symm, Q9.out⟩
                  case rest =>
                    obtain ⟨rfl, S4⟩ := hcut
                    subst hCBV
                    clear Q2 Q0 hcb
                    rcases CBV with _ | _
                    case true => as_aux_lemma =>
                      have hle := HCB.out rfl
                      have HE := Lib.hid (show I2 = Sort.scanUp (fun y => ltN y d[a]!) d j (x + 1) from HST.out)
                      have zx : IntKind.i64.wrap ((x : Int) + 1) = ((x + 1 : Nat) : Int) := by rw [show (x : Int) + 1 = ((x + 1 : Nat) : Int) by omega]; exact IntWalk.i64_in _ (by omega)
                      have HLE := Lib.hid hle
                      clear HST HCB
                      go_wp2_with fail
                      go_roundg ((j + 1 - (x + 1)))
                      case measure => have := QM.out; have := HLE.out; omega
                      case rel => exact ⟨x + 1, by have := HLE.out; omega, by go_num, HE.out, rfl, S4.out⟩
                    have HI2 := Lib.hid (show I2 = x from HST.out)
                    clear HST HCB QM
                    have HXI := Lib.hid (show i ≤ x by omega)
                    have HJ0 := Lib.hid (show J2 = Sort.scanDown (fun y => !ltN y d[a]!) d x j by rw [← HI2.out]; exact HJD.out)
                    go_wp2_with fail
                    go_loopg [11] ((j + 1 - (x))) (fun q u wr => ∃ y : Nat, (a ≤ y ∧ y ≤ j) ∧ u = .int .i64 ((y : Nat) : Int) ∧ Hid (J2 = Sort.scanDown (fun y => !ltN y d[a]!) d x y ∧ q = (y + 1 - (x)) ∧ Own w0 wr (dat g n c d :: ps)))
                    case atStart => exact ⟨j, by omega, rfl, HJ0.out, rfl, S4.out⟩
                    case round =>
                      obtain ⟨y, hran, rfl, hI⟩ := hrel
                      have Q0 := Lib.hid hI.out.1
                      have QM := Lib.hid hI.out.2.1
                      have Q2 := Lib.hid hI.out.2.2
                      clear hI S4 HJ0
                      obtain ⟨cb, hcb⟩ : ∃ cb, cb = (decide (x ≤ y) && (fun y => !ltN y d[a]!) d[y]!) := ⟨_, rfl⟩
                      have HST := Lib.hid (show J2 = if cb = true then Sort.scanDown (fun y => !ltN y d[a]!) d x (y - 1) else y by rw [Q0.out, scanDown_step, hcb])
                      have HCB := Lib.hid (show cb = true → x ≤ y from fun h => by rw [hcb] at h; simp at h; omega)
                      obtain ⟨CBV, hCBV⟩ : ∃ V, V = cb := ⟨_, rfl⟩
                      go_upto_region 15 with (fail)
                      go_cut [129] from 115 to 131 (fun u wx => u = .bool CBV ∧ Hid (Own w0 wx (dat g n c d :: ps)))
                      case first =>
                        as_aux_lemma =>
                        by_cases hle : x ≤ y
                        case neg =>
                          have HC := Lib.hid (show CBV = false by rw [hCBV, hcb]; simp [hle])
                          clear hcb hCBV HST HCB
                          go_wp2_with fail
                          have hle2 : ¬ (x : Int) ≤ (y : Int) := by omega
                          have hne : Nonempty (OwnOf w0 (dat g n c d :: ps)) := ⟨⟨_, Q2.out⟩⟩
                          refine wp_region_own Q2.out (by kernel_rfl) (by kernel_rfl) ?_
                          iterate 15 (go_big_quiet_step (fail))
                          refine wpQuiet_nil ?_
                          rintro wQ9 ⟨z, hz⟩
                          have Q9 := Lib.hid (show Own w0 wQ9 (dat g n c d :: ps) by rw [hz]; exact z.own)
                          clear hz z Q2 hne
                          go_wp2_with fail
                          go_meet
                          exact ⟨congrArg Value.bool HC.out.symm, Q9.out⟩
                        have hle2 : (x : Int) ≤ (y : Int) := by omega
                        have hxn : (y : Int) < (n : Int) := by omega
                        have han : (a : Int) < (n : Int) := by omega
                        have FA := Lib.hid (fun z : OwnOf w0 (dat g n c d :: ps) => z.own.rowAt (g := g) 0 rfl (at_arr (d := d) (i := y) (by have := HSZ.out; omega) rfl))
                        have FB := Lib.hid (fun z : OwnOf w0 (dat g n c d :: ps) => z.own.rowAt (g := g) 0 rfl (at_arr (d := d) (i := a) (by have := HSZ.out; omega) rfl))
                        have HC := Lib.hid (show CBV = (fun y => !ltN y d[a]!) d[y]! by rw [hCBV, hcb]; simp [hle])
                        dsimp only at HC
                        clear hcb hCBV HST HCB Q0
                        generalize d[y]! = x1 at *
                        generalize d[a]! = x2 at *
                        have fa := FA.out
                        have fb := FB.out
                        have KL := Lib.hid (fun W1 => less_any x1 x2 W1)
                        have hne : Nonempty (OwnOf w0 (dat g n c d :: ps)) := ⟨⟨_, Q2.out⟩⟩
                        clear FA FB
                        cases hl : ltN x1 x2
                        all_goals
                          rw [hl] at KL HC
                          clear hl
                          go_wp2_with fail
                          refine wp_region_own Q2.out (by kernel_rfl) (by kernel_rfl) ?_
                          iterate 12 (go_big_quiet_step (fail))
                          go_big_quiet_step ((go_at_call 111; exact own_same (KL.out _)))
                          iterate 2 (go_big_quiet_step (fail))
                          refine wpQuiet_nil ?_
                          rintro wQ9 ⟨z, hz⟩
                          have Q9 := Lib.hid (show Own w0 wQ9 (dat g n c d :: ps) by rw [hz]; exact z.own)
                          clear hz z Q2 fa fb hne KL
                          go_wp2_with fail
                          go_meet
                          exact ⟨congrArg Value.bool HC.out.symm, Q9.out⟩
                      case rest =>
                        obtain ⟨rfl, S5⟩ := hcut
                        subst hCBV
                        clear Q2 Q0 hcb
                        rcases CBV with _ | _
                        case true => as_aux_lemma =>
                          have hle := HCB.out rfl
                          have HE := Lib.hid (show J2 = Sort.scanDown (fun y => !ltN y d[a]!) d x (y - 1) from HST.out)
                          have zx : IntKind.i64.wrap ((y : Int) - 1) = ((y - 1 : Nat) : Int) := by rw [show (y : Int) - 1 = ((y - 1 : Nat) : Int) by omega]; exact IntWalk.i64_in _ (by omega)
                          have HLE := Lib.hid hle
                          clear HST HCB
                          go_wp2_with fail
                          go_roundg ((y - 1 + 1 - (x)))
                          case measure => have := QM.out; have := HLE.out; omega
                          case rel => exact ⟨y - 1, by have := HLE.out; omega, by go_num, HE.out, rfl, S5.out⟩
                        have HJ2 := Lib.hid (show J2 = y from HST.out)
                        clear HST HCB QM
                        have HYJ := Lib.hid (show y ≤ j by omega)
                        rw [HI2.out, HJ2.out] at HEQ
                        by_cases hgt : y < x
                        · as_aux_lemma =>
                          have hgt2 : (y : Int) < (x : Int) := by omega
                          have hyn : (y : Int) < (n : Int) := by omega
                          have hsz : d.size = n := HSZ.out
                          obtain ⟨vi, vj, d1, d2, dn, sq1, sq2, sq3, sq4, sq5, sq6, sq7⟩ := swp_vars d (y) (a)
                          have SI := Lib.hid (at_arr (d := d) (i := y) (by omega) sq1)
                          have SJ := Lib.hid (at_arr (d := d) (i := a) (by omega) sq2)
                          have SBI := Lib.hid (show y < d.size by omega)
                          have SBJ := Lib.hid (show a < d.size by omega)
                          have SQ3 := Lib.hid sq3
                          have SQ4 := Lib.hid sq4
                          have SQ5 := Lib.hid sq5
                          have SQ6 := Lib.hid sq6
                          have SQ7 := Lib.hid sq7
                          have SZ := Lib.hid (show dn.size = d.size by rw [← sq7]; exact swp_size _ _ _)
                          clear sq1 sq2 sq3 sq4 sq5 sq6 sq7
                          have HF := Lib.hid (show R = (y, false, dn) by rw [HRL.out, HEQ.out, if_pos hgt, ← SQ7.out])
                          clear hsz HEQ HRL
                          go_upto_region 21 with (fail)
                          refine wp_region_state 168 [(153, (.slice (some ⟨g, 0, none⟩) n c)), (154, (.int .i64 ((y : Nat) : Int))), (155, (.slice (some ⟨g, 0, none⟩) n c)), (156, (.int .i64 ((a : Nat) : Int))), (157, (.slice (some ⟨g, 0, none⟩) n c)), (158, (.int .i64 ((a : Nat) : Int))), (159, (.pointer (some ⟨g, a, none⟩))), (160, (.int .u16 (vj : Nat))), (161, (.slice (some ⟨g, 0, none⟩) n c)), (162, (.int .i64 ((y : Nat) : Int))), (163, (.pointer (some ⟨g, y, none⟩))), (164, (.int .u16 (vi : Nat))), (165, (.pointer (some ⟨g, y, none⟩))), (166, (.pointer (some ⟨g, a, none⟩)))] (fun L vs w' => Own w0 w' (dat g n c (cond (L 13) (cond (L 15) dn d1) (cond (L 15) d2 d)) :: ps)) (by kernel_rfl) (by kernel_rfl) [153, 154, 155, 156, 157, 158, 159, 160, 161, 162, 163, 164, 165, 166] (by kernel_rfl) rfl (by kernel_rfl) 16 rfl ?_ ?_ ?_
                          · exact fun L hL => (S5.out.ext (Below.refl _ _).drew).cast (by simp [hL 13 (by decide), hL 15 (by decide)])
                          · refine ⟨StepS.of [] (by kernel_rfl) ?_, ?_⟩
                            · intro L vs wq hL hA hC hJ
                              unfold forAll
                              exact StepV.val 153 (by kernel_rfl) (by kernel_rfl) rfl (by simp) rfl rfl hJ
                            refine ⟨StepS.of [] (by kernel_rfl) ?_, ?_⟩
                            · intro L vs wq hL hA hC hJ
                              unfold forAll
                              exact StepV.val 154 (by kernel_rfl) (by kernel_rfl) rfl (by simp) rfl rfl hJ
                            refine ⟨StepS.of [] (by kernel_rfl) ?_, ?_⟩
                            · intro L vs wq hL hA hC hJ
                              unfold forAll
                              exact StepV.val 155 (by kernel_rfl) (by kernel_rfl) rfl (by simp) rfl rfl hJ
                            refine ⟨StepS.of [] (by kernel_rfl) ?_, ?_⟩
                            · intro L vs wq hL hA hC hJ
                              unfold forAll
                              exact StepV.val 156 (by kernel_rfl) (by kernel_rfl) rfl (by simp) rfl rfl hJ
                            refine ⟨StepS.of [] (by kernel_rfl) ?_, ?_⟩
                            · intro L vs wq hL hA hC hJ
                              unfold forAll
                              exact StepV.val 157 (by kernel_rfl) (by kernel_rfl) rfl (by simp) rfl rfl hJ
                            refine ⟨StepS.of [] (by kernel_rfl) ?_, ?_⟩
                            · intro L vs wq hL hA hC hJ
                              unfold forAll
                              exact StepV.val 158 (by kernel_rfl) (by kernel_rfl) rfl (by simp) rfl rfl hJ
                            refine ⟨StepS.of [157, 158] (by kernel_rfl) ?_, ?_⟩
                            · intro L vs wq hL hA hC hJ h157 h158
                              rw [(show vs 157 = (.slice (some ⟨g, 0, none⟩) n c) from h157), (show vs 158 = (.int .i64 ((a : Nat) : Int)) from h158)]
                              unfold forAll
                              exact StepV.val 159 (by kernel_rfl) (by go_simp) rfl (by simp [Act.put]) rfl rfl hJ
                            refine ⟨StepS.of [159] (by kernel_rfl) ?_, ?_⟩
                            · intro L vs wq hL hA hC hJ h159
                              rw [(show vs 159 = (.pointer (some ⟨g, a, none⟩)) from h159)]
                              unfold forAll
                              have q1 := hC.no (j := 13) (i := 7) (by kernel_rfl) hL
                              have q2 := hC.no (j := 15) (i := 7) (by kernel_rfl) hL
                              have K := Own.cast (qs := dat g n c d :: ps) hJ (by simp [q1, q2])
                              have t0 := K.rowAt 0 rfl (u := .int .u16 (vj : Nat)) (j := a) SJ.out
                              have tl := (K.rowLt 0 rfl).1
                              exact StepV.val 160 (by kernel_rfl) (by go_simp) rfl (by simp [Act.put]) rfl rfl hJ
                            refine ⟨StepS.of [] (by kernel_rfl) ?_, ?_⟩
                            · intro L vs wq hL hA hC hJ
                              unfold forAll
                              exact StepV.val 161 (by kernel_rfl) (by kernel_rfl) rfl (by simp) rfl rfl hJ
                            refine ⟨StepS.of [] (by kernel_rfl) ?_, ?_⟩
                            · intro L vs wq hL hA hC hJ
                              unfold forAll
                              exact StepV.val 162 (by kernel_rfl) (by kernel_rfl) rfl (by simp) rfl rfl hJ
                            refine ⟨StepS.of [161, 162] (by kernel_rfl) ?_, ?_⟩
                            · intro L vs wq hL hA hC hJ h161 h162
                              rw [(show vs 161 = (.slice (some ⟨g, 0, none⟩) n c) from h161), (show vs 162 = (.int .i64 ((y : Nat) : Int)) from h162)]
                              unfold forAll
                              exact StepV.val 163 (by kernel_rfl) (by go_simp) rfl (by simp [Act.put]) rfl rfl hJ
                            refine ⟨StepS.of [163] (by kernel_rfl) ?_, ?_⟩
                            · intro L vs wq hL hA hC hJ h163
                              rw [(show vs 163 = (.pointer (some ⟨g, y, none⟩)) from h163)]
                              unfold forAll
                              have q1 := hC.no (j := 13) (i := 11) (by kernel_rfl) hL
                              have q2 := hC.no (j := 15) (i := 11) (by kernel_rfl) hL
                              have K := Own.cast (qs := dat g n c d :: ps) hJ (by simp [q1, q2])
                              have t0 := K.rowAt 0 rfl (u := .int .u16 (vi : Nat)) (j := y) SI.out
                              have tl := (K.rowLt 0 rfl).1
                              exact StepV.val 164 (by kernel_rfl) (by go_simp) rfl (by simp [Act.put]) rfl rfl hJ
                            refine ⟨StepS.of [153, 154] (by kernel_rfl) ?_, ?_⟩
                            · intro L vs wq hL hA hC hJ h153 h154
                              rw [(show vs 153 = (.slice (some ⟨g, 0, none⟩) n c) from h153), (show vs 154 = (.int .i64 ((y : Nat) : Int)) from h154)]
                              unfold forAll
                              exact StepV.val 165 (by kernel_rfl) (by go_simp) rfl (by simp [Act.put]) rfl rfl hJ
                            refine ⟨StepS.of [165, 160] (by kernel_rfl) ?_, ?_⟩
                            · intro L vs wq hL hA hC hJ h165 h160
                              rw [(show vs 165 = (.pointer (some ⟨g, y, none⟩)) from h165), (show vs 160 = (.int .u16 (vj : Nat)) from h160)]
                              unfold forAll
                              cases q : L 15
                              · have K := Own.cast (qs := dat g n c d :: ps) hJ (by simp [hL, q])
                                have tl := (K.rowLt 0 rfl).1; have tf := (K.rowLt 0 rfl).2
                                have t0 := K.rowAt 0 rfl (j := y) SI.out
                                exact StepV.skip (by kernel_rfl) (by go_simp) rfl rfl ((K.setD (y) vj).cast (by simp [upd, q, SQ3.out]))
                              · have K := Own.cast (qs := dat g n c d2 :: ps) hJ (by simp [hL, q])
                                have tl := (K.rowLt 0 rfl).1; have tf := (K.rowLt 0 rfl).2
                                obtain ⟨u9, t0⟩ := K.someD (i := y) (by rw [← SQ4.out, Array.size_setIfInBounds]; exact SBI.out)
                                exact StepV.skip (by kernel_rfl) (by go_simp) rfl rfl ((K.setD (y) vj).cast (by simp [upd, q, SQ6.out]))
                            refine ⟨StepS.of [155, 156] (by kernel_rfl) ?_, ?_⟩
                            · intro L vs wq hL hA hC hJ h155 h156
                              rw [(show vs 155 = (.slice (some ⟨g, 0, none⟩) n c) from h155), (show vs 156 = (.int .i64 ((a : Nat) : Int)) from h156)]
                              unfold forAll
                              exact StepV.val 166 (by kernel_rfl) (by go_simp) rfl (by simp [Act.put]) rfl rfl hJ
                            refine ⟨StepS.of [166, 164] (by kernel_rfl) ?_, ?_⟩
                            · intro L vs wq hL hA hC hJ h166 h164
                              rw [(show vs 166 = (.pointer (some ⟨g, a, none⟩)) from h166), (show vs 164 = (.int .u16 (vi : Nat)) from h164)]
                              unfold forAll
                              cases q : L 13
                              · have K := Own.cast (qs := dat g n c d :: ps) hJ (by simp [hL, q])
                                have tl := (K.rowLt 0 rfl).1; have tf := (K.rowLt 0 rfl).2
                                have t0 := K.rowAt 0 rfl (j := a) SJ.out
                                exact StepV.skip (by kernel_rfl) (by go_simp) rfl rfl ((K.setD (a) vi).cast (by simp [upd, q, SQ4.out]))
                              · have K := Own.cast (qs := dat g n c d1 :: ps) hJ (by simp [hL, q])
                                have tl := (K.rowLt 0 rfl).1; have tf := (K.rowLt 0 rfl).2
                                obtain ⟨u9, t0⟩ := K.someD (i := a) (by rw [← SQ3.out, Array.size_setIfInBounds]; exact SBJ.out)
                                exact StepV.skip (by kernel_rfl) (by go_simp) rfl rfl ((K.setD (a) vi).cast (by simp [upd, q, SQ5.out]))
                            exact trivial
                          · intro vs wS6 hJ h153 h154 h155 h156 h157 h158 h159 h160 h161 h162 h163 h164 h165 h166
                            rw [(show vs 153 = (.slice (some ⟨g, 0, none⟩) n c) from h153), (show vs 154 = (.int .i64 ((y : Nat) : Int)) from h154), (show vs 155 = (.slice (some ⟨g, 0, none⟩) n c) from h155), (show vs 156 = (.int .i64 ((a : Nat) : Int)) from h156), (show vs 157 = (.slice (some ⟨g, 0, none⟩) n c) from h157), (show vs 158 = (.int .i64 ((a : Nat) : Int)) from h158), (show vs 159 = (.pointer (some ⟨g, a, none⟩)) from h159), (show vs 160 = (.int .u16 (vj : Nat)) from h160), (show vs 161 = (.slice (some ⟨g, 0, none⟩) n c) from h161), (show vs 162 = (.int .i64 ((y : Nat) : Int)) from h162), (show vs 163 = (.pointer (some ⟨g, y, none⟩)) from h163), (show vs 164 = (.int .u16 (vi : Nat)) from h164), (show vs 165 = (.pointer (some ⟨g, y, none⟩)) from h165), (show vs 166 = (.pointer (some ⟨g, a, none⟩)) from h166)]
                            clear h153 h154 h155 h156 h157 h158 h159 h160 h161 h162 h163 h164 h165 h166
                            have S6 := Lib.hid (Own.cast (qs := dat g n c dn :: ps) hJ rfl)
                            clear hJ
                            unfold forAll
                            simp only [Act.put, List.setIfInBounds_toArray, List.set_cons_zero, List.set_cons_succ]
                            go_wp2_with fail
                            go_ret2
                            exact ⟨by rw [HF.out]; rfl, by rw [HF.out]; exact S6.out⟩
                        as_aux_lemma =>
                        have hgt2 : ¬ (y : Int) < (x : Int) := by omega
                        have hxn : (x : Int) < (n : Int) := by omega
                        have hyn : (y : Int) < (n : Int) := by omega
                        have hsz : d.size = n := HSZ.out
                        have zx : IntKind.i64.wrap ((x : Int) + 1) = ((x + 1 : Nat) : Int) := by rw [show (x : Int) + 1 = ((x + 1 : Nat) : Int) by omega]; exact IntWalk.i64_in _ (by omega)
                        have zy : IntKind.i64.wrap ((y : Int) - 1) = ((y - 1 : Nat) : Int) := by rw [show (y : Int) - 1 = ((y - 1 : Nat) : Int) by omega]; exact IntWalk.i64_in _ (by omega)
                        obtain ⟨vi, vj, d1, d2, dn, sq1, sq2, sq3, sq4, sq5, sq6, sq7⟩ := swp_vars d (x) (y)
                        have SI := Lib.hid (at_arr (d := d) (i := x) (by omega) sq1)
                        have SJ := Lib.hid (at_arr (d := d) (i := y) (by omega) sq2)
                        have SBI := Lib.hid (show x < d.size by omega)
                        have SBJ := Lib.hid (show y < d.size by omega)
                        have SQ3 := Lib.hid sq3
                        have SQ4 := Lib.hid sq4
                        have SQ5 := Lib.hid sq5
                        have SQ6 := Lib.hid sq6
                        have SQ7 := Lib.hid sq7
                        have SZ := Lib.hid (show dn.size = d.size by rw [← sq7]; exact swp_size _ _ _)
                        clear sq1 sq2 sq3 sq4 sq5 sq6 sq7
                        have HF := Lib.hid (show RL = Sort.partLoop ltN a (x + 1) (y - 1) dn by rw [HEQ.out, if_neg hgt, SQ7.out])
                        have HGT := Lib.hid hgt
                        clear hsz HEQ
                        go_upto_region 18 with (fail)
                        refine wp_region_state 168 [(135, (.slice (some ⟨g, 0, none⟩) n c)), (136, (.int .i64 ((x : Nat) : Int))), (137, (.slice (some ⟨g, 0, none⟩) n c)), (138, (.int .i64 ((y : Nat) : Int))), (139, (.slice (some ⟨g, 0, none⟩) n c)), (140, (.int .i64 ((y : Nat) : Int))), (141, (.pointer (some ⟨g, y, none⟩))), (142, (.int .u16 (vj : Nat))), (143, (.slice (some ⟨g, 0, none⟩) n c)), (144, (.int .i64 ((x : Nat) : Int))), (145, (.pointer (some ⟨g, x, none⟩))), (146, (.int .u16 (vi : Nat))), (147, (.pointer (some ⟨g, x, none⟩))), (148, (.pointer (some ⟨g, y, none⟩)))] (fun L vs w' => Own w0 w' (dat g n c (cond (L 13) (cond (L 15) dn d1) (cond (L 15) d2 d)) :: ps)) (by kernel_rfl) (by kernel_rfl) [135, 136, 137, 138, 139, 140, 141, 142, 143, 144, 145, 146, 147, 148] (by kernel_rfl) rfl (by kernel_rfl) 16 rfl ?_ ?_ ?_
                        · exact fun L hL => (S5.out.ext (Below.refl _ _).drew).cast (by simp [hL 13 (by decide), hL 15 (by decide)])
                        · refine ⟨StepS.of [] (by kernel_rfl) ?_, ?_⟩
                          · intro L vs wq hL hA hC hJ
                            unfold forAll
                            exact StepV.val 135 (by kernel_rfl) (by kernel_rfl) rfl (by simp) rfl rfl hJ
                          refine ⟨StepS.of [] (by kernel_rfl) ?_, ?_⟩
                          · intro L vs wq hL hA hC hJ
                            unfold forAll
                            exact StepV.val 136 (by kernel_rfl) (by kernel_rfl) rfl (by simp) rfl rfl hJ
                          refine ⟨StepS.of [] (by kernel_rfl) ?_, ?_⟩
                          · intro L vs wq hL hA hC hJ
                            unfold forAll
                            exact StepV.val 137 (by kernel_rfl) (by kernel_rfl) rfl (by simp) rfl rfl hJ
                          refine ⟨StepS.of [] (by kernel_rfl) ?_, ?_⟩
                          · intro L vs wq hL hA hC hJ
                            unfold forAll
                            exact StepV.val 138 (by kernel_rfl) (by kernel_rfl) rfl (by simp) rfl rfl hJ
                          refine ⟨StepS.of [] (by kernel_rfl) ?_, ?_⟩
                          · intro L vs wq hL hA hC hJ
                            unfold forAll
                            exact StepV.val 139 (by kernel_rfl) (by kernel_rfl) rfl (by simp) rfl rfl hJ
                          refine ⟨StepS.of [] (by kernel_rfl) ?_, ?_⟩
                          · intro L vs wq hL hA hC hJ
                            unfold forAll
                            exact StepV.val 140 (by kernel_rfl) (by kernel_rfl) rfl (by simp) rfl rfl hJ
                          refine ⟨StepS.of [139, 140] (by kernel_rfl) ?_, ?_⟩
                          · intro L vs wq hL hA hC hJ h139 h140
                            rw [(show vs 139 = (.slice (some ⟨g, 0, none⟩) n c) from h139), (show vs 140 = (.int .i64 ((y : Nat) : Int)) from h140)]
                            unfold forAll
                            exact StepV.val 141 (by kernel_rfl) (by go_simp) rfl (by simp [Act.put]) rfl rfl hJ
                          refine ⟨StepS.of [141] (by kernel_rfl) ?_, ?_⟩
                          · intro L vs wq hL hA hC hJ h141
                            rw [(show vs 141 = (.pointer (some ⟨g, y, none⟩)) from h141)]
                            unfold forAll
                            have q1 := hC.no (j := 13) (i := 7) (by kernel_rfl) hL
                            have q2 := hC.no (j := 15) (i := 7) (by kernel_rfl) hL
                            have K := Own.cast (qs := dat g n c d :: ps) hJ (by simp [q1, q2])
                            have t0 := K.rowAt 0 rfl (u := .int .u16 (vj : Nat)) (j := y) SJ.out
                            have tl := (K.rowLt 0 rfl).1
                            exact StepV.val 142 (by kernel_rfl) (by go_simp) rfl (by simp [Act.put]) rfl rfl hJ
                          refine ⟨StepS.of [] (by kernel_rfl) ?_, ?_⟩
                          · intro L vs wq hL hA hC hJ
                            unfold forAll
                            exact StepV.val 143 (by kernel_rfl) (by kernel_rfl) rfl (by simp) rfl rfl hJ
                          refine ⟨StepS.of [] (by kernel_rfl) ?_, ?_⟩
                          · intro L vs wq hL hA hC hJ
                            unfold forAll
                            exact StepV.val 144 (by kernel_rfl) (by kernel_rfl) rfl (by simp) rfl rfl hJ
                          refine ⟨StepS.of [143, 144] (by kernel_rfl) ?_, ?_⟩
                          · intro L vs wq hL hA hC hJ h143 h144
                            rw [(show vs 143 = (.slice (some ⟨g, 0, none⟩) n c) from h143), (show vs 144 = (.int .i64 ((x : Nat) : Int)) from h144)]
                            unfold forAll
                            exact StepV.val 145 (by kernel_rfl) (by go_simp) rfl (by simp [Act.put]) rfl rfl hJ
                          refine ⟨StepS.of [145] (by kernel_rfl) ?_, ?_⟩
                          · intro L vs wq hL hA hC hJ h145
                            rw [(show vs 145 = (.pointer (some ⟨g, x, none⟩)) from h145)]
                            unfold forAll
                            have q1 := hC.no (j := 13) (i := 11) (by kernel_rfl) hL
                            have q2 := hC.no (j := 15) (i := 11) (by kernel_rfl) hL
                            have K := Own.cast (qs := dat g n c d :: ps) hJ (by simp [q1, q2])
                            have t0 := K.rowAt 0 rfl (u := .int .u16 (vi : Nat)) (j := x) SI.out
                            have tl := (K.rowLt 0 rfl).1
                            exact StepV.val 146 (by kernel_rfl) (by go_simp) rfl (by simp [Act.put]) rfl rfl hJ
                          refine ⟨StepS.of [135, 136] (by kernel_rfl) ?_, ?_⟩
                          · intro L vs wq hL hA hC hJ h135 h136
                            rw [(show vs 135 = (.slice (some ⟨g, 0, none⟩) n c) from h135), (show vs 136 = (.int .i64 ((x : Nat) : Int)) from h136)]
                            unfold forAll
                            exact StepV.val 147 (by kernel_rfl) (by go_simp) rfl (by simp [Act.put]) rfl rfl hJ
                          refine ⟨StepS.of [147, 142] (by kernel_rfl) ?_, ?_⟩
                          · intro L vs wq hL hA hC hJ h147 h142
                            rw [(show vs 147 = (.pointer (some ⟨g, x, none⟩)) from h147), (show vs 142 = (.int .u16 (vj : Nat)) from h142)]
                            unfold forAll
                            cases q : L 15
                            · have K := Own.cast (qs := dat g n c d :: ps) hJ (by simp [hL, q])
                              have tl := (K.rowLt 0 rfl).1; have tf := (K.rowLt 0 rfl).2
                              have t0 := K.rowAt 0 rfl (j := x) SI.out
                              exact StepV.skip (by kernel_rfl) (by go_simp) rfl rfl ((K.setD (x) vj).cast (by simp [upd, q, SQ3.out]))
                            · have K := Own.cast (qs := dat g n c d2 :: ps) hJ (by simp [hL, q])
                              have tl := (K.rowLt 0 rfl).1; have tf := (K.rowLt 0 rfl).2
                              obtain ⟨u9, t0⟩ := K.someD (i := x) (by rw [← SQ4.out, Array.size_setIfInBounds]; exact SBI.out)
                              exact StepV.skip (by kernel_rfl) (by go_simp) rfl rfl ((K.setD (x) vj).cast (by simp [upd, q, SQ6.out]))
                          refine ⟨StepS.of [137, 138] (by kernel_rfl) ?_, ?_⟩
                          · intro L vs wq hL hA hC hJ h137 h138
                            rw [(show vs 137 = (.slice (some ⟨g, 0, none⟩) n c) from h137), (show vs 138 = (.int .i64 ((y : Nat) : Int)) from h138)]
                            unfold forAll
                            exact StepV.val 148 (by kernel_rfl) (by go_simp) rfl (by simp [Act.put]) rfl rfl hJ
                          refine ⟨StepS.of [148, 146] (by kernel_rfl) ?_, ?_⟩
                          · intro L vs wq hL hA hC hJ h148 h146
                            rw [(show vs 148 = (.pointer (some ⟨g, y, none⟩)) from h148), (show vs 146 = (.int .u16 (vi : Nat)) from h146)]
                            unfold forAll
                            cases q : L 13
                            · have K := Own.cast (qs := dat g n c d :: ps) hJ (by simp [hL, q])
                              have tl := (K.rowLt 0 rfl).1; have tf := (K.rowLt 0 rfl).2
                              have t0 := K.rowAt 0 rfl (j := y) SJ.out
                              exact StepV.skip (by kernel_rfl) (by go_simp) rfl rfl ((K.setD (y) vi).cast (by simp [upd, q, SQ4.out]))
                            · have K := Own.cast (qs := dat g n c d1 :: ps) hJ (by simp [hL, q])
                              have tl := (K.rowLt 0 rfl).1; have tf := (K.rowLt 0 rfl).2
                              obtain ⟨u9, t0⟩ := K.someD (i := y) (by rw [← SQ3.out, Array.size_setIfInBounds]; exact SBJ.out)
                              exact StepV.skip (by kernel_rfl) (by go_simp) rfl rfl ((K.setD (y) vi).cast (by simp [upd, q, SQ5.out]))
                          exact trivial
                        · intro vs wS6 hJ h135 h136 h137 h138 h139 h140 h141 h142 h143 h144 h145 h146 h147 h148
                          rw [(show vs 135 = (.slice (some ⟨g, 0, none⟩) n c) from h135), (show vs 136 = (.int .i64 ((x : Nat) : Int)) from h136), (show vs 137 = (.slice (some ⟨g, 0, none⟩) n c) from h137), (show vs 138 = (.int .i64 ((y : Nat) : Int)) from h138), (show vs 139 = (.slice (some ⟨g, 0, none⟩) n c) from h139), (show vs 140 = (.int .i64 ((y : Nat) : Int)) from h140), (show vs 141 = (.pointer (some ⟨g, y, none⟩)) from h141), (show vs 142 = (.int .u16 (vj : Nat)) from h142), (show vs 143 = (.slice (some ⟨g, 0, none⟩) n c) from h143), (show vs 144 = (.int .i64 ((x : Nat) : Int)) from h144), (show vs 145 = (.pointer (some ⟨g, x, none⟩)) from h145), (show vs 146 = (.int .u16 (vi : Nat)) from h146), (show vs 147 = (.pointer (some ⟨g, x, none⟩)) from h147), (show vs 148 = (.pointer (some ⟨g, y, none⟩)) from h148)]
                          clear h135 h136 h137 h138 h139 h140 h141 h142 h143 h144 h145 h146 h147 h148
                          have S6 := Lib.hid (Own.cast (qs := dat g n c dn :: ps) hJ rfl)
                          clear hJ
                          unfold forAll
                          simp only [Act.put, List.setIfInBounds_toArray, List.set_cons_zero, List.set_cons_succ]
                          go_wp2_with fail
                          go_roundg (y - 1 + 1 - (x + 1))
                          case measure => have := IQ.out; have := HXI.out; have := HYJ.out; have := HGT.out; omega
                          case rel => exact ⟨x + 1, y - 1, by have := HGT.out; have := HXI.out; omega, by go_num, by go_num, dn, HF.out, SZ.out.trans HSZ.out, rfl, S6.out⟩
end Go.Proofs.YtnienfgaidccpaaDoor
