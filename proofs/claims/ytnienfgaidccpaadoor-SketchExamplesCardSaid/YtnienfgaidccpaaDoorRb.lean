/- Words: heap sort, and the reversal of a range. No condition. -/
import Derived.Test.YtnienfgaidccpaaDoorRa
namespace Go.Proofs.YtnienfgaidccpaaDoor
open Go.RowKit Go.Shelf
attribute [local go_sem] Oper.semAt_some

theorem sd_end {hi f r : Nat} {d : Array Nat} (h : hi ≤ 2 * r + 1) : Sort.siftDown ltN hi f r d = d := by
  rw [Sort.siftDown, dif_pos h]
theorem sd_left {hi f r : Nat} {d : Array Nat} (h : 2 * r + 1 < hi) (hc : ¬ 2 * r + 2 < hi ∨ ltN d[f + (2 * r + 1)]! d[f + (2 * r + 2)]! = false) :
    Sort.siftDown ltN hi f r d = if ltN d[f + r]! d[f + (2 * r + 1)]! = true then Sort.siftDown ltN hi f (2 * r + 1) (Sort.swp d (f + r) (f + (2 * r + 1))) else d := by
  rw [Sort.siftDown, dif_neg (by omega), if_neg]
  · cases e : ltN d[f + r]! d[f + (2 * r + 1)]! <;> simp
  · rcases hc with hc | hc
    · simp; omega
    · rw [show f + (2 * r + 1) + 1 = f + (2 * r + 2) by omega, hc]; simp
theorem sd_right {hi f r : Nat} {d : Array Nat} (h : 2 * r + 2 < hi) (hc : ltN d[f + (2 * r + 1)]! d[f + (2 * r + 2)]! = true) :
    Sort.siftDown ltN hi f r d = if ltN d[f + r]! d[f + (2 * r + 2)]! = true then Sort.siftDown ltN hi f (2 * r + 2) (Sort.swp d (f + r) (f + (2 * r + 2))) else d := by
  rw [Sort.siftDown, dif_neg (by omega), if_pos]
  · cases e : ltN d[f + r]! d[f + (2 * r + 2)]!
    · simp
    · simp [h]
  · rw [show f + (2 * r + 1) + 1 = f + (2 * r + 2) by omega, hc]
    simp; omega
set_option maxRecDepth 100000 in
set_option maxHeartbeats 8000000 in
theorem sift_any (w0 : World) (ps : List Piece) (g n c : Nat) (d : Array Nat) (W : World) (hO : Own w0 W (dat g n c d :: ps)) (lo hi f : Nat) (hd : d.size = n) (hf : f + hi ≤ n) (hlo : lo ≤ n) (hn : n ≤ 1000000) :
    Calls Tryd.prog 117 #[.slice (some ⟨g, 0, none⟩) n c, .int .i64 (lo : Nat), .int .i64 (hi : Nat), .int .i64 (f : Nat)] W fun e w' => e = .returned (.tuple #[]) ∧ Own w0 w' (dat g n c (Sort.siftDown ltN hi f lo d) :: ps) := by
  have S0 := Lib.hid hO
  have HD := Lib.hid hd
  obtain ⟨R, hR⟩ : ∃ R, R = Sort.siftDown ltN hi f lo d := ⟨_, rfl⟩
  rw [← hR]
  have H0 := Lib.hid hR
  clear hO hd hR
  go_enter Tryd.func117, Tryd.ntmps117
  go_wp2_with fail
  go_loopg [8] (hi - lo) (fun q u8 wr => ∃ r : Nat, r ≤ n ∧ u8 = .int .i64 ((r : Nat) : Int) ∧ Hid (∃ d, R = Sort.siftDown ltN hi f r d ∧ d.size = n ∧ q = hi - r ∧ Own w0 wr (dat g n c d :: ps)))
  case atStart => exact ⟨lo, hlo, rfl, d, H0.out, HD.out, rfl, S0.out⟩
  case round =>
    obtain ⟨r, hrn, rfl, hI⟩ := hrel
    obtain ⟨d, q1, q2, q3, q4⟩ := hI.out
    have I0 := Lib.hid q1
    have I1 := Lib.hid q2
    have hsz : d.size = n := q2
    have I2 := Lib.hid q4
    subst q3
    clear hI q1 q2 q4 S0 H0 HD
    have z1 : IntKind.i64.wrap (2 * (r : Int)) = 2 * (r : Int) := IntWalk.i64_in _ (by omega)
    have z2 : IntKind.i64.wrap (2 * (r : Int) + 1) = ((2 * r + 1 : Nat) : Int) := by rw [show 2 * (r : Int) + 1 = ((2 * r + 1 : Nat) : Int) by omega]; exact IntWalk.i64_in _ (by omega)
    by_cases hlt : 2 * r + 1 < hi
    case neg => as_aux_lemma =>
      have hni : (hi : Int) ≤ ((2 * r + 1 : Nat) : Int) := by omega
      have HE := Lib.hid (show R = d by rw [I0.out, sd_end (by omega)])
      clear hsz
      obtain ⟨c0, hc0⟩ : ∃ c0, c0 = 2 * r + 1 := ⟨_, rfl⟩
      rw [← hc0] at z2 hni
      clear hlt hc0
      go_wp2_with fail
      go_end0
      exact ⟨rfl, by rw [HE.out]; exact I2.out⟩
    have hne : Nonempty (OwnOf w0 (dat g n c d :: ps)) := ⟨⟨_, I2.out⟩⟩
    obtain ⟨pr, hpr⟩ : ∃ pr, pr = f + r := ⟨_, rfl⟩
    have zr : (f : Int) + (r : Int) = (pr : Int) := by omega
    have zrw : IntKind.i64.wrap (pr : Int) = (pr : Int) := IntWalk.i64_in _ (by omega)
    have hprn : (pr : Int) < (n : Int) := by omega
    have HSL := Lib.hid (fun h => sd_left (f := f) (d := d) hlt h)
    have HSR := Lib.hid (fun h1 h2 => sd_right (f := f) (d := d) (r := r) (hi := hi) h1 h2)
    rw [← hpr] at HSL HSR
    obtain ⟨c0, hc0⟩ : ∃ c0, c0 = 2 * r + 1 := ⟨_, rfl⟩
    obtain ⟨c1, hc1⟩ : ∃ c1, c1 = 2 * r + 2 := ⟨_, rfl⟩
    rw [← hc0, ← hc1] at HSL
    rw [← hc0, ← hc1] at HSR
    rw [← hc0] at z2 hlt
    have hc01 : c1 = c0 + 1 := by omega
    have hrc : r < c0 := by omega
    have hci : ¬ (hi : Int) ≤ (c0 : Int) := by omega
    have z3 : IntKind.i64.wrap ((c0 : Int) + 1) = (c1 : Int) := by rw [show (c0 : Int) + 1 = (c1 : Int) by omega]; exact IntWalk.i64_in _ (by omega)
    have hprf : pr = f + r := hpr
    clear hpr hc0 hc1
    replace hc01 := Lib.hid hc01
    replace hprf := Lib.hid hprf
    have hprs : pr < d.size := by have := hprf.out; omega
    by_cases h2 : c1 < hi
    case neg =>
      have HE := Lib.hid (I0.out.trans (HSL.out (.inl h2)))
      have h2' : ¬ (c1 : Int) < (hi : Int) := by omega
      clear HSL HSR I0
      go_upto_region 3 with (fail)
      have h2'' : ¬ (c1 : Int) < (hi : Int) := by omega
      refine wp_region_own I2.out (by kernel_rfl) (by kernel_rfl) ?_
      iterate 20 (go_big_quiet_step (fail))
      refine wpQuiet_nil ?_
      rintro wS4 ⟨z, hz⟩
      have S4 := Lib.hid (show Own w0 wS4 (dat g n c d :: ps) by rw [hz]; exact z.own)
      clear hz z I2 
      obtain ⟨pc, hpc⟩ : ∃ pc, pc = f + c0 := ⟨_, rfl⟩
      rw [← hpc] at HE
      have zc : (f : Int) + (c0 : Int) = (pc : Int) := by omega
      have zcw : IntKind.i64.wrap (pc : Int) = (pc : Int) := IntWalk.i64_in _ (by omega)
      have hpcn : (pc : Int) < (n : Int) := by omega
      have FA := Lib.hid (fun x : OwnOf w0 (dat g n c d :: ps) => x.own.rowAt (g := g) 0 rfl (at_arr (d := d) (i := pr) (by omega) rfl))
      have FB := Lib.hid (fun x : OwnOf w0 (dat g n c d :: ps) => x.own.rowAt (g := g) 0 rfl (at_arr (d := d) (i := pc) (by omega) rfl))
      obtain ⟨vi, vj, d1, d2, dn, sq1, sq2, sq3, sq4, sq5, sq6, sq7⟩ := swp_vars d (pr) (pc)
      have SI := Lib.hid (at_arr (d := d) (i := pr) (by omega) sq1)
      have SJ := Lib.hid (at_arr (d := d) (i := pc) (by omega) sq2)
      have SBI := Lib.hid (show pr < d.size by omega)
      have SBJ := Lib.hid (show pc < d.size by omega)
      have SQ3 := Lib.hid sq3
      have SQ4 := Lib.hid sq4
      have SQ5 := Lib.hid sq5
      have SQ6 := Lib.hid sq6
      have SQ7 := Lib.hid sq7
      have SZ := Lib.hid (show dn.size = d.size by rw [← sq7]; exact swp_size _ _ _)
      clear sq1 sq2 sq3 sq4 sq5 sq6 sq7
      generalize d[pr]! = x1 at *
      generalize d[pc]! = x2 at *
      have fa := FA.out
      have fb := FB.out
      have KL := Lib.hid (fun W1 => less_any x1 x2 W1)
      have HCB := Lib.hid (show c0 < hi by omega)
      clear FA FB hpc hsz
      go_upto_region 5 with (fail)
      cases hl : ltN x1 x2
      · as_aux_lemma =>
        rw [hl] at KL HE
        have HF := Lib.hid (show R = d by rw [HE.out]; rfl)
        clear hl HE SI SJ SQ3 SQ4 SQ5 SQ6 SQ7 SZ SBI SBJ
        refine wp_region_own S4.out (by kernel_rfl) (by kernel_rfl) ?_
        iterate 12 (go_big_quiet_step (fail))
        go_big_quiet_step ((go_at_call 111; exact own_same (KL.out _)))
        iterate 1 (go_big_quiet_step (fail))
        refine wpQuiet_nil ?_
        rintro wS6 ⟨z, hz⟩
        have S6 := Lib.hid (show Own w0 wS6 (dat g n c d :: ps) by rw [hz]; exact z.own)
        clear hz z S4 fa fb hne KL
        go_wp2_with fail
        refine bodyPost_ret (results_none rfl _ _ _) rfl ?_
        exact ⟨rfl, by rw [HF.out]; exact S6.out⟩
      · as_aux_lemma =>
        rw [hl] at KL HE
        have HF := Lib.hid (show R = Sort.siftDown ltN hi f c0 dn by rw [HE.out, SQ7.out]; rfl)
        clear hl HE
        refine wp_region_own S4.out (by kernel_rfl) (by kernel_rfl) ?_
        iterate 12 (go_big_quiet_step (fail))
        go_big_quiet_step ((go_at_call 111; exact own_same (KL.out _)))
        iterate 1 (go_big_quiet_step (fail))
        refine wpQuiet_nil ?_
        rintro wS6 ⟨z, hz⟩
        have S6 := Lib.hid (show Own w0 wS6 (dat g n c d :: ps) by rw [hz]; exact z.own)
        clear hz z S4 fa fb hne KL
        go_upto_region 6 with (fail)
        refine wp_region_state 76 [(53, (.slice (some ⟨g, 0, none⟩) n c)), (54, (.int .i64 ((f : Nat) : Int))), (55, (.int .i64 ((r : Nat) : Int))), (56, (.int .i64 ((pr : Nat) : Int))), (57, (.slice (some ⟨g, 0, none⟩) n c)), (58, (.int .i64 ((f : Nat) : Int))), (59, (.int .i64 ((c0 : Nat) : Int))), (60, (.int .i64 ((pc : Nat) : Int))), (61, (.slice (some ⟨g, 0, none⟩) n c)), (62, (.int .i64 ((f : Nat) : Int))), (63, (.int .i64 ((c0 : Nat) : Int))), (64, (.int .i64 ((pc : Nat) : Int))), (65, (.pointer (some ⟨g, pc, none⟩))), (66, (.int .u16 (vj : Nat))), (67, (.slice (some ⟨g, 0, none⟩) n c)), (68, (.int .i64 ((f : Nat) : Int))), (69, (.int .i64 ((r : Nat) : Int))), (70, (.int .i64 ((pr : Nat) : Int))), (71, (.pointer (some ⟨g, pr, none⟩))), (72, (.int .u16 (vi : Nat))), (73, (.pointer (some ⟨g, pr, none⟩))), (74, (.pointer (some ⟨g, pc, none⟩)))] (fun L vs w' => Own w0 w' (dat g n c (cond (L 21) (cond (L 23) dn d1) (cond (L 23) d2 d)) :: ps)) (by kernel_rfl) (by kernel_rfl) [53, 54, 55, 56, 57, 58, 59, 60, 61, 62, 63, 64, 65, 66, 67, 68, 69, 70, 71, 72, 73, 74] (by kernel_rfl) rfl (by kernel_rfl) 24 rfl ?_ ?_ ?_
        · exact fun L hL => (S6.out.ext (Below.refl _ _).drew).cast (by simp [hL 21 (by decide), hL 23 (by decide)])
        · refine ⟨StepS.of [] (by kernel_rfl) ?_, ?_⟩
          · intro L vs wq hL hA hC hJ
            unfold forAll
            exact StepV.val 53 (by kernel_rfl) (by kernel_rfl) rfl (by simp) rfl rfl hJ
          refine ⟨StepS.of [] (by kernel_rfl) ?_, ?_⟩
          · intro L vs wq hL hA hC hJ
            unfold forAll
            exact StepV.val 54 (by kernel_rfl) (by kernel_rfl) rfl (by simp) rfl rfl hJ
          refine ⟨StepS.of [] (by kernel_rfl) ?_, ?_⟩
          · intro L vs wq hL hA hC hJ
            unfold forAll
            exact StepV.val 55 (by kernel_rfl) (by kernel_rfl) rfl (by simp) rfl rfl hJ
          refine ⟨StepS.of [54, 55] (by kernel_rfl) ?_, ?_⟩
          · intro L vs wq hL hA hC hJ h54 h55
            rw [(show vs 54 = (.int .i64 ((f : Nat) : Int)) from h54), (show vs 55 = (.int .i64 ((r : Nat) : Int)) from h55)]
            unfold forAll
            exact StepV.val 56 (by kernel_rfl) (by go_simp) rfl (by simp [Act.put]) rfl rfl hJ
          refine ⟨StepS.of [] (by kernel_rfl) ?_, ?_⟩
          · intro L vs wq hL hA hC hJ
            unfold forAll
            exact StepV.val 57 (by kernel_rfl) (by kernel_rfl) rfl (by simp) rfl rfl hJ
          refine ⟨StepS.of [] (by kernel_rfl) ?_, ?_⟩
          · intro L vs wq hL hA hC hJ
            unfold forAll
            exact StepV.val 58 (by kernel_rfl) (by kernel_rfl) rfl (by simp) rfl rfl hJ
          refine ⟨StepS.of [] (by kernel_rfl) ?_, ?_⟩
          · intro L vs wq hL hA hC hJ
            unfold forAll
            exact StepV.val 59 (by kernel_rfl) (by kernel_rfl) rfl (by simp) rfl rfl hJ
          refine ⟨StepS.of [58, 59] (by kernel_rfl) ?_, ?_⟩
          · intro L vs wq hL hA hC hJ h58 h59
            rw [(show vs 58 = (.int .i64 ((f : Nat) : Int)) from h58), (show vs 59 = (.int .i64 ((c0 : Nat) : Int)) from h59)]
            unfold forAll
            exact StepV.val 60 (by kernel_rfl) (by go_simp) rfl (by simp [Act.put]) rfl rfl hJ
          refine ⟨StepS.of [] (by kernel_rfl) ?_, ?_⟩
          · intro L vs wq hL hA hC hJ
            unfold forAll
            exact StepV.val 61 (by kernel_rfl) (by kernel_rfl) rfl (by simp) rfl rfl hJ
          refine ⟨StepS.of [] (by kernel_rfl) ?_, ?_⟩
          · intro L vs wq hL hA hC hJ
            unfold forAll
            exact StepV.val 62 (by kernel_rfl) (by kernel_rfl) rfl (by simp) rfl rfl hJ
          refine ⟨StepS.of [] (by kernel_rfl) ?_, ?_⟩
          · intro L vs wq hL hA hC hJ
            unfold forAll
            exact StepV.val 63 (by kernel_rfl) (by kernel_rfl) rfl (by simp) rfl rfl hJ
          refine ⟨StepS.of [62, 63] (by kernel_rfl) ?_, ?_⟩
          · intro L vs wq hL hA hC hJ h62 h63
            rw [(show vs 62 = (.int .i64 ((f : Nat) : Int)) from h62), (show vs 63 = (.int .i64 ((c0 : Nat) : Int)) from h63)]
            unfold forAll
            exact StepV.val 64 (by kernel_rfl) (by go_simp) rfl (by simp [Act.put]) rfl rfl hJ
          refine ⟨StepS.of [61, 64] (by kernel_rfl) ?_, ?_⟩
          · intro L vs wq hL hA hC hJ h61 h64
            rw [(show vs 61 = (.slice (some ⟨g, 0, none⟩) n c) from h61), (show vs 64 = (.int .i64 ((pc : Nat) : Int)) from h64)]
            unfold forAll
            exact StepV.val 65 (by kernel_rfl) (by go_simp) rfl (by simp [Act.put]) rfl rfl hJ
          refine ⟨StepS.of [65] (by kernel_rfl) ?_, ?_⟩
          · intro L vs wq hL hA hC hJ h65
            rw [(show vs 65 = (.pointer (some ⟨g, pc, none⟩)) from h65)]
            unfold forAll
            have q1 := hC.no (j := 21) (i := 13) (by kernel_rfl) hL
            have q2 := hC.no (j := 23) (i := 13) (by kernel_rfl) hL
            have K := Own.cast (qs := dat g n c d :: ps) hJ (by simp [q1, q2])
            have t0 := K.rowAt 0 rfl (u := .int .u16 (vj : Nat)) (j := pc) SJ.out
            have tl := (K.rowLt 0 rfl).1
            exact StepV.val 66 (by kernel_rfl) (by go_simp) rfl (by simp [Act.put]) rfl rfl hJ
          refine ⟨StepS.of [] (by kernel_rfl) ?_, ?_⟩
          · intro L vs wq hL hA hC hJ
            unfold forAll
            exact StepV.val 67 (by kernel_rfl) (by kernel_rfl) rfl (by simp) rfl rfl hJ
          refine ⟨StepS.of [] (by kernel_rfl) ?_, ?_⟩
          · intro L vs wq hL hA hC hJ
            unfold forAll
            exact StepV.val 68 (by kernel_rfl) (by kernel_rfl) rfl (by simp) rfl rfl hJ
          refine ⟨StepS.of [] (by kernel_rfl) ?_, ?_⟩
          · intro L vs wq hL hA hC hJ
            unfold forAll
            exact StepV.val 69 (by kernel_rfl) (by kernel_rfl) rfl (by simp) rfl rfl hJ
          refine ⟨StepS.of [68, 69] (by kernel_rfl) ?_, ?_⟩
          · intro L vs wq hL hA hC hJ h68 h69
            rw [(show vs 68 = (.int .i64 ((f : Nat) : Int)) from h68), (show vs 69 = (.int .i64 ((r : Nat) : Int)) from h69)]
            unfold forAll
            exact StepV.val 70 (by kernel_rfl) (by go_simp) rfl (by simp [Act.put]) rfl rfl hJ
          refine ⟨StepS.of [67, 70] (by kernel_rfl) ?_, ?_⟩
          · intro L vs wq hL hA hC hJ h67 h70
            rw [(show vs 67 = (.slice (some ⟨g, 0, none⟩) n c) from h67), (show vs 70 = (.int .i64 ((pr : Nat) : Int)) from h70)]
            unfold forAll
            exact StepV.val 71 (by kernel_rfl) (by go_simp) rfl (by simp [Act.put]) rfl rfl hJ
          refine ⟨StepS.of [71] (by kernel_rfl) ?_, ?_⟩
          · intro L vs wq hL hA hC hJ h71
            rw [(show vs 71 = (.pointer (some ⟨g, pr, none⟩)) from h71)]
            unfold forAll
            have q1 := hC.no (j := 21) (i := 19) (by kernel_rfl) hL
            have q2 := hC.no (j := 23) (i := 19) (by kernel_rfl) hL
            have K := Own.cast (qs := dat g n c d :: ps) hJ (by simp [q1, q2])
            have t0 := K.rowAt 0 rfl (u := .int .u16 (vi : Nat)) (j := pr) SI.out
            have tl := (K.rowLt 0 rfl).1
            exact StepV.val 72 (by kernel_rfl) (by go_simp) rfl (by simp [Act.put]) rfl rfl hJ
          refine ⟨StepS.of [53, 56] (by kernel_rfl) ?_, ?_⟩
          · intro L vs wq hL hA hC hJ h53 h56
            rw [(show vs 53 = (.slice (some ⟨g, 0, none⟩) n c) from h53), (show vs 56 = (.int .i64 ((pr : Nat) : Int)) from h56)]
            unfold forAll
            exact StepV.val 73 (by kernel_rfl) (by go_simp) rfl (by simp [Act.put]) rfl rfl hJ
          refine ⟨StepS.of [73, 66] (by kernel_rfl) ?_, ?_⟩
          · intro L vs wq hL hA hC hJ h73 h66
            rw [(show vs 73 = (.pointer (some ⟨g, pr, none⟩)) from h73), (show vs 66 = (.int .u16 (vj : Nat)) from h66)]
            unfold forAll
            cases q : L 23
            · have K := Own.cast (qs := dat g n c d :: ps) hJ (by simp [hL, q])
              have tl := (K.rowLt 0 rfl).1; have tf := (K.rowLt 0 rfl).2
              have t0 := K.rowAt 0 rfl (j := pr) SI.out
              exact StepV.skip (by kernel_rfl) (by go_simp) rfl rfl ((K.setD (pr) vj).cast (by simp [upd, q, SQ3.out]))
            · have K := Own.cast (qs := dat g n c d2 :: ps) hJ (by simp [hL, q])
              have tl := (K.rowLt 0 rfl).1; have tf := (K.rowLt 0 rfl).2
              obtain ⟨u9, t0⟩ := K.someD (i := pr) (by rw [← SQ4.out, Array.size_setIfInBounds]; exact SBI.out)
              exact StepV.skip (by kernel_rfl) (by go_simp) rfl rfl ((K.setD (pr) vj).cast (by simp [upd, q, SQ6.out]))
          refine ⟨StepS.of [57, 60] (by kernel_rfl) ?_, ?_⟩
          · intro L vs wq hL hA hC hJ h57 h60
            rw [(show vs 57 = (.slice (some ⟨g, 0, none⟩) n c) from h57), (show vs 60 = (.int .i64 ((pc : Nat) : Int)) from h60)]
            unfold forAll
            exact StepV.val 74 (by kernel_rfl) (by go_simp) rfl (by simp [Act.put]) rfl rfl hJ
          refine ⟨StepS.of [74, 72] (by kernel_rfl) ?_, ?_⟩
          · intro L vs wq hL hA hC hJ h74 h72
            rw [(show vs 74 = (.pointer (some ⟨g, pc, none⟩)) from h74), (show vs 72 = (.int .u16 (vi : Nat)) from h72)]
            unfold forAll
            cases q : L 21
            · have K := Own.cast (qs := dat g n c d :: ps) hJ (by simp [hL, q])
              have tl := (K.rowLt 0 rfl).1; have tf := (K.rowLt 0 rfl).2
              have t0 := K.rowAt 0 rfl (j := pc) SJ.out
              exact StepV.skip (by kernel_rfl) (by go_simp) rfl rfl ((K.setD (pc) vi).cast (by simp [upd, q, SQ4.out]))
            · have K := Own.cast (qs := dat g n c d1 :: ps) hJ (by simp [hL, q])
              have tl := (K.rowLt 0 rfl).1; have tf := (K.rowLt 0 rfl).2
              obtain ⟨u9, t0⟩ := K.someD (i := pc) (by rw [← SQ3.out, Array.size_setIfInBounds]; exact SBJ.out)
              exact StepV.skip (by kernel_rfl) (by go_simp) rfl rfl ((K.setD (pc) vi).cast (by simp [upd, q, SQ5.out]))
          exact trivial
        · intro vs wS7 hJ h53 h54 h55 h56 h57 h58 h59 h60 h61 h62 h63 h64 h65 h66 h67 h68 h69 h70 h71 h72 h73 h74
          rw [(show vs 53 = (.slice (some ⟨g, 0, none⟩) n c) from h53), (show vs 54 = (.int .i64 ((f : Nat) : Int)) from h54), (show vs 55 = (.int .i64 ((r : Nat) : Int)) from h55), (show vs 56 = (.int .i64 ((pr : Nat) : Int)) from h56), (show vs 57 = (.slice (some ⟨g, 0, none⟩) n c) from h57), (show vs 58 = (.int .i64 ((f : Nat) : Int)) from h58), (show vs 59 = (.int .i64 ((c0 : Nat) : Int)) from h59), (show vs 60 = (.int .i64 ((pc : Nat) : Int)) from h60), (show vs 61 = (.slice (some ⟨g, 0, none⟩) n c) from h61), (show vs 62 = (.int .i64 ((f : Nat) : Int)) from h62), (show vs 63 = (.int .i64 ((c0 : Nat) : Int)) from h63), (show vs 64 = (.int .i64 ((pc : Nat) : Int)) from h64), (show vs 65 = (.pointer (some ⟨g, pc, none⟩)) from h65), (show vs 66 = (.int .u16 (vj : Nat)) from h66), (show vs 67 = (.slice (some ⟨g, 0, none⟩) n c) from h67), (show vs 68 = (.int .i64 ((f : Nat) : Int)) from h68), (show vs 69 = (.int .i64 ((r : Nat) : Int)) from h69), (show vs 70 = (.int .i64 ((pr : Nat) : Int)) from h70), (show vs 71 = (.pointer (some ⟨g, pr, none⟩)) from h71), (show vs 72 = (.int .u16 (vi : Nat)) from h72), (show vs 73 = (.pointer (some ⟨g, pr, none⟩)) from h73), (show vs 74 = (.pointer (some ⟨g, pc, none⟩)) from h74)]
          clear h53 h54 h55 h56 h57 h58 h59 h60 h61 h62 h63 h64 h65 h66 h67 h68 h69 h70 h71 h72 h73 h74
          have S7 := Lib.hid (Own.cast (qs := dat g n c dn :: ps) hJ rfl)
          clear hJ
          unfold forAll
          simp only [Act.put, List.setIfInBounds_toArray, List.set_cons_zero, List.set_cons_succ]
          go_wp2_with fail
          go_roundg (hi - c0)
          case measure => have := HCB.out; omega
          case rel => exact ⟨c0, by have := HCB.out; omega, rfl, dn, HF.out, by rw [SZ.out]; exact I1.out, rfl, S7.out⟩
    obtain ⟨p0, hp0⟩ : ∃ p0, p0 = f + c0 := ⟨_, rfl⟩
    obtain ⟨p1, hp1⟩ : ∃ p1, p1 = f + c1 := ⟨_, rfl⟩
    have hp01 := hc01.out
    have y1 : (f : Int) + (c0 : Int) = (p0 : Int) := by omega
    have y2 : IntKind.i64.wrap (p0 : Int) = (p0 : Int) := IntWalk.i64_in _ (by omega)
    have y3 : (p0 : Int) + 1 = (p1 : Int) := by omega
    have y4 : IntKind.i64.wrap (p1 : Int) = (p1 : Int) := IntWalk.i64_in _ (by omega)
    have y5 : (p0 : Int) < (n : Int) := by omega
    have y6 : (p1 : Int) < (n : Int) := by omega
    have h2' : (c1 : Int) < (hi : Int) := by omega
    have GA := Lib.hid (fun x : OwnOf w0 (dat g n c d :: ps) => x.own.rowAt (g := g) 0 rfl (at_arr (d := d) (i := p0) (by omega) rfl))
    have GB := Lib.hid (fun x : OwnOf w0 (dat g n c d :: ps) => x.own.rowAt (g := g) 0 rfl (at_arr (d := d) (i := p1) (by omega) rfl))
    have ga := GA.out
    have gb := GB.out
    have KC := Lib.hid (fun W1 => less_any d[p0]! d[p1]! W1)
    have HP0 := Lib.hid hp0
    have HP1 := Lib.hid hp1
    clear GA GB hp0 hp1 hp01
    cases hl : ltN d[p0]! d[p1]!
    · have HE := Lib.hid (I0.out.trans (HSL.out (.inr (by rw [← HP0.out, ← HP1.out]; exact hl))))
      rw [hl] at KC
      clear HSL HSR I0 hl HP0 HP1
      generalize d[p0]! = x8 at *
      generalize d[p1]! = x9 at *
      go_upto_region 3 with (fail)
      refine wp_region_own I2.out (by kernel_rfl) (by kernel_rfl) ?_
      iterate 18 (go_big_quiet_step (fail))
      go_big_quiet_step ((go_at_call 111; exact own_same (KC.out _)))
      iterate 1 (go_big_quiet_step (fail))
      refine wpQuiet_nil ?_
      rintro wS4 ⟨z, hz⟩
      have S4 := Lib.hid (show Own w0 wS4 (dat g n c d :: ps) by rw [hz]; exact z.own)
      clear hz z I2 ga gb KC y1 y2 y3 y4 y5 y6
      obtain ⟨pc, hpc⟩ : ∃ pc, pc = f + c0 := ⟨_, rfl⟩
      rw [← hpc] at HE
      have zc : (f : Int) + (c0 : Int) = (pc : Int) := by omega
      have zcw : IntKind.i64.wrap (pc : Int) = (pc : Int) := IntWalk.i64_in _ (by omega)
      have hpcn : (pc : Int) < (n : Int) := by omega
      have FA := Lib.hid (fun x : OwnOf w0 (dat g n c d :: ps) => x.own.rowAt (g := g) 0 rfl (at_arr (d := d) (i := pr) (by omega) rfl))
      have FB := Lib.hid (fun x : OwnOf w0 (dat g n c d :: ps) => x.own.rowAt (g := g) 0 rfl (at_arr (d := d) (i := pc) (by omega) rfl))
      obtain ⟨vi, vj, d1, d2, dn, sq1, sq2, sq3, sq4, sq5, sq6, sq7⟩ := swp_vars d (pr) (pc)
      have SI := Lib.hid (at_arr (d := d) (i := pr) (by omega) sq1)
      have SJ := Lib.hid (at_arr (d := d) (i := pc) (by omega) sq2)
      have SBI := Lib.hid (show pr < d.size by omega)
      have SBJ := Lib.hid (show pc < d.size by omega)
      have SQ3 := Lib.hid sq3
      have SQ4 := Lib.hid sq4
      have SQ5 := Lib.hid sq5
      have SQ6 := Lib.hid sq6
      have SQ7 := Lib.hid sq7
      have SZ := Lib.hid (show dn.size = d.size by rw [← sq7]; exact swp_size _ _ _)
      clear sq1 sq2 sq3 sq4 sq5 sq6 sq7
      generalize d[pr]! = x1 at *
      generalize d[pc]! = x2 at *
      have fa := FA.out
      have fb := FB.out
      have KL := Lib.hid (fun W1 => less_any x1 x2 W1)
      have HCB := Lib.hid (show c0 < hi by omega)
      clear FA FB hpc hsz
      go_upto_region 5 with (fail)
      cases hl : ltN x1 x2
      · as_aux_lemma =>
        rw [hl] at KL HE
        have HF := Lib.hid (show R = d by rw [HE.out]; rfl)
        clear hl HE SI SJ SQ3 SQ4 SQ5 SQ6 SQ7 SZ SBI SBJ
        refine wp_region_own S4.out (by kernel_rfl) (by kernel_rfl) ?_
        iterate 12 (go_big_quiet_step (fail))
        go_big_quiet_step ((go_at_call 111; exact own_same (KL.out _)))
        iterate 1 (go_big_quiet_step (fail))
        refine wpQuiet_nil ?_
        rintro wS6 ⟨z, hz⟩
        have S6 := Lib.hid (show Own w0 wS6 (dat g n c d :: ps) by rw [hz]; exact z.own)
        clear hz z S4 fa fb hne KL
        go_wp2_with fail
        refine bodyPost_ret (results_none rfl _ _ _) rfl ?_
        exact ⟨rfl, by rw [HF.out]; exact S6.out⟩
      · as_aux_lemma =>
        rw [hl] at KL HE
        have HF := Lib.hid (show R = Sort.siftDown ltN hi f c0 dn by rw [HE.out, SQ7.out]; rfl)
        clear hl HE
        refine wp_region_own S4.out (by kernel_rfl) (by kernel_rfl) ?_
        iterate 12 (go_big_quiet_step (fail))
        go_big_quiet_step ((go_at_call 111; exact own_same (KL.out _)))
        iterate 1 (go_big_quiet_step (fail))
        refine wpQuiet_nil ?_
        rintro wS6 ⟨z, hz⟩
        have S6 := Lib.hid (show Own w0 wS6 (dat g n c d :: ps) by rw [hz]; exact z.own)
        clear hz z S4 fa fb hne KL
        go_upto_region 6 with (fail)
        refine wp_region_state 76 [(53, (.slice (some ⟨g, 0, none⟩) n c)), (54, (.int .i64 ((f : Nat) : Int))), (55, (.int .i64 ((r : Nat) : Int))), (56, (.int .i64 ((pr : Nat) : Int))), (57, (.slice (some ⟨g, 0, none⟩) n c)), (58, (.int .i64 ((f : Nat) : Int))), (59, (.int .i64 ((c0 : Nat) : Int))), (60, (.int .i64 ((pc : Nat) : Int))), (61, (.slice (some ⟨g, 0, none⟩) n c)), (62, (.int .i64 ((f : Nat) : Int))), (63, (.int .i64 ((c0 : Nat) : Int))), (64, (.int .i64 ((pc : Nat) : Int))), (65, (.pointer (some ⟨g, pc, none⟩))), (66, (.int .u16 (vj : Nat))), (67, (.slice (some ⟨g, 0, none⟩) n c)), (68, (.int .i64 ((f : Nat) : Int))), (69, (.int .i64 ((r : Nat) : Int))), (70, (.int .i64 ((pr : Nat) : Int))), (71, (.pointer (some ⟨g, pr, none⟩))), (72, (.int .u16 (vi : Nat))), (73, (.pointer (some ⟨g, pr, none⟩))), (74, (.pointer (some ⟨g, pc, none⟩)))] (fun L vs w' => Own w0 w' (dat g n c (cond (L 21) (cond (L 23) dn d1) (cond (L 23) d2 d)) :: ps)) (by kernel_rfl) (by kernel_rfl) [53, 54, 55, 56, 57, 58, 59, 60, 61, 62, 63, 64, 65, 66, 67, 68, 69, 70, 71, 72, 73, 74] (by kernel_rfl) rfl (by kernel_rfl) 24 rfl ?_ ?_ ?_
        · exact fun L hL => (S6.out.ext (Below.refl _ _).drew).cast (by simp [hL 21 (by decide), hL 23 (by decide)])
        · refine ⟨StepS.of [] (by kernel_rfl) ?_, ?_⟩
          · intro L vs wq hL hA hC hJ
            unfold forAll
            exact StepV.val 53 (by kernel_rfl) (by kernel_rfl) rfl (by simp) rfl rfl hJ
          refine ⟨StepS.of [] (by kernel_rfl) ?_, ?_⟩
          · intro L vs wq hL hA hC hJ
            unfold forAll
            exact StepV.val 54 (by kernel_rfl) (by kernel_rfl) rfl (by simp) rfl rfl hJ
          refine ⟨StepS.of [] (by kernel_rfl) ?_, ?_⟩
          · intro L vs wq hL hA hC hJ
            unfold forAll
            exact StepV.val 55 (by kernel_rfl) (by kernel_rfl) rfl (by simp) rfl rfl hJ
          refine ⟨StepS.of [54, 55] (by kernel_rfl) ?_, ?_⟩
          · intro L vs wq hL hA hC hJ h54 h55
            rw [(show vs 54 = (.int .i64 ((f : Nat) : Int)) from h54), (show vs 55 = (.int .i64 ((r : Nat) : Int)) from h55)]
            unfold forAll
            exact StepV.val 56 (by kernel_rfl) (by go_simp) rfl (by simp [Act.put]) rfl rfl hJ
          refine ⟨StepS.of [] (by kernel_rfl) ?_, ?_⟩
          · intro L vs wq hL hA hC hJ
            unfold forAll
            exact StepV.val 57 (by kernel_rfl) (by kernel_rfl) rfl (by simp) rfl rfl hJ
          refine ⟨StepS.of [] (by kernel_rfl) ?_, ?_⟩
          · intro L vs wq hL hA hC hJ
            unfold forAll
            exact StepV.val 58 (by kernel_rfl) (by kernel_rfl) rfl (by simp) rfl rfl hJ
          refine ⟨StepS.of [] (by kernel_rfl) ?_, ?_⟩
          · intro L vs wq hL hA hC hJ
            unfold forAll
            exact StepV.val 59 (by kernel_rfl) (by kernel_rfl) rfl (by simp) rfl rfl hJ
          refine ⟨StepS.of [58, 59] (by kernel_rfl) ?_, ?_⟩
          · intro L vs wq hL hA hC hJ h58 h59
            rw [(show vs 58 = (.int .i64 ((f : Nat) : Int)) from h58), (show vs 59 = (.int .i64 ((c0 : Nat) : Int)) from h59)]
            unfold forAll
            exact StepV.val 60 (by kernel_rfl) (by go_simp) rfl (by simp [Act.put]) rfl rfl hJ
          refine ⟨StepS.of [] (by kernel_rfl) ?_, ?_⟩
          · intro L vs wq hL hA hC hJ
            unfold forAll
            exact StepV.val 61 (by kernel_rfl) (by kernel_rfl) rfl (by simp) rfl rfl hJ
          refine ⟨StepS.of [] (by kernel_rfl) ?_, ?_⟩
          · intro L vs wq hL hA hC hJ
            unfold forAll
            exact StepV.val 62 (by kernel_rfl) (by kernel_rfl) rfl (by simp) rfl rfl hJ
          refine ⟨StepS.of [] (by kernel_rfl) ?_, ?_⟩
          · intro L vs wq hL hA hC hJ
            unfold forAll
            exact StepV.val 63 (by kernel_rfl) (by kernel_rfl) rfl (by simp) rfl rfl hJ
          refine ⟨StepS.of [62, 63] (by kernel_rfl) ?_, ?_⟩
          · intro L vs wq hL hA hC hJ h62 h63
            rw [(show vs 62 = (.int .i64 ((f : Nat) : Int)) from h62), (show vs 63 = (.int .i64 ((c0 : Nat) : Int)) from h63)]
            unfold forAll
            exact StepV.val 64 (by kernel_rfl) (by go_simp) rfl (by simp [Act.put]) rfl rfl hJ
          refine ⟨StepS.of [61, 64] (by kernel_rfl) ?_, ?_⟩
          · intro L vs wq hL hA hC hJ h61 h64
            rw [(show vs 61 = (.slice (some ⟨g, 0, none⟩) n c) from h61), (show vs 64 = (.int .i64 ((pc : Nat) : Int)) from h64)]
            unfold forAll
            exact StepV.val 65 (by kernel_rfl) (by go_simp) rfl (by simp [Act.put]) rfl rfl hJ
          refine ⟨StepS.of [65] (by kernel_rfl) ?_, ?_⟩
          · intro L vs wq hL hA hC hJ h65
            rw [(show vs 65 = (.pointer (some ⟨g, pc, none⟩)) from h65)]
            unfold forAll
            have q1 := hC.no (j := 21) (i := 13) (by kernel_rfl) hL
            have q2 := hC.no (j := 23) (i := 13) (by kernel_rfl) hL
            have K := Own.cast (qs := dat g n c d :: ps) hJ (by simp [q1, q2])
            have t0 := K.rowAt 0 rfl (u := .int .u16 (vj : Nat)) (j := pc) SJ.out
            have tl := (K.rowLt 0 rfl).1
            exact StepV.val 66 (by kernel_rfl) (by go_simp) rfl (by simp [Act.put]) rfl rfl hJ
          refine ⟨StepS.of [] (by kernel_rfl) ?_, ?_⟩
          · intro L vs wq hL hA hC hJ
            unfold forAll
            exact StepV.val 67 (by kernel_rfl) (by kernel_rfl) rfl (by simp) rfl rfl hJ
          refine ⟨StepS.of [] (by kernel_rfl) ?_, ?_⟩
          · intro L vs wq hL hA hC hJ
            unfold forAll
            exact StepV.val 68 (by kernel_rfl) (by kernel_rfl) rfl (by simp) rfl rfl hJ
          refine ⟨StepS.of [] (by kernel_rfl) ?_, ?_⟩
          · intro L vs wq hL hA hC hJ
            unfold forAll
            exact StepV.val 69 (by kernel_rfl) (by kernel_rfl) rfl (by simp) rfl rfl hJ
          refine ⟨StepS.of [68, 69] (by kernel_rfl) ?_, ?_⟩
          · intro L vs wq hL hA hC hJ h68 h69
            rw [(show vs 68 = (.int .i64 ((f : Nat) : Int)) from h68), (show vs 69 = (.int .i64 ((r : Nat) : Int)) from h69)]
            unfold forAll
            exact StepV.val 70 (by kernel_rfl) (by go_simp) rfl (by simp [Act.put]) rfl rfl hJ
          refine ⟨StepS.of [67, 70] (by kernel_rfl) ?_, ?_⟩
          · intro L vs wq hL hA hC hJ h67 h70
            rw [(show vs 67 = (.slice (some ⟨g, 0, none⟩) n c) from h67), (show vs 70 = (.int .i64 ((pr : Nat) : Int)) from h70)]
            unfold forAll
            exact StepV.val 71 (by kernel_rfl) (by go_simp) rfl (by simp [Act.put]) rfl rfl hJ
          refine ⟨StepS.of [71] (by kernel_rfl) ?_, ?_⟩
          · intro L vs wq hL hA hC hJ h71
            rw [(show vs 71 = (.pointer (some ⟨g, pr, none⟩)) from h71)]
            unfold forAll
            have q1 := hC.no (j := 21) (i := 19) (by kernel_rfl) hL
            have q2 := hC.no (j := 23) (i := 19) (by kernel_rfl) hL
            have K := Own.cast (qs := dat g n c d :: ps) hJ (by simp [q1, q2])
            have t0 := K.rowAt 0 rfl (u := .int .u16 (vi : Nat)) (j := pr) SI.out
            have tl := (K.rowLt 0 rfl).1
            exact StepV.val 72 (by kernel_rfl) (by go_simp) rfl (by simp [Act.put]) rfl rfl hJ
          refine ⟨StepS.of [53, 56] (by kernel_rfl) ?_, ?_⟩
          · intro L vs wq hL hA hC hJ h53 h56
            rw [(show vs 53 = (.slice (some ⟨g, 0, none⟩) n c) from h53), (show vs 56 = (.int .i64 ((pr : Nat) : Int)) from h56)]
            unfold forAll
            exact StepV.val 73 (by kernel_rfl) (by go_simp) rfl (by simp [Act.put]) rfl rfl hJ
          refine ⟨StepS.of [73, 66] (by kernel_rfl) ?_, ?_⟩
          · intro L vs wq hL hA hC hJ h73 h66
            rw [(show vs 73 = (.pointer (some ⟨g, pr, none⟩)) from h73), (show vs 66 = (.int .u16 (vj : Nat)) from h66)]
            unfold forAll
            cases q : L 23
            · have K := Own.cast (qs := dat g n c d :: ps) hJ (by simp [hL, q])
              have tl := (K.rowLt 0 rfl).1; have tf := (K.rowLt 0 rfl).2
              have t0 := K.rowAt 0 rfl (j := pr) SI.out
              exact StepV.skip (by kernel_rfl) (by go_simp) rfl rfl ((K.setD (pr) vj).cast (by simp [upd, q, SQ3.out]))
            · have K := Own.cast (qs := dat g n c d2 :: ps) hJ (by simp [hL, q])
              have tl := (K.rowLt 0 rfl).1; have tf := (K.rowLt 0 rfl).2
              obtain ⟨u9, t0⟩ := K.someD (i := pr) (by rw [← SQ4.out, Array.size_setIfInBounds]; exact SBI.out)
              exact StepV.skip (by kernel_rfl) (by go_simp) rfl rfl ((K.setD (pr) vj).cast (by simp [upd, q, SQ6.out]))
          refine ⟨StepS.of [57, 60] (by kernel_rfl) ?_, ?_⟩
          · intro L vs wq hL hA hC hJ h57 h60
            rw [(show vs 57 = (.slice (some ⟨g, 0, none⟩) n c) from h57), (show vs 60 = (.int .i64 ((pc : Nat) : Int)) from h60)]
            unfold forAll
            exact StepV.val 74 (by kernel_rfl) (by go_simp) rfl (by simp [Act.put]) rfl rfl hJ
          refine ⟨StepS.of [74, 72] (by kernel_rfl) ?_, ?_⟩
          · intro L vs wq hL hA hC hJ h74 h72
            rw [(show vs 74 = (.pointer (some ⟨g, pc, none⟩)) from h74), (show vs 72 = (.int .u16 (vi : Nat)) from h72)]
            unfold forAll
            cases q : L 21
            · have K := Own.cast (qs := dat g n c d :: ps) hJ (by simp [hL, q])
              have tl := (K.rowLt 0 rfl).1; have tf := (K.rowLt 0 rfl).2
              have t0 := K.rowAt 0 rfl (j := pc) SJ.out
              exact StepV.skip (by kernel_rfl) (by go_simp) rfl rfl ((K.setD (pc) vi).cast (by simp [upd, q, SQ4.out]))
            · have K := Own.cast (qs := dat g n c d1 :: ps) hJ (by simp [hL, q])
              have tl := (K.rowLt 0 rfl).1; have tf := (K.rowLt 0 rfl).2
              obtain ⟨u9, t0⟩ := K.someD (i := pc) (by rw [← SQ3.out, Array.size_setIfInBounds]; exact SBJ.out)
              exact StepV.skip (by kernel_rfl) (by go_simp) rfl rfl ((K.setD (pc) vi).cast (by simp [upd, q, SQ5.out]))
          exact trivial
        · intro vs wS7 hJ h53 h54 h55 h56 h57 h58 h59 h60 h61 h62 h63 h64 h65 h66 h67 h68 h69 h70 h71 h72 h73 h74
          rw [(show vs 53 = (.slice (some ⟨g, 0, none⟩) n c) from h53), (show vs 54 = (.int .i64 ((f : Nat) : Int)) from h54), (show vs 55 = (.int .i64 ((r : Nat) : Int)) from h55), (show vs 56 = (.int .i64 ((pr : Nat) : Int)) from h56), (show vs 57 = (.slice (some ⟨g, 0, none⟩) n c) from h57), (show vs 58 = (.int .i64 ((f : Nat) : Int)) from h58), (show vs 59 = (.int .i64 ((c0 : Nat) : Int)) from h59), (show vs 60 = (.int .i64 ((pc : Nat) : Int)) from h60), (show vs 61 = (.slice (some ⟨g, 0, none⟩) n c) from h61), (show vs 62 = (.int .i64 ((f : Nat) : Int)) from h62), (show vs 63 = (.int .i64 ((c0 : Nat) : Int)) from h63), (show vs 64 = (.int .i64 ((pc : Nat) : Int)) from h64), (show vs 65 = (.pointer (some ⟨g, pc, none⟩)) from h65), (show vs 66 = (.int .u16 (vj : Nat)) from h66), (show vs 67 = (.slice (some ⟨g, 0, none⟩) n c) from h67), (show vs 68 = (.int .i64 ((f : Nat) : Int)) from h68), (show vs 69 = (.int .i64 ((r : Nat) : Int)) from h69), (show vs 70 = (.int .i64 ((pr : Nat) : Int)) from h70), (show vs 71 = (.pointer (some ⟨g, pr, none⟩)) from h71), (show vs 72 = (.int .u16 (vi : Nat)) from h72), (show vs 73 = (.pointer (some ⟨g, pr, none⟩)) from h73), (show vs 74 = (.pointer (some ⟨g, pc, none⟩)) from h74)]
          clear h53 h54 h55 h56 h57 h58 h59 h60 h61 h62 h63 h64 h65 h66 h67 h68 h69 h70 h71 h72 h73 h74
          have S7 := Lib.hid (Own.cast (qs := dat g n c dn :: ps) hJ rfl)
          clear hJ
          unfold forAll
          simp only [Act.put, List.setIfInBounds_toArray, List.set_cons_zero, List.set_cons_succ]
          go_wp2_with fail
          go_roundg (hi - c0)
          case measure => have := HCB.out; omega
          case rel => exact ⟨c0, by have := HCB.out; omega, rfl, dn, HF.out, by rw [SZ.out]; exact I1.out, rfl, S7.out⟩
    · have HE := Lib.hid (I0.out.trans (HSR.out h2 (by rw [← HP0.out, ← HP1.out]; exact hl)))
      rw [hl] at KC
      clear HSL HSR I0 hl HP0 HP1
      generalize d[p0]! = x8 at *
      generalize d[p1]! = x9 at *
      go_upto_region 3 with (fail)
      refine wp_region_own I2.out (by kernel_rfl) (by kernel_rfl) ?_
      iterate 18 (go_big_quiet_step (fail))
      go_big_quiet_step ((go_at_call 111; exact own_same (KC.out _)))
      iterate 1 (go_big_quiet_step (fail))
      refine wpQuiet_nil ?_
      rintro wS4 ⟨z, hz⟩
      have S4 := Lib.hid (show Own w0 wS4 (dat g n c d :: ps) by rw [hz]; exact z.own)
      clear hz z I2 ga gb KC y1 y2 y3 y4 y5 y6
      have hrc2 : r < c1 := by have := hc01.out; omega
      obtain ⟨pc, hpc⟩ : ∃ pc, pc = f + c1 := ⟨_, rfl⟩
      rw [← hpc] at HE
      have zc : (f : Int) + (c1 : Int) = (pc : Int) := by omega
      have zcw : IntKind.i64.wrap (pc : Int) = (pc : Int) := IntWalk.i64_in _ (by omega)
      have hpcn : (pc : Int) < (n : Int) := by omega
      have FA := Lib.hid (fun x : OwnOf w0 (dat g n c d :: ps) => x.own.rowAt (g := g) 0 rfl (at_arr (d := d) (i := pr) (by omega) rfl))
      have FB := Lib.hid (fun x : OwnOf w0 (dat g n c d :: ps) => x.own.rowAt (g := g) 0 rfl (at_arr (d := d) (i := pc) (by omega) rfl))
      obtain ⟨vi, vj, d1, d2, dn, sq1, sq2, sq3, sq4, sq5, sq6, sq7⟩ := swp_vars d (pr) (pc)
      have SI := Lib.hid (at_arr (d := d) (i := pr) (by omega) sq1)
      have SJ := Lib.hid (at_arr (d := d) (i := pc) (by omega) sq2)
      have SBI := Lib.hid (show pr < d.size by omega)
      have SBJ := Lib.hid (show pc < d.size by omega)
      have SQ3 := Lib.hid sq3
      have SQ4 := Lib.hid sq4
      have SQ5 := Lib.hid sq5
      have SQ6 := Lib.hid sq6
      have SQ7 := Lib.hid sq7
      have SZ := Lib.hid (show dn.size = d.size by rw [← sq7]; exact swp_size _ _ _)
      clear sq1 sq2 sq3 sq4 sq5 sq6 sq7
      generalize d[pr]! = x1 at *
      generalize d[pc]! = x2 at *
      have fa := FA.out
      have fb := FB.out
      have KL := Lib.hid (fun W1 => less_any x1 x2 W1)
      have HCB := Lib.hid (show c1 < hi by omega)
      clear FA FB hpc hsz
      go_upto_region 5 with (fail)
      cases hl : ltN x1 x2
      · as_aux_lemma =>
        rw [hl] at KL HE
        have HF := Lib.hid (show R = d by rw [HE.out]; rfl)
        clear hl HE SI SJ SQ3 SQ4 SQ5 SQ6 SQ7 SZ SBI SBJ
        refine wp_region_own S4.out (by kernel_rfl) (by kernel_rfl) ?_
        iterate 12 (go_big_quiet_step (fail))
        go_big_quiet_step ((go_at_call 111; exact own_same (KL.out _)))
        iterate 1 (go_big_quiet_step (fail))
        refine wpQuiet_nil ?_
        rintro wS6 ⟨z, hz⟩
        have S6 := Lib.hid (show Own w0 wS6 (dat g n c d :: ps) by rw [hz]; exact z.own)
        clear hz z S4 fa fb hne KL
        go_wp2_with fail
        refine bodyPost_ret (results_none rfl _ _ _) rfl ?_
        exact ⟨rfl, by rw [HF.out]; exact S6.out⟩
      · as_aux_lemma =>
        rw [hl] at KL HE
        have HF := Lib.hid (show R = Sort.siftDown ltN hi f c1 dn by rw [HE.out, SQ7.out]; rfl)
        clear hl HE
        refine wp_region_own S4.out (by kernel_rfl) (by kernel_rfl) ?_
        iterate 12 (go_big_quiet_step (fail))
        go_big_quiet_step ((go_at_call 111; exact own_same (KL.out _)))
        iterate 1 (go_big_quiet_step (fail))
        refine wpQuiet_nil ?_
        rintro wS6 ⟨z, hz⟩
        have S6 := Lib.hid (show Own w0 wS6 (dat g n c d :: ps) by rw [hz]; exact z.own)
        clear hz z S4 fa fb hne KL
        go_upto_region 6 with (fail)
        refine wp_region_state 76 [(53, (.slice (some ⟨g, 0, none⟩) n c)), (54, (.int .i64 ((f : Nat) : Int))), (55, (.int .i64 ((r : Nat) : Int))), (56, (.int .i64 ((pr : Nat) : Int))), (57, (.slice (some ⟨g, 0, none⟩) n c)), (58, (.int .i64 ((f : Nat) : Int))), (59, (.int .i64 ((c1 : Nat) : Int))), (60, (.int .i64 ((pc : Nat) : Int))), (61, (.slice (some ⟨g, 0, none⟩) n c)), (62, (.int .i64 ((f : Nat) : Int))), (63, (.int .i64 ((c1 : Nat) : Int))), (64, (.int .i64 ((pc : Nat) : Int))), (65, (.pointer (some ⟨g, pc, none⟩))), (66, (.int .u16 (vj : Nat))), (67, (.slice (some ⟨g, 0, none⟩) n c)), (68, (.int .i64 ((f : Nat) : Int))), (69, (.int .i64 ((r : Nat) : Int))), (70, (.int .i64 ((pr : Nat) : Int))), (71, (.pointer (some ⟨g, pr, none⟩))), (72, (.int .u16 (vi : Nat))), (73, (.pointer (some ⟨g, pr, none⟩))), (74, (.pointer (some ⟨g, pc, none⟩)))] (fun L vs w' => Own w0 w' (dat g n c (cond (L 21) (cond (L 23) dn d1) (cond (L 23) d2 d)) :: ps)) (by kernel_rfl) (by kernel_rfl) [53, 54, 55, 56, 57, 58, 59, 60, 61, 62, 63, 64, 65, 66, 67, 68, 69, 70, 71, 72, 73, 74] (by kernel_rfl) rfl (by kernel_rfl) 24 rfl ?_ ?_ ?_
        · exact fun L hL => (S6.out.ext (Below.refl _ _).drew).cast (by simp [hL 21 (by decide), hL 23 (by decide)])
        · refine ⟨StepS.of [] (by kernel_rfl) ?_, ?_⟩
          · intro L vs wq hL hA hC hJ
            unfold forAll
            exact StepV.val 53 (by kernel_rfl) (by kernel_rfl) rfl (by simp) rfl rfl hJ
          refine ⟨StepS.of [] (by kernel_rfl) ?_, ?_⟩
          · intro L vs wq hL hA hC hJ
            unfold forAll
            exact StepV.val 54 (by kernel_rfl) (by kernel_rfl) rfl (by simp) rfl rfl hJ
          refine ⟨StepS.of [] (by kernel_rfl) ?_, ?_⟩
          · intro L vs wq hL hA hC hJ
            unfold forAll
            exact StepV.val 55 (by kernel_rfl) (by kernel_rfl) rfl (by simp) rfl rfl hJ
          refine ⟨StepS.of [54, 55] (by kernel_rfl) ?_, ?_⟩
          · intro L vs wq hL hA hC hJ h54 h55
            rw [(show vs 54 = (.int .i64 ((f : Nat) : Int)) from h54), (show vs 55 = (.int .i64 ((r : Nat) : Int)) from h55)]
            unfold forAll
            exact StepV.val 56 (by kernel_rfl) (by go_simp) rfl (by simp [Act.put]) rfl rfl hJ
          refine ⟨StepS.of [] (by kernel_rfl) ?_, ?_⟩
          · intro L vs wq hL hA hC hJ
            unfold forAll
            exact StepV.val 57 (by kernel_rfl) (by kernel_rfl) rfl (by simp) rfl rfl hJ
          refine ⟨StepS.of [] (by kernel_rfl) ?_, ?_⟩
          · intro L vs wq hL hA hC hJ
            unfold forAll
            exact StepV.val 58 (by kernel_rfl) (by kernel_rfl) rfl (by simp) rfl rfl hJ
          refine ⟨StepS.of [] (by kernel_rfl) ?_, ?_⟩
          · intro L vs wq hL hA hC hJ
            unfold forAll
            exact StepV.val 59 (by kernel_rfl) (by kernel_rfl) rfl (by simp) rfl rfl hJ
          refine ⟨StepS.of [58, 59] (by kernel_rfl) ?_, ?_⟩
          · intro L vs wq hL hA hC hJ h58 h59
            rw [(show vs 58 = (.int .i64 ((f : Nat) : Int)) from h58), (show vs 59 = (.int .i64 ((c1 : Nat) : Int)) from h59)]
            unfold forAll
            exact StepV.val 60 (by kernel_rfl) (by go_simp) rfl (by simp [Act.put]) rfl rfl hJ
          refine ⟨StepS.of [] (by kernel_rfl) ?_, ?_⟩
          · intro L vs wq hL hA hC hJ
            unfold forAll
            exact StepV.val 61 (by kernel_rfl) (by kernel_rfl) rfl (by simp) rfl rfl hJ
          refine ⟨StepS.of [] (by kernel_rfl) ?_, ?_⟩
          · intro L vs wq hL hA hC hJ
            unfold forAll
            exact StepV.val 62 (by kernel_rfl) (by kernel_rfl) rfl (by simp) rfl rfl hJ
          refine ⟨StepS.of [] (by kernel_rfl) ?_, ?_⟩
          · intro L vs wq hL hA hC hJ
            unfold forAll
            exact StepV.val 63 (by kernel_rfl) (by kernel_rfl) rfl (by simp) rfl rfl hJ
          refine ⟨StepS.of [62, 63] (by kernel_rfl) ?_, ?_⟩
          · intro L vs wq hL hA hC hJ h62 h63
            rw [(show vs 62 = (.int .i64 ((f : Nat) : Int)) from h62), (show vs 63 = (.int .i64 ((c1 : Nat) : Int)) from h63)]
            unfold forAll
            exact StepV.val 64 (by kernel_rfl) (by go_simp) rfl (by simp [Act.put]) rfl rfl hJ
          refine ⟨StepS.of [61, 64] (by kernel_rfl) ?_, ?_⟩
          · intro L vs wq hL hA hC hJ h61 h64
            rw [(show vs 61 = (.slice (some ⟨g, 0, none⟩) n c) from h61), (show vs 64 = (.int .i64 ((pc : Nat) : Int)) from h64)]
            unfold forAll
            exact StepV.val 65 (by kernel_rfl) (by go_simp) rfl (by simp [Act.put]) rfl rfl hJ
          refine ⟨StepS.of [65] (by kernel_rfl) ?_, ?_⟩
          · intro L vs wq hL hA hC hJ h65
            rw [(show vs 65 = (.pointer (some ⟨g, pc, none⟩)) from h65)]
            unfold forAll
            have q1 := hC.no (j := 21) (i := 13) (by kernel_rfl) hL
            have q2 := hC.no (j := 23) (i := 13) (by kernel_rfl) hL
            have K := Own.cast (qs := dat g n c d :: ps) hJ (by simp [q1, q2])
            have t0 := K.rowAt 0 rfl (u := .int .u16 (vj : Nat)) (j := pc) SJ.out
            have tl := (K.rowLt 0 rfl).1
            exact StepV.val 66 (by kernel_rfl) (by go_simp) rfl (by simp [Act.put]) rfl rfl hJ
          refine ⟨StepS.of [] (by kernel_rfl) ?_, ?_⟩
          · intro L vs wq hL hA hC hJ
            unfold forAll
            exact StepV.val 67 (by kernel_rfl) (by kernel_rfl) rfl (by simp) rfl rfl hJ
          refine ⟨StepS.of [] (by kernel_rfl) ?_, ?_⟩
          · intro L vs wq hL hA hC hJ
            unfold forAll
            exact StepV.val 68 (by kernel_rfl) (by kernel_rfl) rfl (by simp) rfl rfl hJ
          refine ⟨StepS.of [] (by kernel_rfl) ?_, ?_⟩
          · intro L vs wq hL hA hC hJ
            unfold forAll
            exact StepV.val 69 (by kernel_rfl) (by kernel_rfl) rfl (by simp) rfl rfl hJ
          refine ⟨StepS.of [68, 69] (by kernel_rfl) ?_, ?_⟩
          · intro L vs wq hL hA hC hJ h68 h69
            rw [(show vs 68 = (.int .i64 ((f : Nat) : Int)) from h68), (show vs 69 = (.int .i64 ((r : Nat) : Int)) from h69)]
            unfold forAll
            exact StepV.val 70 (by kernel_rfl) (by go_simp) rfl (by simp [Act.put]) rfl rfl hJ
          refine ⟨StepS.of [67, 70] (by kernel_rfl) ?_, ?_⟩
          · intro L vs wq hL hA hC hJ h67 h70
            rw [(show vs 67 = (.slice (some ⟨g, 0, none⟩) n c) from h67), (show vs 70 = (.int .i64 ((pr : Nat) : Int)) from h70)]
            unfold forAll
            exact StepV.val 71 (by kernel_rfl) (by go_simp) rfl (by simp [Act.put]) rfl rfl hJ
          refine ⟨StepS.of [71] (by kernel_rfl) ?_, ?_⟩
          · intro L vs wq hL hA hC hJ h71
            rw [(show vs 71 = (.pointer (some ⟨g, pr, none⟩)) from h71)]
            unfold forAll
            have q1 := hC.no (j := 21) (i := 19) (by kernel_rfl) hL
            have q2 := hC.no (j := 23) (i := 19) (by kernel_rfl) hL
            have K := Own.cast (qs := dat g n c d :: ps) hJ (by simp [q1, q2])
            have t0 := K.rowAt 0 rfl (u := .int .u16 (vi : Nat)) (j := pr) SI.out
            have tl := (K.rowLt 0 rfl).1
            exact StepV.val 72 (by kernel_rfl) (by go_simp) rfl (by simp [Act.put]) rfl rfl hJ
          refine ⟨StepS.of [53, 56] (by kernel_rfl) ?_, ?_⟩
          · intro L vs wq hL hA hC hJ h53 h56
            rw [(show vs 53 = (.slice (some ⟨g, 0, none⟩) n c) from h53), (show vs 56 = (.int .i64 ((pr : Nat) : Int)) from h56)]
            unfold forAll
            exact StepV.val 73 (by kernel_rfl) (by go_simp) rfl (by simp [Act.put]) rfl rfl hJ
          refine ⟨StepS.of [73, 66] (by kernel_rfl) ?_, ?_⟩
          · intro L vs wq hL hA hC hJ h73 h66
            rw [(show vs 73 = (.pointer (some ⟨g, pr, none⟩)) from h73), (show vs 66 = (.int .u16 (vj : Nat)) from h66)]
            unfold forAll
            cases q : L 23
            · have K := Own.cast (qs := dat g n c d :: ps) hJ (by simp [hL, q])
              have tl := (K.rowLt 0 rfl).1; have tf := (K.rowLt 0 rfl).2
              have t0 := K.rowAt 0 rfl (j := pr) SI.out
              exact StepV.skip (by kernel_rfl) (by go_simp) rfl rfl ((K.setD (pr) vj).cast (by simp [upd, q, SQ3.out]))
            · have K := Own.cast (qs := dat g n c d2 :: ps) hJ (by simp [hL, q])
              have tl := (K.rowLt 0 rfl).1; have tf := (K.rowLt 0 rfl).2
              obtain ⟨u9, t0⟩ := K.someD (i := pr) (by rw [← SQ4.out, Array.size_setIfInBounds]; exact SBI.out)
              exact StepV.skip (by kernel_rfl) (by go_simp) rfl rfl ((K.setD (pr) vj).cast (by simp [upd, q, SQ6.out]))
          refine ⟨StepS.of [57, 60] (by kernel_rfl) ?_, ?_⟩
          · intro L vs wq hL hA hC hJ h57 h60
            rw [(show vs 57 = (.slice (some ⟨g, 0, none⟩) n c) from h57), (show vs 60 = (.int .i64 ((pc : Nat) : Int)) from h60)]
            unfold forAll
            exact StepV.val 74 (by kernel_rfl) (by go_simp) rfl (by simp [Act.put]) rfl rfl hJ
          refine ⟨StepS.of [74, 72] (by kernel_rfl) ?_, ?_⟩
          · intro L vs wq hL hA hC hJ h74 h72
            rw [(show vs 74 = (.pointer (some ⟨g, pc, none⟩)) from h74), (show vs 72 = (.int .u16 (vi : Nat)) from h72)]
            unfold forAll
            cases q : L 21
            · have K := Own.cast (qs := dat g n c d :: ps) hJ (by simp [hL, q])
              have tl := (K.rowLt 0 rfl).1; have tf := (K.rowLt 0 rfl).2
              have t0 := K.rowAt 0 rfl (j := pc) SJ.out
              exact StepV.skip (by kernel_rfl) (by go_simp) rfl rfl ((K.setD (pc) vi).cast (by simp [upd, q, SQ4.out]))
            · have K := Own.cast (qs := dat g n c d1 :: ps) hJ (by simp [hL, q])
              have tl := (K.rowLt 0 rfl).1; have tf := (K.rowLt 0 rfl).2
              obtain ⟨u9, t0⟩ := K.someD (i := pc) (by rw [← SQ3.out, Array.size_setIfInBounds]; exact SBJ.out)
              exact StepV.skip (by kernel_rfl) (by go_simp) rfl rfl ((K.setD (pc) vi).cast (by simp [upd, q, SQ5.out]))
          exact trivial
        · intro vs wS7 hJ h53 h54 h55 h56 h57 h58 h59 h60 h61 h62 h63 h64 h65 h66 h67 h68 h69 h70 h71 h72 h73 h74
          rw [(show vs 53 = (.slice (some ⟨g, 0, none⟩) n c) from h53), (show vs 54 = (.int .i64 ((f : Nat) : Int)) from h54), (show vs 55 = (.int .i64 ((r : Nat) : Int)) from h55), (show vs 56 = (.int .i64 ((pr : Nat) : Int)) from h56), (show vs 57 = (.slice (some ⟨g, 0, none⟩) n c) from h57), (show vs 58 = (.int .i64 ((f : Nat) : Int)) from h58), (show vs 59 = (.int .i64 ((c1 : Nat) : Int)) from h59), (show vs 60 = (.int .i64 ((pc : Nat) : Int)) from h60), (show vs 61 = (.slice (some ⟨g, 0, none⟩) n c) from h61), (show vs 62 = (.int .i64 ((f : Nat) : Int)) from h62), (show vs 63 = (.int .i64 ((c1 : Nat) : Int)) from h63), (show vs 64 = (.int .i64 ((pc : Nat) : Int)) from h64), (show vs 65 = (.pointer (some ⟨g, pc, none⟩)) from h65), (show vs 66 = (.int .u16 (vj : Nat)) from h66), (show vs 67 = (.slice (some ⟨g, 0, none⟩) n c) from h67), (show vs 68 = (.int .i64 ((f : Nat) : Int)) from h68), (show vs 69 = (.int .i64 ((r : Nat) : Int)) from h69), (show vs 70 = (.int .i64 ((pr : Nat) : Int)) from h70), (show vs 71 = (.pointer (some ⟨g, pr, none⟩)) from h71), (show vs 72 = (.int .u16 (vi : Nat)) from h72), (show vs 73 = (.pointer (some ⟨g, pr, none⟩)) from h73), (show vs 74 = (.pointer (some ⟨g, pc, none⟩)) from h74)]
          clear h53 h54 h55 h56 h57 h58 h59 h60 h61 h62 h63 h64 h65 h66 h67 h68 h69 h70 h71 h72 h73 h74
          have S7 := Lib.hid (Own.cast (qs := dat g n c dn :: ps) hJ rfl)
          clear hJ
          unfold forAll
          simp only [Act.put, List.setIfInBounds_toArray, List.set_cons_zero, List.set_cons_succ]
          go_wp2_with fail
          go_roundg (hi - c1)
          case measure => have := HCB.out; omega
          case rel => exact ⟨c1, by have := HCB.out; omega, rfl, dn, HF.out, by rw [SZ.out]; exact I1.out, rfl, S7.out⟩
theorem rev_go {i j : Nat} {d : Array Nat} (h : i < j) : Sort.reverseLoop i j d = Sort.reverseLoop (i + 1) (j - 1) (Sort.swp d i j) := by
  rw [Sort.reverseLoop, if_pos h]
theorem rev_end {i j : Nat} {d : Array Nat} (h : ¬ i < j) : Sort.reverseLoop i j d = d := by
  rw [Sort.reverseLoop, if_neg h]
set_option maxRecDepth 100000 in
set_option maxHeartbeats 8000000 in
theorem reverse_any (w0 : World) (ps : List Piece) (g n c : Nat) (d : Array Nat) (W : World) (hO : Own w0 W (dat g n c d :: ps)) (a b : Nat) (hd : d.size = n) (hab : a < b) (hbn : b ≤ n) (hn : n ≤ 1000000) :
    Calls Tryd.prog 109 #[.slice (some ⟨g, 0, none⟩) n c, .int .i64 (a : Nat), .int .i64 (b : Nat)] W fun e w' => e = .returned (.tuple #[]) ∧ Own w0 w' (dat g n c (Sort.reverseRange d a b) :: ps) := by
  have S0 := Lib.hid hO
  have HD := Lib.hid hd
  obtain ⟨R, hR⟩ : ∃ R, R = Sort.reverseRange d a b := ⟨_, rfl⟩
  rw [← hR]
  have H0 := Lib.hid (show R = Sort.reverseLoop a (b - 1) d from hR)
  clear hO hd hR
  have z0 : IntKind.i64.wrap ((b : Int) - 1) = ((b - 1 : Nat) : Int) := by rw [show (b : Int) - 1 = ((b - 1 : Nat) : Int) by omega]; exact IntWalk.i64_in _ (by omega)
  obtain ⟨b1, hb1⟩ : ∃ b1, b1 = b - 1 := ⟨_, rfl⟩
  rw [← hb1] at z0 H0
  have hb1n : b1 < n := by omega
  clear hb1
  go_enter Tryd.func109, Tryd.ntmps109
  go_wp2_with fail
  go_loopg [6, 7] n (fun q u6 u7 wr => ∃ i j : Nat, (i ≤ n ∧ j < n) ∧ u6 = .int .i64 ((i : Nat) : Int) ∧ u7 = .int .i64 ((j : Nat) : Int) ∧ Hid (∃ d, R = Sort.reverseLoop i j d ∧ d.size = n ∧ j ≤ q + i ∧ Own w0 wr (dat g n c d :: ps)))
  case atStart => exact ⟨a, b1, by omega, rfl, rfl, d, H0.out, HD.out, by omega, S0.out⟩
  case round =>
    obtain ⟨i, j, ⟨hin, hjn⟩, rfl, rfl, hI⟩ := hrel
    obtain ⟨d, q1, q2, q3, q4⟩ := hI.out
    have I0 := Lib.hid q1
    have I1 := Lib.hid q2
    have IQ := Lib.hid q3
    have I2 := Lib.hid q4
    have hsz : d.size = n := q2
    clear hI q1 q2 q3 q4 S0 H0 HD
    by_cases hlt : i < j
    case neg => as_aux_lemma =>
      have hni : ¬ (i : Int) < (j : Int) := by omega
      have HE := Lib.hid (show R = d by rw [I0.out, rev_end hlt])
      clear hsz
      go_wp2_with fail
      go_end0
      exact ⟨rfl, by rw [HE.out]; exact I2.out⟩
    as_aux_lemma =>
    have hii : (i : Int) < (j : Int) := by omega
    have hi2 : (i : Int) < (n : Int) := by omega
    have hj2 : (j : Int) < (n : Int) := by omega
    have zi : IntKind.i64.wrap ((i : Int) + 1) = ((i + 1 : Nat) : Int) := by rw [show (i : Int) + 1 = ((i + 1 : Nat) : Int) by omega]; exact IntWalk.i64_in _ (by omega)
    have zj : IntKind.i64.wrap ((j : Int) - 1) = ((j - 1 : Nat) : Int) := by rw [show (j : Int) - 1 = ((j - 1 : Nat) : Int) by omega]; exact IntWalk.i64_in _ (by omega)
    obtain ⟨vi, vj, d1, d2, dn, sq1, sq2, sq3, sq4, sq5, sq6, sq7⟩ := swp_vars d (i) (j)
    have SI := Lib.hid (at_arr (d := d) (i := i) (by omega) sq1)
    have SJ := Lib.hid (at_arr (d := d) (i := j) (by omega) sq2)
    have SBI := Lib.hid (show i < d.size by omega)
    have SBJ := Lib.hid (show j < d.size by omega)
    have SQ3 := Lib.hid sq3
    have SQ4 := Lib.hid sq4
    have SQ5 := Lib.hid sq5
    have SQ6 := Lib.hid sq6
    have SQ7 := Lib.hid sq7
    have SZ := Lib.hid (show dn.size = d.size by rw [← sq7]; exact swp_size _ _ _)
    clear sq1 sq2 sq3 sq4 sq5 sq6 sq7
    have HE := Lib.hid (show R = Sort.reverseLoop (i + 1) (j - 1) dn by rw [I0.out, rev_go hlt, SQ7.out])
    have HLT := Lib.hid hlt
    clear hsz
    go_upto_region 3 with (fail)
    refine wp_region_state 32 [(14, (.slice (some ⟨g, 0, none⟩) n c)), (15, (.int .i64 ((i : Nat) : Int))), (16, (.slice (some ⟨g, 0, none⟩) n c)), (17, (.int .i64 ((j : Nat) : Int))), (18, (.slice (some ⟨g, 0, none⟩) n c)), (19, (.int .i64 ((j : Nat) : Int))), (20, (.pointer (some ⟨g, j, none⟩))), (21, (.int .u16 (vj : Nat))), (22, (.slice (some ⟨g, 0, none⟩) n c)), (23, (.int .i64 ((i : Nat) : Int))), (24, (.pointer (some ⟨g, i, none⟩))), (25, (.int .u16 (vi : Nat))), (26, (.pointer (some ⟨g, i, none⟩))), (27, (.pointer (some ⟨g, j, none⟩)))] (fun L vs w' => Own w0 w' (dat g n c (cond (L 13) (cond (L 15) dn d1) (cond (L 15) d2 d)) :: ps)) (by kernel_rfl) (by kernel_rfl) [14, 15, 16, 17, 18, 19, 20, 21, 22, 23, 24, 25, 26, 27] (by kernel_rfl) rfl (by kernel_rfl) 16 rfl ?_ ?_ ?_
    · exact fun L hL => (I2.out.ext (Below.refl _ _).drew).cast (by simp [hL 13 (by decide), hL 15 (by decide)])
    · refine ⟨StepS.of [] (by kernel_rfl) ?_, ?_⟩
      · intro L vs wq hL hA hC hJ
        unfold forAll
        exact StepV.val 14 (by kernel_rfl) (by kernel_rfl) rfl (by simp) rfl rfl hJ
      refine ⟨StepS.of [] (by kernel_rfl) ?_, ?_⟩
      · intro L vs wq hL hA hC hJ
        unfold forAll
        exact StepV.val 15 (by kernel_rfl) (by kernel_rfl) rfl (by simp) rfl rfl hJ
      refine ⟨StepS.of [] (by kernel_rfl) ?_, ?_⟩
      · intro L vs wq hL hA hC hJ
        unfold forAll
        exact StepV.val 16 (by kernel_rfl) (by kernel_rfl) rfl (by simp) rfl rfl hJ
      refine ⟨StepS.of [] (by kernel_rfl) ?_, ?_⟩
      · intro L vs wq hL hA hC hJ
        unfold forAll
        exact StepV.val 17 (by kernel_rfl) (by kernel_rfl) rfl (by simp) rfl rfl hJ
      refine ⟨StepS.of [] (by kernel_rfl) ?_, ?_⟩
      · intro L vs wq hL hA hC hJ
        unfold forAll
        exact StepV.val 18 (by kernel_rfl) (by kernel_rfl) rfl (by simp) rfl rfl hJ
      refine ⟨StepS.of [] (by kernel_rfl) ?_, ?_⟩
      · intro L vs wq hL hA hC hJ
        unfold forAll
        exact StepV.val 19 (by kernel_rfl) (by kernel_rfl) rfl (by simp) rfl rfl hJ
      refine ⟨StepS.of [18, 19] (by kernel_rfl) ?_, ?_⟩
      · intro L vs wq hL hA hC hJ h18 h19
        rw [(show vs 18 = (.slice (some ⟨g, 0, none⟩) n c) from h18), (show vs 19 = (.int .i64 ((j : Nat) : Int)) from h19)]
        unfold forAll
        exact StepV.val 20 (by kernel_rfl) (by go_simp) rfl (by simp [Act.put]) rfl rfl hJ
      refine ⟨StepS.of [20] (by kernel_rfl) ?_, ?_⟩
      · intro L vs wq hL hA hC hJ h20
        rw [(show vs 20 = (.pointer (some ⟨g, j, none⟩)) from h20)]
        unfold forAll
        have q1 := hC.no (j := 13) (i := 7) (by kernel_rfl) hL
        have q2 := hC.no (j := 15) (i := 7) (by kernel_rfl) hL
        have K := Own.cast (qs := dat g n c d :: ps) hJ (by simp [q1, q2])
        have t0 := K.rowAt 0 rfl (u := .int .u16 (vj : Nat)) (j := j) SJ.out
        have tl := (K.rowLt 0 rfl).1
        exact StepV.val 21 (by kernel_rfl) (by go_simp) rfl (by simp [Act.put]) rfl rfl hJ
      refine ⟨StepS.of [] (by kernel_rfl) ?_, ?_⟩
      · intro L vs wq hL hA hC hJ
        unfold forAll
        exact StepV.val 22 (by kernel_rfl) (by kernel_rfl) rfl (by simp) rfl rfl hJ
      refine ⟨StepS.of [] (by kernel_rfl) ?_, ?_⟩
      · intro L vs wq hL hA hC hJ
        unfold forAll
        exact StepV.val 23 (by kernel_rfl) (by kernel_rfl) rfl (by simp) rfl rfl hJ
      refine ⟨StepS.of [22, 23] (by kernel_rfl) ?_, ?_⟩
      · intro L vs wq hL hA hC hJ h22 h23
        rw [(show vs 22 = (.slice (some ⟨g, 0, none⟩) n c) from h22), (show vs 23 = (.int .i64 ((i : Nat) : Int)) from h23)]
        unfold forAll
        exact StepV.val 24 (by kernel_rfl) (by go_simp) rfl (by simp [Act.put]) rfl rfl hJ
      refine ⟨StepS.of [24] (by kernel_rfl) ?_, ?_⟩
      · intro L vs wq hL hA hC hJ h24
        rw [(show vs 24 = (.pointer (some ⟨g, i, none⟩)) from h24)]
        unfold forAll
        have q1 := hC.no (j := 13) (i := 11) (by kernel_rfl) hL
        have q2 := hC.no (j := 15) (i := 11) (by kernel_rfl) hL
        have K := Own.cast (qs := dat g n c d :: ps) hJ (by simp [q1, q2])
        have t0 := K.rowAt 0 rfl (u := .int .u16 (vi : Nat)) (j := i) SI.out
        have tl := (K.rowLt 0 rfl).1
        exact StepV.val 25 (by kernel_rfl) (by go_simp) rfl (by simp [Act.put]) rfl rfl hJ
      refine ⟨StepS.of [14, 15] (by kernel_rfl) ?_, ?_⟩
      · intro L vs wq hL hA hC hJ h14 h15
        rw [(show vs 14 = (.slice (some ⟨g, 0, none⟩) n c) from h14), (show vs 15 = (.int .i64 ((i : Nat) : Int)) from h15)]
        unfold forAll
        exact StepV.val 26 (by kernel_rfl) (by go_simp) rfl (by simp [Act.put]) rfl rfl hJ
      refine ⟨StepS.of [26, 21] (by kernel_rfl) ?_, ?_⟩
      · intro L vs wq hL hA hC hJ h26 h21
        rw [(show vs 26 = (.pointer (some ⟨g, i, none⟩)) from h26), (show vs 21 = (.int .u16 (vj : Nat)) from h21)]
        unfold forAll
        cases q : L 15
        · have K := Own.cast (qs := dat g n c d :: ps) hJ (by simp [hL, q])
          have tl := (K.rowLt 0 rfl).1; have tf := (K.rowLt 0 rfl).2
          have t0 := K.rowAt 0 rfl (j := i) SI.out
          exact StepV.skip (by kernel_rfl) (by go_simp) rfl rfl ((K.setD (i) vj).cast (by simp [upd, q, SQ3.out]))
        · have K := Own.cast (qs := dat g n c d2 :: ps) hJ (by simp [hL, q])
          have tl := (K.rowLt 0 rfl).1; have tf := (K.rowLt 0 rfl).2
          obtain ⟨u9, t0⟩ := K.someD (i := i) (by rw [← SQ4.out, Array.size_setIfInBounds]; exact SBI.out)
          exact StepV.skip (by kernel_rfl) (by go_simp) rfl rfl ((K.setD (i) vj).cast (by simp [upd, q, SQ6.out]))
      refine ⟨StepS.of [16, 17] (by kernel_rfl) ?_, ?_⟩
      · intro L vs wq hL hA hC hJ h16 h17
        rw [(show vs 16 = (.slice (some ⟨g, 0, none⟩) n c) from h16), (show vs 17 = (.int .i64 ((j : Nat) : Int)) from h17)]
        unfold forAll
        exact StepV.val 27 (by kernel_rfl) (by go_simp) rfl (by simp [Act.put]) rfl rfl hJ
      refine ⟨StepS.of [27, 25] (by kernel_rfl) ?_, ?_⟩
      · intro L vs wq hL hA hC hJ h27 h25
        rw [(show vs 27 = (.pointer (some ⟨g, j, none⟩)) from h27), (show vs 25 = (.int .u16 (vi : Nat)) from h25)]
        unfold forAll
        cases q : L 13
        · have K := Own.cast (qs := dat g n c d :: ps) hJ (by simp [hL, q])
          have tl := (K.rowLt 0 rfl).1; have tf := (K.rowLt 0 rfl).2
          have t0 := K.rowAt 0 rfl (j := j) SJ.out
          exact StepV.skip (by kernel_rfl) (by go_simp) rfl rfl ((K.setD (j) vi).cast (by simp [upd, q, SQ4.out]))
        · have K := Own.cast (qs := dat g n c d1 :: ps) hJ (by simp [hL, q])
          have tl := (K.rowLt 0 rfl).1; have tf := (K.rowLt 0 rfl).2
          obtain ⟨u9, t0⟩ := K.someD (i := j) (by rw [← SQ3.out, Array.size_setIfInBounds]; exact SBJ.out)
          exact StepV.skip (by kernel_rfl) (by go_simp) rfl rfl ((K.setD (j) vi).cast (by simp [upd, q, SQ5.out]))
      exact trivial
    · intro vs wS5 hJ h14 h15 h16 h17 h18 h19 h20 h21 h22 h23 h24 h25 h26 h27
      rw [(show vs 14 = (.slice (some ⟨g, 0, none⟩) n c) from h14), (show vs 15 = (.int .i64 ((i : Nat) : Int)) from h15), (show vs 16 = (.slice (some ⟨g, 0, none⟩) n c) from h16), (show vs 17 = (.int .i64 ((j : Nat) : Int)) from h17), (show vs 18 = (.slice (some ⟨g, 0, none⟩) n c) from h18), (show vs 19 = (.int .i64 ((j : Nat) : Int)) from h19), (show vs 20 = (.pointer (some ⟨g, j, none⟩)) from h20), (show vs 21 = (.int .u16 (vj : Nat)) from h21), (show vs 22 = (.slice (some ⟨g, 0, none⟩) n c) from h22), (show vs 23 = (.int .i64 ((i : Nat) : Int)) from h23), (show vs 24 = (.pointer (some ⟨g, i, none⟩)) from h24), (show vs 25 = (.int .u16 (vi : Nat)) from h25), (show vs 26 = (.pointer (some ⟨g, i, none⟩)) from h26), (show vs 27 = (.pointer (some ⟨g, j, none⟩)) from h27)]
      clear h14 h15 h16 h17 h18 h19 h20 h21 h22 h23 h24 h25 h26 h27
      have S5 := Lib.hid (Own.cast (qs := dat g n c dn :: ps) hJ rfl)
      clear hJ
      unfold forAll
      simp only [Act.put, List.setIfInBounds_toArray, List.set_cons_zero, List.set_cons_succ]
      go_wp2_with fail
      go_roundg (gk - 1)
      case measure => have := IQ.out; have := HLT.out; omega
      case rel => exact ⟨i + 1, j - 1, by have := HLT.out; omega, by go_num, by go_num, dn, HE.out, by rw [SZ.out]; exact I1.out, by have := IQ.out; have := HLT.out; omega, S5.out⟩
end Go.Proofs.YtnienfgaidccpaaDoor
