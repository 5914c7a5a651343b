/- Words: the insertion sort of a few places. No condition. -/
import Derived.Test.YtnienfgaidccpaaDoorRe
namespace Go.Proofs.YtnienfgaidccpaaDoor
open Go.RowKit Go.Shelf
attribute [local go_sem] Oper.semAt_some

theorem sd_step {j jm : Nat} {d : Array Nat} (h : j = jm + 1) : Sort.shiftDown ltN j d = if ltN d[j]! d[jm]! = true then Sort.shiftDown ltN jm (Sort.swp d j jm) else d := by
  subst h
  rw [Sort.shiftDown]
  cases ltN d[jm + 1]! d[jm]! <;> rfl
theorem sd_end0 {j : Nat} {d : Array Nat} (h : ¬ 1 ≤ j) : Sort.shiftDown ltN j d = d := by
  obtain rfl : j = 0 := by omega
  rfl
theorem su_step {b j jm : Nat} {d : Array Nat} (h : j < b) (hjm : jm = j - 1) : Sort.shiftUp ltN b j d = if ltN d[j]! d[jm]! = true then Sort.shiftUp ltN b (j + 1) (Sort.swp d j jm) else d := by
  subst hjm
  rw [Sort.shiftUp, if_pos h]
  cases ltN d[j]! d[j - 1]! <;> rfl
theorem su_end {b j : Nat} {d : Array Nat} (h : ¬ j < b) : Sort.shiftUp ltN b j d = d := by
  rw [Sort.shiftUp, if_neg h]
theorem sd_size : ∀ (j : Nat) (d : Array Nat), (Sort.shiftDown ltN j d).size = d.size
  | 0, d => rfl
  | j + 1, d => by
    rw [sd_step (jm := j) rfl]
    split
    · rw [sd_size j, swp_size]
    · rfl
theorem su_size (b j : Nat) (d : Array Nat) : (Sort.shiftUp ltN b j d).size = d.size := by
  by_cases h : j < b
  · rw [su_step h rfl]
    split
    · rw [su_size b (j + 1), swp_size]
    · rfl
  · rw [su_end h]
termination_by b - j
theorem ss_step {b x : Nat} {d : Array Nat} : Sort.scanSorted ltN d b x = if (decide (x < b) && !ltN d[x]! d[x - 1]!) = true then Sort.scanSorted ltN d b (x + 1) else x := by
  rw [Sort.scanSorted]
theorem pi_step {a b s i : Nat} {d : Array Nat} : Sort.partialIns ltN a b (s + 1) i d = if Sort.scanSorted ltN d b i = b then (d, true) else if b - a < 50 then (d, false) else
    Sort.partialIns ltN a b s (Sort.scanSorted ltN d b i) (if b - Sort.scanSorted ltN d b i ≥ 2 then Sort.shiftUp ltN b (Sort.scanSorted ltN d b i + 1) (if Sort.scanSorted ltN d b i - a ≥ 2 then Sort.shiftDown ltN (Sort.scanSorted ltN d b i - 1) (Sort.swp d (Sort.scanSorted ltN d b i) (Sort.scanSorted ltN d b i - 1)) else Sort.swp d (Sort.scanSorted ltN d b i) (Sort.scanSorted ltN d b i - 1)) else (if Sort.scanSorted ltN d b i - a ≥ 2 then Sort.shiftDown ltN (Sort.scanSorted ltN d b i - 1) (Sort.swp d (Sort.scanSorted ltN d b i) (Sort.scanSorted ltN d b i - 1)) else Sort.swp d (Sort.scanSorted ltN d b i) (Sort.scanSorted ltN d b i - 1))) := by
  rw [Sort.partialIns]
set_option maxRecDepth 100000 in
set_option maxHeartbeats 8000000 in
theorem pins_any (w0 : World) (ps : List Piece) (g n c : Nat) (d : Array Nat) (W : World) (hO : Own w0 W (dat g n c d :: ps)) (a b : Nat) (hd : d.size = n) (hab : a + 1 ≤ b) (hbn : b ≤ n) (hn : n ≤ 1000000) :
    Calls Tryd.prog 110 #[.slice (some ⟨g, 0, none⟩) n c, .int .i64 (a : Nat), .int .i64 (b : Nat)] W fun e w' => e = .returned (.bool (Sort.partialInsertionSort ltN d a b).2) ∧ Own w0 w' (dat g n c (Sort.partialInsertionSort ltN d a b).1 :: ps) := by
  have S0 := Lib.hid hO
  have HSZ := Lib.hid hd
  obtain ⟨R, hR⟩ : ∃ R, R = Sort.partialInsertionSort ltN d a b := ⟨_, rfl⟩
  rw [← hR]
  have H0 := Lib.hid (show R = Sort.partialIns ltN a b 5 (a + 1) d by rw [hR, Sort.partialInsertionSort])
  have za : IntKind.i64.wrap ((a : Int) + 1) = ((a + 1 : Nat) : Int) := by rw [show (a : Int) + 1 = ((a + 1 : Nat) : Int) by omega]; exact IntWalk.i64_in _ (by omega)
  obtain ⟨L, hL⟩ : ∃ L, L = b - a := ⟨_, rfl⟩
  have hLb : (b : Int) - (a : Int) = (L : Int) := by omega
  have hLw : IntKind.i64.wrap (L : Int) = (L : Int) := IntWalk.i64_in _ (by omega)
  clear hO hd hR hL
  go_enter Tryd.func110, Tryd.ntmps110
  go_wp2_with fail
  go_loopg [7, 8] 5 (fun q u7 u8 wr => ∃ k i : Nat, (k ≤ 5 ∧ a + 1 ≤ i ∧ i ≤ b) ∧ u7 = .int .i64 ((i : Nat) : Int) ∧ u8 = .int .i64 ((k : Nat) : Int) ∧ Hid (∃ d, R = Sort.partialIns ltN a b (5 - k) i d ∧ d.size = n ∧ q = 5 - k ∧ Own w0 wr (dat g n c d :: ps)))
  case atStart => exact ⟨0, a + 1, by omega, by go_num, by go_num, d, H0.out, HSZ.out, rfl, S0.out⟩
  case round =>
    obtain ⟨k, i, hki, rfl, rfl, hI⟩ := hrel
    clear HSZ
    obtain ⟨d, q1, q2, q3, q4⟩ := hI.out
    have I0 := Lib.hid q1
    have HSZ := Lib.hid q2
    have IQ := Lib.hid q3
    have I5 := Lib.hid q4
    clear hI q1 q2 q3 q4 S0 H0
    by_cases hk : k < 5
    case neg => as_aux_lemma =>
      have hk2 : ¬ (k : Int) < 5 := by omega
      have HE := Lib.hid (show R = (d, false) by rw [I0.out, show 5 - k = 0 by omega]; rfl)
      go_wp2_with fail
      go_ret
      exact ⟨by rw [HE.out]; rfl, by rw [HE.out]; exact I5.out⟩
    have hk2 : (k : Int) < 5 := by omega
    have zk : IntKind.i64.wrap ((k : Int) + 1) = ((k + 1 : Nat) : Int) := by rw [show (k : Int) + 1 = ((k + 1 : Nat) : Int) by omega]; exact IntWalk.i64_in _ (by omega)
    obtain ⟨s, hs⟩ : ∃ s, s = 4 - k := ⟨_, rfl⟩
    obtain ⟨I2, hI2⟩ : ∃ I2, I2 = Sort.scanSorted ltN d b i := ⟨_, rfl⟩
    have HP := Lib.hid (show R = if I2 = b then (d, true) else if b - a < 50 then (d, false) else Sort.partialIns ltN a b s I2 (if b - I2 ≥ 2 then Sort.shiftUp ltN b (I2 + 1) (if I2 - a ≥ 2 then Sort.shiftDown ltN (I2 - 1) (Sort.swp d I2 (I2 - 1)) else Sort.swp d I2 (I2 - 1)) else (if I2 - a ≥ 2 then Sort.shiftDown ltN (I2 - 1) (Sort.swp d I2 (I2 - 1)) else Sort.swp d I2 (I2 - 1))) by rw [I0.out, show 5 - k = s + 1 by omega, pi_step, ← hI2])
    have HI0 := Lib.hid hI2
    have HS := Lib.hid (show s + k = 4 by omega)
    clear hI2 I0 hs
    obtain ⟨G1, rfl⟩ : ∃ G1 : Nat, G1 = gk := ⟨_, rfl⟩
    go_wp2_with fail
    go_loopg [7] (b + 1 - i) (fun q u wr => ∃ x : Nat, (a + 1 ≤ x ∧ x ≤ b) ∧ u = .int .i64 ((x : Nat) : Int) ∧ Hid (I2 = Sort.scanSorted ltN d b x ∧ q = b + 1 - x ∧ Own w0 wr (dat g n c d :: ps)))
    case atStart => exact ⟨i, by omega, rfl, HI0.out, rfl, I5.out⟩
    case round =>
      obtain ⟨x, hran, rfl, hI⟩ := hrel
      have Q0 := Lib.hid hI.out.1
      have QM := Lib.hid hI.out.2.1
      have Q2 := Lib.hid hI.out.2.2
      clear hI I5 HI0
      obtain ⟨xm, hxm⟩ : ∃ xm, xm = x - 1 := ⟨_, rfl⟩
      have zm : (x : Int) - 1 = (xm : Int) := by omega
      have zmw : IntKind.i64.wrap (xm : Int) = (xm : Int) := IntWalk.i64_in _ (by omega)
      obtain ⟨cb, hcb⟩ : ∃ cb, cb = (decide (x < b) && !ltN d[x]! d[xm]!) := ⟨_, rfl⟩
      have HST := Lib.hid (show I2 = if cb = true then Sort.scanSorted ltN d b (x + 1) else x by rw [Q0.out, ss_step, ← hxm, ← hcb])
      have HCB := Lib.hid (show cb = true → x < b from fun h => by rw [hcb] at h; simp at h; omega)
      have HXM := Lib.hid hxm
      clear hxm
      obtain ⟨CBV, hCBV⟩ : ∃ V, V = cb := ⟨_, rfl⟩
      go_upto_region 5 with (fail)
      go_cut [32] from 17 to 34 (fun u wx => u = .bool CBV ∧ Hid (Own w0 wx (dat g n c d :: ps)))
      case first =>
        as_aux_lemma =>
        by_cases hle : x < b
        case neg =>
          have HC := Lib.hid (show CBV = false by rw [hCBV, hcb]; simp [hle])
          clear hcb hCBV HST HCB
          go_wp2_with fail
          have hle2 : ¬ (x : Int) < (b : Int) := by omega
          have hne : Nonempty (OwnOf w0 (dat g n c d :: ps)) := ⟨⟨_, Q2.out⟩⟩
          refine wp_region_own Q2.out (by kernel_rfl) (by kernel_rfl) ?_
          iterate 16 (go_big_quiet_step (fail))
          refine wpQuiet_nil ?_
          rintro wQ9 ⟨z, hz⟩
          have Q9 := Lib.hid (show Own w0 wQ9 (dat g n c d :: ps) by rw [hz]; exact z.own)
          clear hz z Q2 hne
          go_wp2_with fail
          go_meet
          exact ⟨congrArg Value.bool HC.out.symm, Q9.out⟩
        have hle2 : (x : Int) < (b : Int) := by omega
        have hxn : (x : Int) < (n : Int) := by omega
        have hxmn : (xm : Int) < (n : Int) := by have := HXM.out; omega
        have FA := Lib.hid (fun z : OwnOf w0 (dat g n c d :: ps) => z.own.rowAt (g := g) 0 rfl (at_arr (d := d) (i := x) (by have := HSZ.out; omega) rfl))
        have FB := Lib.hid (fun z : OwnOf w0 (dat g n c d :: ps) => z.own.rowAt (g := g) 0 rfl (at_arr (d := d) (i := xm) (by have := HSZ.out; omega) rfl))
        have HC := Lib.hid (show CBV = !ltN d[x]! d[xm]! by rw [hCBV, hcb]; simp [hle])
        clear hcb hCBV HST HCB Q0
        generalize d[x]! = x1 at *
        generalize d[xm]! = x2 at *
        have fa := FA.out
        have fb := FB.out
        have KL := Lib.hid (fun W1 => less_any x1 x2 W1)
        have hne : Nonempty (OwnOf w0 (dat g n c d :: ps)) := ⟨⟨_, Q2.out⟩⟩
        clear FA FB
        cases hl : ltN x1 x2
        all_goals
          rw [hl] at KL HC
          clear hl
          go_wp2_with fail
          refine wp_region_own Q2.out (by kernel_rfl) (by kernel_rfl) ?_
          iterate 13 (go_big_quiet_step (fail))
          go_big_quiet_step ((go_at_call 111; exact own_same (KL.out _)))
          iterate 2 (go_big_quiet_step (fail))
          refine wpQuiet_nil ?_
          rintro wQ9 ⟨z, hz⟩
          have Q9 := Lib.hid (show Own w0 wQ9 (dat g n c d :: ps) by rw [hz]; exact z.own)
          clear hz z Q2 fa fb hne KL
          go_wp2_with fail
          go_meet
          exact ⟨congrArg Value.bool HC.out.symm, Q9.out⟩
      case rest =>
        obtain ⟨rfl, S4⟩ := hcut
        subst hCBV
        clear Q2 Q0 hcb zm zmw HXM
        clear xm
        rcases CBV with _ | _
        case true => as_aux_lemma =>
          have hle := HCB.out rfl
          have HE := Lib.hid (show I2 = Sort.scanSorted ltN d b (x + 1) from HST.out)
          have zx : IntKind.i64.wrap ((x : Int) + 1) = ((x + 1 : Nat) : Int) := by rw [show (x : Int) + 1 = ((x + 1 : Nat) : Int) by omega]; exact IntWalk.i64_in _ (by omega)
          have HLE := Lib.hid hle
          clear HST HCB
          go_wp2_with fail
          go_roundg (b + 1 - (x + 1))
          case measure => have := QM.out; have := HLE.out; omega
          case rel => exact ⟨x + 1, by have := HLE.out; omega, by go_num, HE.out, rfl, S4.out⟩
        have HI2 := Lib.hid (show I2 = x from HST.out)
        clear HST HCB QM
        have HEQ := Lib.hid (show R = if x = b then (d, true) else if b - a < 50 then (d, false) else Sort.partialIns ltN a b s x (if b - x ≥ 2 then Sort.shiftUp ltN b (x + 1) (if x - a ≥ 2 then Sort.shiftDown ltN (x - 1) (Sort.swp d x (x - 1)) else Sort.swp d x (x - 1)) else (if x - a ≥ 2 then Sort.shiftDown ltN (x - 1) (Sort.swp d x (x - 1)) else Sort.swp d x (x - 1))) by rw [← HI2.out]; exact HP.out)
        clear HP
        by_cases hb : x = b
        · as_aux_lemma =>
          have hbi : (x : Int) = (b : Int) := by omega
          have HE := Lib.hid (show R = (d, true) by rw [HEQ.out, if_pos hb])
          obtain rfl := hb
          clear HEQ hbi
          go_wp2_with fail
          go_ret
          exact ⟨by rw [HE.out]; rfl, by rw [HE.out]; exact S4.out⟩
        as_aux_lemma =>
        have hbi : ¬ (x : Int) = (b : Int) := by omega
        by_cases h50 : b - a < 50
        · as_aux_lemma =>
          have hli : (L : Int) < 50 := by omega
          have HE := Lib.hid (show R = (d, false) by rw [HEQ.out, if_neg hb, if_pos h50])
          clear HEQ hLb
          go_wp2_with fail
          go_ret
          exact ⟨by rw [HE.out]; rfl, by rw [HE.out]; exact S4.out⟩
        as_aux_lemma =>
        have hli : ¬ (L : Int) < 50 := by omega
        obtain ⟨xm, hxm⟩ : ∃ xm, xm = x - 1 := ⟨_, rfl⟩
        have hxn : (x : Int) < (n : Int) := by omega
        have hxmn : (xm : Int) < (n : Int) := by omega
        have zm : (x : Int) - 1 = (xm : Int) := by omega
        have zmw : IntKind.i64.wrap (xm : Int) = (xm : Int) := IntWalk.i64_in _ (by omega)
        have hsz : d.size = n := HSZ.out
        obtain ⟨vi, vj, d1, d2, dn, sq1, sq2, sq3, sq4, sq5, sq6, sq7⟩ := swp_vars d (x) (xm)
        have SI := Lib.hid (at_arr (d := d) (i := x) (by omega) sq1)
        have SJ := Lib.hid (at_arr (d := d) (i := xm) (by omega) sq2)
        have SBI := Lib.hid (show x < d.size by omega)
        have SBJ := Lib.hid (show xm < d.size by omega)
        have SQ3 := Lib.hid sq3
        have SQ4 := Lib.hid sq4
        have SQ5 := Lib.hid sq5
        have SQ6 := Lib.hid sq6
        have SQ7 := Lib.hid sq7
        have SZ := Lib.hid (show dn.size = d.size by rw [← sq7]; exact swp_size _ _ _)
        clear sq1 sq2 sq3 sq4 sq5 sq6 sq7
        have HXL := Lib.hid (show x < b by omega)
        have HXM := Lib.hid hxm
        obtain ⟨dA, hdA⟩ : ∃ dA, dA = if x - a ≥ 2 then Sort.shiftDown ltN xm dn else dn := ⟨_, rfl⟩
        obtain ⟨dB, hdB⟩ : ∃ dB, dB = if b - x ≥ 2 then Sort.shiftUp ltN b (x + 1) dA else dA := ⟨_, rfl⟩
        have HF := Lib.hid (show R = Sort.partialIns ltN a b s x dB by rw [HEQ.out, if_neg hb, if_neg h50, ← hxm, SQ7.out, ← hdA, ← hdB])
        have HDA := Lib.hid hdA
        have HDB := Lib.hid hdB
        clear hsz HEQ hxm hdA hdB hb h50
        go_upto_region 11 with (fail)
        refine wp_region_state 133 [(42, (.slice (some ⟨g, 0, none⟩) n c)), (43, (.int .i64 ((x : Nat) : Int))), (44, (.slice (some ⟨g, 0, none⟩) n c)), (45, (.int .i64 ((x : Nat) : Int))), (46, (.int .i64 ((xm : Nat) : Int))), (47, (.slice (some ⟨g, 0, none⟩) n c)), (48, (.int .i64 ((x : Nat) : Int))), (49, (.int .i64 ((xm : Nat) : Int))), (50, (.pointer (some ⟨g, xm, none⟩))), (51, (.int .u16 (vj : Nat))), (52, (.slice (some ⟨g, 0, none⟩) n c)), (53, (.int .i64 ((x : Nat) : Int))), (54, (.pointer (some ⟨g, x, none⟩))), (55, (.int .u16 (vi : Nat))), (56, (.pointer (some ⟨g, x, none⟩))), (57, (.pointer (some ⟨g, xm, none⟩)))] (fun L vs w' => Own w0 w' (dat g n c (cond (L 15) (cond (L 17) dn d1) (cond (L 17) d2 d)) :: ps)) (by kernel_rfl) (by kernel_rfl) [42, 43, 44, 45, 46, 47, 48, 49, 50, 51, 52, 53, 54, 55, 56, 57] (by kernel_rfl) rfl (by kernel_rfl) 18 rfl ?_ ?_ ?_
        · exact fun L hL => (S4.out.ext (Below.refl _ _).drew).cast (by simp [hL 15 (by decide), hL 17 (by decide)])
        · refine ⟨StepS.of [] (by kernel_rfl) ?_, ?_⟩
          · intro L vs wq hL hA hC hJ
            unfold forAll
            exact StepV.val 42 (by kernel_rfl) (by kernel_rfl) rfl (by simp) rfl rfl hJ
          refine ⟨StepS.of [] (by kernel_rfl) ?_, ?_⟩
          · intro L vs wq hL hA hC hJ
            unfold forAll
            exact StepV.val 43 (by kernel_rfl) (by kernel_rfl) rfl (by simp) rfl rfl hJ
          refine ⟨StepS.of [] (by kernel_rfl) ?_, ?_⟩
          · intro L vs wq hL hA hC hJ
            unfold forAll
            exact StepV.val 44 (by kernel_rfl) (by kernel_rfl) rfl (by simp) rfl rfl hJ
          refine ⟨StepS.of [] (by kernel_rfl) ?_, ?_⟩
          · intro L vs wq hL hA hC hJ
            unfold forAll
            exact StepV.val 45 (by kernel_rfl) (by kernel_rfl) rfl (by simp) rfl rfl hJ
          refine ⟨StepS.of [45] (by kernel_rfl) ?_, ?_⟩
          · intro L vs wq hL hA hC hJ h45
            rw [(show vs 45 = (.int .i64 ((x : Nat) : Int)) from h45)]
            unfold forAll
            exact StepV.val 46 (by kernel_rfl) (by go_simp) rfl (by simp [Act.put]) rfl rfl hJ
          refine ⟨StepS.of [] (by kernel_rfl) ?_, ?_⟩
          · intro L vs wq hL hA hC hJ
            unfold forAll
            exact StepV.val 47 (by kernel_rfl) (by kernel_rfl) rfl (by simp) rfl rfl hJ
          refine ⟨StepS.of [] (by kernel_rfl) ?_, ?_⟩
          · intro L vs wq hL hA hC hJ
            unfold forAll
            exact StepV.val 48 (by kernel_rfl) (by kernel_rfl) rfl (by simp) rfl rfl hJ
          refine ⟨StepS.of [48] (by kernel_rfl) ?_, ?_⟩
          · intro L vs wq hL hA hC hJ h48
            rw [(show vs 48 = (.int .i64 ((x : Nat) : Int)) from h48)]
            unfold forAll
            exact StepV.val 49 (by kernel_rfl) (by go_simp) rfl (by simp [Act.put]) rfl rfl hJ
          refine ⟨StepS.of [47, 49] (by kernel_rfl) ?_, ?_⟩
          · intro L vs wq hL hA hC hJ h47 h49
            rw [(show vs 47 = (.slice (some ⟨g, 0, none⟩) n c) from h47), (show vs 49 = (.int .i64 ((xm : Nat) : Int)) from h49)]
            unfold forAll
            exact StepV.val 50 (by kernel_rfl) (by go_simp) rfl (by simp [Act.put]) rfl rfl hJ
          refine ⟨StepS.of [50] (by kernel_rfl) ?_, ?_⟩
          · intro L vs wq hL hA hC hJ h50
            rw [(show vs 50 = (.pointer (some ⟨g, xm, none⟩)) from h50)]
            unfold forAll
            have q1 := hC.no (j := 15) (i := 9) (by kernel_rfl) hL
            have q2 := hC.no (j := 17) (i := 9) (by kernel_rfl) hL
            have K := Own.cast (qs := dat g n c d :: ps) hJ (by simp [q1, q2])
            have t0 := K.rowAt 0 rfl (u := .int .u16 (vj : Nat)) (j := xm) SJ.out
            have tl := (K.rowLt 0 rfl).1
            exact StepV.val 51 (by kernel_rfl) (by go_simp) rfl (by simp [Act.put]) rfl rfl hJ
          refine ⟨StepS.of [] (by kernel_rfl) ?_, ?_⟩
          · intro L vs wq hL hA hC hJ
            unfold forAll
            exact StepV.val 52 (by kernel_rfl) (by kernel_rfl) rfl (by simp) rfl rfl hJ
          refine ⟨StepS.of [] (by kernel_rfl) ?_, ?_⟩
          · intro L vs wq hL hA hC hJ
            unfold forAll
            exact StepV.val 53 (by kernel_rfl) (by kernel_rfl) rfl (by simp) rfl rfl hJ
          refine ⟨StepS.of [52, 53] (by kernel_rfl) ?_, ?_⟩
          · intro L vs wq hL hA hC hJ h52 h53
            rw [(show vs 52 = (.slice (some ⟨g, 0, none⟩) n c) from h52), (show vs 53 = (.int .i64 ((x : Nat) : Int)) from h53)]
            unfold forAll
            exact StepV.val 54 (by kernel_rfl) (by go_simp) rfl (by simp [Act.put]) rfl rfl hJ
          refine ⟨StepS.of [54] (by kernel_rfl) ?_, ?_⟩
          · intro L vs wq hL hA hC hJ h54
            rw [(show vs 54 = (.pointer (some ⟨g, x, none⟩)) from h54)]
            unfold forAll
            have q1 := hC.no (j := 15) (i := 13) (by kernel_rfl) hL
            have q2 := hC.no (j := 17) (i := 13) (by kernel_rfl) hL
            have K := Own.cast (qs := dat g n c d :: ps) hJ (by simp [q1, q2])
            have t0 := K.rowAt 0 rfl (u := .int .u16 (vi : Nat)) (j := x) SI.out
            have tl := (K.rowLt 0 rfl).1
            exact StepV.val 55 (by kernel_rfl) (by go_simp) rfl (by simp [Act.put]) rfl rfl hJ
          refine ⟨StepS.of [42, 43] (by kernel_rfl) ?_, ?_⟩
          · intro L vs wq hL hA hC hJ h42 h43
            rw [(show vs 42 = (.slice (some ⟨g, 0, none⟩) n c) from h42), (show vs 43 = (.int .i64 ((x : Nat) : Int)) from h43)]
            unfold forAll
            exact StepV.val 56 (by kernel_rfl) (by go_simp) rfl (by simp [Act.put]) rfl rfl hJ
          refine ⟨StepS.of [56, 51] (by kernel_rfl) ?_, ?_⟩
          · intro L vs wq hL hA hC hJ h56 h51
            rw [(show vs 56 = (.pointer (some ⟨g, x, none⟩)) from h56), (show vs 51 = (.int .u16 (vj : Nat)) from h51)]
            unfold forAll
            cases q : L 17
            · have K := Own.cast (qs := dat g n c d :: ps) hJ (by simp [hL, q])
              have tl := (K.rowLt 0 rfl).1; have tf := (K.rowLt 0 rfl).2
              have t0 := K.rowAt 0 rfl (j := x) SI.out
              exact StepV.skip (by kernel_rfl) (by go_simp) rfl rfl ((K.setD (x) vj).cast (by simp [upd, q, SQ3.out]))
            · have K := Own.cast (qs := dat g n c d2 :: ps) hJ (by simp [hL, q])
              have tl := (K.rowLt 0 rfl).1; have tf := (K.rowLt 0 rfl).2
              obtain ⟨u9, t0⟩ := K.someD (i := x) (by rw [← SQ4.out, Array.size_setIfInBounds]; exact SBI.out)
              exact StepV.skip (by kernel_rfl) (by go_simp) rfl rfl ((K.setD (x) vj).cast (by simp [upd, q, SQ6.out]))
          refine ⟨StepS.of [44, 46] (by kernel_rfl) ?_, ?_⟩
          · intro L vs wq hL hA hC hJ h44 h46
            rw [(show vs 44 = (.slice (some ⟨g, 0, none⟩) n c) from h44), (show vs 46 = (.int .i64 ((xm : Nat) : Int)) from h46)]
            unfold forAll
            exact StepV.val 57 (by kernel_rfl) (by go_simp) rfl (by simp [Act.put]) rfl rfl hJ
          refine ⟨StepS.of [57, 55] (by kernel_rfl) ?_, ?_⟩
          · intro L vs wq hL hA hC hJ h57 h55
            rw [(show vs 57 = (.pointer (some ⟨g, xm, none⟩)) from h57), (show vs 55 = (.int .u16 (vi : Nat)) from h55)]
            unfold forAll
            cases q : L 15
            · have K := Own.cast (qs := dat g n c d :: ps) hJ (by simp [hL, q])
              have tl := (K.rowLt 0 rfl).1; have tf := (K.rowLt 0 rfl).2
              have t0 := K.rowAt 0 rfl (j := xm) SJ.out
              exact StepV.skip (by kernel_rfl) (by go_simp) rfl rfl ((K.setD (xm) vi).cast (by simp [upd, q, SQ4.out]))
            · have K := Own.cast (qs := dat g n c d1 :: ps) hJ (by simp [hL, q])
              have tl := (K.rowLt 0 rfl).1; have tf := (K.rowLt 0 rfl).2
              obtain ⟨u9, t0⟩ := K.someD (i := xm) (by rw [← SQ3.out, Array.size_setIfInBounds]; exact SBJ.out)
              exact StepV.skip (by kernel_rfl) (by go_simp) rfl rfl ((K.setD (xm) vi).cast (by simp [upd, q, SQ5.out]))
          exact trivial
        · intro vs wS5 hJ h42 h43 h44 h45 h46 h47 h48 h49 h50 h51 h52 h53 h54 h55 h56 h57
          rw [(show vs 42 = (.slice (some ⟨g, 0, none⟩) n c) from h42), (show vs 43 = (.int .i64 ((x : Nat) : Int)) from h43), (show vs 44 = (.slice (some ⟨g, 0, none⟩) n c) from h44), (show vs 45 = (.int .i64 ((x : Nat) : Int)) from h45), (show vs 46 = (.int .i64 ((xm : Nat) : Int)) from h46), (show vs 47 = (.slice (some ⟨g, 0, none⟩) n c) from h47), (show vs 48 = (.int .i64 ((x : Nat) : Int)) from h48), (show vs 49 = (.int .i64 ((xm : Nat) : Int)) from h49), (show vs 50 = (.pointer (some ⟨g, xm, none⟩)) from h50), (show vs 51 = (.int .u16 (vj : Nat)) from h51), (show vs 52 = (.slice (some ⟨g, 0, none⟩) n c) from h52), (show vs 53 = (.int .i64 ((x : Nat) : Int)) from h53), (show vs 54 = (.pointer (some ⟨g, x, none⟩)) from h54), (show vs 55 = (.int .u16 (vi : Nat)) from h55), (show vs 56 = (.pointer (some ⟨g, x, none⟩)) from h56), (show vs 57 = (.pointer (some ⟨g, xm, none⟩)) from h57)]
          clear h42 h43 h44 h45 h46 h47 h48 h49 h50 h51 h52 h53 h54 h55 h56 h57
          have S5 := Lib.hid (Own.cast (qs := dat g n c dn :: ps) hJ rfl)
          clear hJ
          unfold forAll
          simp only [Act.put, List.setIfInBounds_toArray, List.set_cons_zero, List.set_cons_succ]
          have SZN := Lib.hid (SZ.out.trans HSZ.out)
          clear SI SJ SQ3 SQ4 SQ5 SQ6 SQ7 SZ SBI SBJ hLb
          clear HSZ
          obtain ⟨XA, hXA⟩ : ∃ XA, XA = x - a := ⟨_, rfl⟩
          obtain ⟨BX, hBX⟩ : ∃ BX, BX = b - x := ⟨_, rfl⟩
          have hXA2 : (x : Int) - (a : Int) = (XA : Int) := by omega
          have hBX2 : (b : Int) - (x : Int) = (BX : Int) := by have := HXL.out; omega
          have hXAw : IntKind.i64.wrap (XA : Int) = (XA : Int) := IntWalk.i64_in _ (by omega)
          have hBXw : IntKind.i64.wrap (BX : Int) = (BX : Int) := IntWalk.i64_in _ (by omega)
          rw [← hXA] at HDA
          rw [← hBX] at HDB
          have HBX := Lib.hid hBX
          clear hXA hBX
          have HSA := Lib.hid (show dA.size = n by rw [HDA.out]; split; exact (sd_size _ _).trans SZN.out; exact SZN.out)
          go_upto_if 61 with (fail)
          go_cut [7, 9] from 13 to 132 (fun u7 u9 wx => u7 = .int .i64 ((x : Nat) : Int) ∧ Hid (Own w0 wx (dat g n c dA :: ps)))
          case first =>
            by_cases hA : 2 ≤ XA
            case neg => as_aux_lemma =>
              have hA2 : ¬ (2 : Int) ≤ (XA : Int) := by omega
              have HE := Lib.hid (show dA = dn by rw [HDA.out, if_neg hA])
              go_wp2_with fail
              go_meet
              exact ⟨rfl, by rw [HE.out]; exact S5.out⟩
            as_aux_lemma =>
            have hA2 : (2 : Int) ≤ (XA : Int) := by omega
            have HE0 := Lib.hid (show dA = Sort.shiftDown ltN xm dn by rw [HDA.out, if_pos hA])
            clear HDA HDB HF hA
            go_wp2_with fail
            go_loopg [9] ((xm)) (fun q u wr => ∃ j : Nat, (j < n) ∧ u = .int .i64 ((j : Nat) : Int) ∧ Hid (∃ d, dA = Sort.shiftDown ltN j d ∧ d.size = n ∧ q = j ∧ Own w0 wr (dat g n c d :: ps)))
            case atStart => exact ⟨xm, by omega, by go_num, dn, HE0.out, SZN.out, rfl, S5.out⟩
            case round =>
              obtain ⟨j, hj, rfl, hJ⟩ := hrel
              obtain ⟨d, q1, q2, q3, q4⟩ := hJ.out
              have J0 := Lib.hid q1
              have J1 := Lib.hid q2
              have JQ := Lib.hid q3
              have J2 := Lib.hid q4
              have hsz : d.size = n := q2
              clear hJ q1 q2 q3 q4
              by_cases hcj : 1 ≤ j
              case neg => as_aux_lemma =>
                have hcj2 : ¬ (1 : Int) ≤ (j : Int) := by omega
                have HE := Lib.hid (show dA = d by rw [J0.out]; exact sd_end0 hcj)
                clear hsz
                go_wp2_with fail
                go_meet
                exact ⟨rfl, by rw [HE.out]; exact J2.out⟩
              as_aux_lemma =>
              have hcj2 : (1 : Int) ≤ (j : Int) := by omega
              have hjn : (j : Int) < (n : Int) := by omega
              obtain ⟨jm, hjm⟩ : ∃ jm, jm = j - 1 := ⟨_, rfl⟩
              have zj : (j : Int) - 1 = (jm : Int) := by omega
              have zw : IntKind.i64.wrap (jm : Int) = (jm : Int) := IntWalk.i64_in _ (by omega)
              have hjc : (jm : Int) < (n : Int) := by omega
              skip
              have HST := Lib.hid (show dA = if ltN d[j]! d[jm]! = true then Sort.shiftDown ltN jm (Sort.swp d j jm) else d by rw [J0.out]; exact sd_step (by omega))
              have HJM := Lib.hid hjm
              have FA := Lib.hid (fun x : OwnOf w0 (dat g n c d :: ps) => x.own.rowAt (g := g) 0 rfl (at_arr (d := d) (i := j) (by omega) rfl))
              have FB := Lib.hid (fun x : OwnOf w0 (dat g n c d :: ps) => x.own.rowAt (g := g) 0 rfl (at_arr (d := d) (i := jm) (by omega) rfl))
              obtain ⟨vi, vj, d1, d2, dn, sq1, sq2, sq3, sq4, sq5, sq6, sq7⟩ := swp_vars d (j) (jm)
              have SI := Lib.hid (at_arr (d := d) (i := j) (by omega) sq1)
              have SJ := Lib.hid (at_arr (d := d) (i := jm) (by omega) sq2)
              have SBI := Lib.hid (show j < d.size by omega)
              have SBJ := Lib.hid (show jm < d.size by omega)
              have SQ3 := Lib.hid sq3
              have SQ4 := Lib.hid sq4
              have SQ5 := Lib.hid sq5
              have SQ6 := Lib.hid sq6
              have SQ7 := Lib.hid sq7
              have SZ := Lib.hid (show dn.size = d.size by rw [← sq7]; exact swp_size _ _ _)
              clear sq1 sq2 sq3 sq4 sq5 sq6 sq7
              generalize d[j]! = x1 at *
              generalize d[jm]! = x2 at *
              have fa := FA.out
              have fb := FB.out
              have KL := Lib.hid (fun W1 => less_any x1 x2 W1)
              have hne : Nonempty (OwnOf w0 (dat g n c d :: ps)) := ⟨⟨_, J2.out⟩⟩
              clear FA FB hjm hsz
              go_upto_region 16 with (fail)
              cases hl : ltN x1 x2
              · as_aux_lemma =>
                rw [hl] at KL HST
                have HE := Lib.hid (show dA = d from HST.out)
                clear hl HST SI SJ SQ3 SQ4 SQ5 SQ6 SQ7 SZ SBI SBJ
                refine wp_region_own J2.out (by kernel_rfl) (by kernel_rfl) ?_
                iterate 9 (go_big_quiet_step (fail))
                go_big_quiet_step ((go_at_call 111; exact own_same (KL.out _)))
                iterate 1 (go_big_quiet_step (fail))
                refine wpQuiet_nil ?_
                rintro wJ6 ⟨z, hz⟩
                have J6 := Lib.hid (show Own w0 wJ6 (dat g n c d :: ps) by rw [hz]; exact z.own)
                clear hz z J2 fa fb hne KL
                go_wp2_with fail
                go_meet
                exact ⟨rfl, by rw [HE.out]; exact J6.out⟩
              · as_aux_lemma =>
                rw [hl] at KL HST
                have HE := Lib.hid (show dA = Sort.shiftDown ltN jm dn by rw [← SQ7.out]; exact HST.out)
                clear hl HST
                refine wp_region_own J2.out (by kernel_rfl) (by kernel_rfl) ?_
                iterate 9 (go_big_quiet_step (fail))
                go_big_quiet_step ((go_at_call 111; exact own_same (KL.out _)))
                iterate 1 (go_big_quiet_step (fail))
                refine wpQuiet_nil ?_
                rintro wJ6 ⟨z, hz⟩
                have J6 := Lib.hid (show Own w0 wJ6 (dat g n c d :: ps) by rw [hz]; exact z.own)
                clear hz z J2 fa fb hne KL
                go_upto_region 17 with (fail)
                refine wp_region_state 133 [(79, (.slice (some ⟨g, 0, none⟩) n c)), (80, (.int .i64 ((j : Nat) : Int))), (81, (.slice (some ⟨g, 0, none⟩) n c)), (82, (.int .i64 ((j : Nat) : Int))), (83, (.int .i64 ((jm : Nat) : Int))), (84, (.slice (some ⟨g, 0, none⟩) n c)), (85, (.int .i64 ((j : Nat) : Int))), (86, (.int .i64 ((jm : Nat) : Int))), (87, (.pointer (some ⟨g, jm, none⟩))), (88, (.int .u16 (vj : Nat))), (89, (.slice (some ⟨g, 0, none⟩) n c)), (90, (.int .i64 ((j : Nat) : Int))), (91, (.pointer (some ⟨g, j, none⟩))), (92, (.int .u16 (vi : Nat))), (93, (.pointer (some ⟨g, j, none⟩))), (94, (.pointer (some ⟨g, jm, none⟩)))] (fun L vs w' => Own w0 w' (dat g n c (cond (L 15) (cond (L 17) dn d1) (cond (L 17) d2 d)) :: ps)) (by kernel_rfl) (by kernel_rfl) [79, 80, 81, 82, 83, 84, 85, 86, 87, 88, 89, 90, 91, 92, 93, 94] (by kernel_rfl) rfl (by kernel_rfl) 18 rfl ?_ ?_ ?_
                · exact fun L hL => (J6.out.ext (Below.refl _ _).drew).cast (by simp [hL 15 (by decide), hL 17 (by decide)])
                · refine ⟨StepS.of [] (by kernel_rfl) ?_, ?_⟩
                  · intro L vs wq hL hA hC hJ
                    unfold forAll
                    exact StepV.val 79 (by kernel_rfl) (by kernel_rfl) rfl (by simp) rfl rfl hJ
                  refine ⟨StepS.of [] (by kernel_rfl) ?_, ?_⟩
                  · intro L vs wq hL hA hC hJ
                    unfold forAll
                    exact StepV.val 80 (by kernel_rfl) (by kernel_rfl) rfl (by simp) rfl rfl hJ
                  refine ⟨StepS.of [] (by kernel_rfl) ?_, ?_⟩
                  · intro L vs wq hL hA hC hJ
                    unfold forAll
                    exact StepV.val 81 (by kernel_rfl) (by kernel_rfl) rfl (by simp) rfl rfl hJ
                  refine ⟨StepS.of [] (by kernel_rfl) ?_, ?_⟩
                  · intro L vs wq hL hA hC hJ
                    unfold forAll
                    exact StepV.val 82 (by kernel_rfl) (by kernel_rfl) rfl (by simp) rfl rfl hJ
                  refine ⟨StepS.of [82] (by kernel_rfl) ?_, ?_⟩
                  · intro L vs wq hL hA hC hJ h82
                    rw [(show vs 82 = (.int .i64 ((j : Nat) : Int)) from h82)]
                    unfold forAll
                    exact StepV.val 83 (by kernel_rfl) (by go_simp) rfl (by simp [Act.put]) rfl rfl hJ
                  refine ⟨StepS.of [] (by kernel_rfl) ?_, ?_⟩
                  · intro L vs wq hL hA hC hJ
                    unfold forAll
                    exact StepV.val 84 (by kernel_rfl) (by kernel_rfl) rfl (by simp) rfl rfl hJ
                  refine ⟨StepS.of [] (by kernel_rfl) ?_, ?_⟩
                  · intro L vs wq hL hA hC hJ
                    unfold forAll
                    exact StepV.val 85 (by kernel_rfl) (by kernel_rfl) rfl (by simp) rfl rfl hJ
                  refine ⟨StepS.of [85] (by kernel_rfl) ?_, ?_⟩
                  · intro L vs wq hL hA hC hJ h85
                    rw [(show vs 85 = (.int .i64 ((j : Nat) : Int)) from h85)]
                    unfold forAll
                    exact StepV.val 86 (by kernel_rfl) (by go_simp) rfl (by simp [Act.put]) rfl rfl hJ
                  refine ⟨StepS.of [84, 86] (by kernel_rfl) ?_, ?_⟩
                  · intro L vs wq hL hA hC hJ h84 h86
                    rw [(show vs 84 = (.slice (some ⟨g, 0, none⟩) n c) from h84), (show vs 86 = (.int .i64 ((jm : Nat) : Int)) from h86)]
                    unfold forAll
                    exact StepV.val 87 (by kernel_rfl) (by go_simp) rfl (by simp [Act.put]) rfl rfl hJ
                  refine ⟨StepS.of [87] (by kernel_rfl) ?_, ?_⟩
                  · intro L vs wq hL hA hC hJ h87
                    rw [(show vs 87 = (.pointer (some ⟨g, jm, none⟩)) from h87)]
                    unfold forAll
                    have q1 := hC.no (j := 15) (i := 9) (by kernel_rfl) hL
                    have q2 := hC.no (j := 17) (i := 9) (by kernel_rfl) hL
                    have K := Own.cast (qs := dat g n c d :: ps) hJ (by simp [q1, q2])
                    have t0 := K.rowAt 0 rfl (u := .int .u16 (vj : Nat)) (j := jm) SJ.out
                    have tl := (K.rowLt 0 rfl).1
                    exact StepV.val 88 (by kernel_rfl) (by go_simp) rfl (by simp [Act.put]) rfl rfl hJ
                  refine ⟨StepS.of [] (by kernel_rfl) ?_, ?_⟩
                  · intro L vs wq hL hA hC hJ
                    unfold forAll
                    exact StepV.val 89 (by kernel_rfl) (by kernel_rfl) rfl (by simp) rfl rfl hJ
                  refine ⟨StepS.of [] (by kernel_rfl) ?_, ?_⟩
                  · intro L vs wq hL hA hC hJ
                    unfold forAll
                    exact StepV.val 90 (by kernel_rfl) (by kernel_rfl) rfl (by simp) rfl rfl hJ
                  refine ⟨StepS.of [89, 90] (by kernel_rfl) ?_, ?_⟩
                  · intro L vs wq hL hA hC hJ h89 h90
                    rw [(show vs 89 = (.slice (some ⟨g, 0, none⟩) n c) from h89), (show vs 90 = (.int .i64 ((j : Nat) : Int)) from h90)]
                    unfold forAll
                    exact StepV.val 91 (by kernel_rfl) (by go_simp) rfl (by simp [Act.put]) rfl rfl hJ
                  refine ⟨StepS.of [91] (by kernel_rfl) ?_, ?_⟩
                  · intro L vs wq hL hA hC hJ h91
                    rw [(show vs 91 = (.pointer (some ⟨g, j, none⟩)) from h91)]
                    unfold forAll
                    have q1 := hC.no (j := 15) (i := 13) (by kernel_rfl) hL
                    have q2 := hC.no (j := 17) (i := 13) (by kernel_rfl) hL
                    have K := Own.cast (qs := dat g n c d :: ps) hJ (by simp [q1, q2])
                    have t0 := K.rowAt 0 rfl (u := .int .u16 (vi : Nat)) (j := j) SI.out
                    have tl := (K.rowLt 0 rfl).1
                    exact StepV.val 92 (by kernel_rfl) (by go_simp) rfl (by simp [Act.put]) rfl rfl hJ
                  refine ⟨StepS.of [79, 80] (by kernel_rfl) ?_, ?_⟩
                  · intro L vs wq hL hA hC hJ h79 h80
                    rw [(show vs 79 = (.slice (some ⟨g, 0, none⟩) n c) from h79), (show vs 80 = (.int .i64 ((j : Nat) : Int)) from h80)]
                    unfold forAll
                    exact StepV.val 93 (by kernel_rfl) (by go_simp) rfl (by simp [Act.put]) rfl rfl hJ
                  refine ⟨StepS.of [93, 88] (by kernel_rfl) ?_, ?_⟩
                  · intro L vs wq hL hA hC hJ h93 h88
                    rw [(show vs 93 = (.pointer (some ⟨g, j, none⟩)) from h93), (show vs 88 = (.int .u16 (vj : Nat)) from h88)]
                    unfold forAll
                    cases q : L 17
                    · have K := Own.cast (qs := dat g n c d :: ps) hJ (by simp [hL, q])
                      have tl := (K.rowLt 0 rfl).1; have tf := (K.rowLt 0 rfl).2
                      have t0 := K.rowAt 0 rfl (j := j) SI.out
                      exact StepV.skip (by kernel_rfl) (by go_simp) rfl rfl ((K.setD (j) vj).cast (by simp [upd, q, SQ3.out]))
                    · have K := Own.cast (qs := dat g n c d2 :: ps) hJ (by simp [hL, q])
                      have tl := (K.rowLt 0 rfl).1; have tf := (K.rowLt 0 rfl).2
                      obtain ⟨u9, t0⟩ := K.someD (i := j) (by rw [← SQ4.out, Array.size_setIfInBounds]; exact SBI.out)
                      exact StepV.skip (by kernel_rfl) (by go_simp) rfl rfl ((K.setD (j) vj).cast (by simp [upd, q, SQ6.out]))
                  refine ⟨StepS.of [81, 83] (by kernel_rfl) ?_, ?_⟩
                  · intro L vs wq hL hA hC hJ h81 h83
                    rw [(show vs 81 = (.slice (some ⟨g, 0, none⟩) n c) from h81), (show vs 83 = (.int .i64 ((jm : Nat) : Int)) from h83)]
                    unfold forAll
                    exact StepV.val 94 (by kernel_rfl) (by go_simp) rfl (by simp [Act.put]) rfl rfl hJ
                  refine ⟨StepS.of [94, 92] (by kernel_rfl) ?_, ?_⟩
                  · intro L vs wq hL hA hC hJ h94 h92
                    rw [(show vs 94 = (.pointer (some ⟨g, jm, none⟩)) from h94), (show vs 92 = (.int .u16 (vi : Nat)) from h92)]
                    unfold forAll
                    cases q : L 15
                    · have K := Own.cast (qs := dat g n c d :: ps) hJ (by simp [hL, q])
                      have tl := (K.rowLt 0 rfl).1; have tf := (K.rowLt 0 rfl).2
                      have t0 := K.rowAt 0 rfl (j := jm) SJ.out
                      exact StepV.skip (by kernel_rfl) (by go_simp) rfl rfl ((K.setD (jm) vi).cast (by simp [upd, q, SQ4.out]))
                    · have K := Own.cast (qs := dat g n c d1 :: ps) hJ (by simp [hL, q])
                      have tl := (K.rowLt 0 rfl).1; have tf := (K.rowLt 0 rfl).2
                      obtain ⟨u9, t0⟩ := K.someD (i := jm) (by rw [← SQ3.out, Array.size_setIfInBounds]; exact SBJ.out)
                      exact StepV.skip (by kernel_rfl) (by go_simp) rfl rfl ((K.setD (jm) vi).cast (by simp [upd, q, SQ5.out]))
                  exact trivial
                · intro vs wJ7 hJ h79 h80 h81 h82 h83 h84 h85 h86 h87 h88 h89 h90 h91 h92 h93 h94
                  rw [(show vs 79 = (.slice (some ⟨g, 0, none⟩) n c) from h79), (show vs 80 = (.int .i64 ((j : Nat) : Int)) from h80), (show vs 81 = (.slice (some ⟨g, 0, none⟩) n c) from h81), (show vs 82 = (.int .i64 ((j : Nat) : Int)) from h82), (show vs 83 = (.int .i64 ((jm : Nat) : Int)) from h83), (show vs 84 = (.slice (some ⟨g, 0, none⟩) n c) from h84), (show vs 85 = (.int .i64 ((j : Nat) : Int)) from h85), (show vs 86 = (.int .i64 ((jm : Nat) : Int)) from h86), (show vs 87 = (.pointer (some ⟨g, jm, none⟩)) from h87), (show vs 88 = (.int .u16 (vj : Nat)) from h88), (show vs 89 = (.slice (some ⟨g, 0, none⟩) n c) from h89), (show vs 90 = (.int .i64 ((j : Nat) : Int)) from h90), (show vs 91 = (.pointer (some ⟨g, j, none⟩)) from h91), (show vs 92 = (.int .u16 (vi : Nat)) from h92), (show vs 93 = (.pointer (some ⟨g, j, none⟩)) from h93), (show vs 94 = (.pointer (some ⟨g, jm, none⟩)) from h94)]
                  clear h79 h80 h81 h82 h83 h84 h85 h86 h87 h88 h89 h90 h91 h92 h93 h94
                  have J7 := Lib.hid (Own.cast (qs := dat g n c dn :: ps) hJ rfl)
                  clear hJ
                  unfold forAll
                  simp only [Act.put, List.setIfInBounds_toArray, List.set_cons_zero, List.set_cons_succ]
                  go_wp2_with fail
                  go_roundg (jm)
                  case measure => have := JQ.out; have := HJM.out; omega
                  case rel => exact ⟨jm, by have := HJM.out; omega, by go_num, dn, HE.out, SZ.out.trans J1.out, rfl, J7.out⟩
          case rest =>
            obtain ⟨rfl, S6⟩ := hcut
            have HSB := Lib.hid (show dB.size = n by rw [HDB.out]; split; exact (su_size _ _ _).trans HSA.out; exact HSA.out)
            by_cases hB : 2 ≤ BX
            case neg => as_aux_lemma =>
              have hB2 : ¬ (2 : Int) ≤ (BX : Int) := by omega
              have HE := Lib.hid (show dB = dA by rw [HDB.out, if_neg hB])
              go_wp2_with fail
              go_roundg s
              case measure => have := IQ.out; have := HS.out; omega
              case rel => exact ⟨k + 1, x, by have := HXL.out; omega, rfl, by go_num, dB, by rw [show 5 - (k + 1) = s by have := HS.out; omega]; exact HF.out, HSB.out, by have := HS.out; omega, by rw [HE.out]; exact S6.out⟩
            as_aux_lemma =>
            have hB2 : (2 : Int) ≤ (BX : Int) := by omega
            have zx1 : IntKind.i64.wrap ((x : Int) + 1) = ((x + 1 : Nat) : Int) := by rw [show (x : Int) + 1 = ((x + 1 : Nat) : Int) by omega]; exact IntWalk.i64_in _ (by omega)
            have HE0 := Lib.hid (show dB = Sort.shiftUp ltN b (x + 1) dA by rw [HDB.out, if_pos hB])
            clear HDA HDB hB
            go_wp2_with fail
            go_loopg [10] (b + 1 - (x + 1)) (fun q u wr => ∃ j : Nat, (1 ≤ j ∧ j ≤ b) ∧ u = .int .i64 ((j : Nat) : Int) ∧ Hid (∃ d, dB = Sort.shiftUp ltN b (j) d ∧ d.size = n ∧ q = b + 1 - j ∧ Own w0 wr (dat g n c d :: ps)))
            case atStart => exact ⟨x + 1, by have := HXL.out; omega, by go_num, dA, HE0.out, HSA.out, rfl, S6.out⟩
            case round =>
              obtain ⟨j, hj, rfl, hJ⟩ := hrel
              obtain ⟨d, q1, q2, q3, q4⟩ := hJ.out
              have J0 := Lib.hid q1
              have J1 := Lib.hid q2
              have JQ := Lib.hid q3
              have J2 := Lib.hid q4
              have hsz : d.size = n := q2
              clear hJ q1 q2 q3 q4
              by_cases hcj : j < b
              case neg => as_aux_lemma =>
                have hcj2 : ¬ (j : Int) < (b : Int) := by omega
                have HE := Lib.hid (show dB = d by rw [J0.out]; exact su_end hcj)
                clear hsz
                go_wp2_with fail
                go_roundg s
                case measure => have := IQ.out; have := HS.out; omega
                case rel => exact ⟨k + 1, x, by have := HXL.out; omega, rfl, by go_num, dB, by rw [show 5 - (k + 1) = s by have := HS.out; omega]; exact HF.out, HSB.out, by have := HS.out; omega, by rw [HE.out]; exact J2.out⟩
              as_aux_lemma =>
              have hcj2 : (j : Int) < (b : Int) := by omega
              have hjn : (j : Int) < (n : Int) := by omega
              obtain ⟨jm, hjm⟩ : ∃ jm, jm = j - 1 := ⟨_, rfl⟩
              have zj : (j : Int) - 1 = (jm : Int) := by omega
              have zw : IntKind.i64.wrap (jm : Int) = (jm : Int) := IntWalk.i64_in _ (by omega)
              have hjc : (jm : Int) < (n : Int) := by omega
              have zn : IntKind.i64.wrap ((j : Int) + 1) = ((j + 1 : Nat) : Int) := by rw [show (j : Int) + 1 = ((j + 1 : Nat) : Int) by omega]; exact IntWalk.i64_in _ (by omega)
              have HST := Lib.hid (show dB = if ltN d[j]! d[jm]! = true then Sort.shiftUp ltN b (j + 1) (Sort.swp d j jm) else d by rw [J0.out]; exact su_step hcj hjm)
              have HJM := Lib.hid hjm
              have FA := Lib.hid (fun x : OwnOf w0 (dat g n c d :: ps) => x.own.rowAt (g := g) 0 rfl (at_arr (d := d) (i := j) (by omega) rfl))
              have FB := Lib.hid (fun x : OwnOf w0 (dat g n c d :: ps) => x.own.rowAt (g := g) 0 rfl (at_arr (d := d) (i := jm) (by omega) rfl))
              obtain ⟨vi, vj, d1, d2, dn, sq1, sq2, sq3, sq4, sq5, sq6, sq7⟩ := swp_vars d (j) (jm)
              have SI := Lib.hid (at_arr (d := d) (i := j) (by omega) sq1)
              have SJ := Lib.hid (at_arr (d := d) (i := jm) (by omega) sq2)
              have SBI := Lib.hid (show j < d.size by omega)
              have SBJ := Lib.hid (show jm < d.size by omega)
              have SQ3 := Lib.hid sq3
              have SQ4 := Lib.hid sq4
              have SQ5 := Lib.hid sq5
              have SQ6 := Lib.hid sq6
              have SQ7 := Lib.hid sq7
              have SZ := Lib.hid (show dn.size = d.size by rw [← sq7]; exact swp_size _ _ _)
              clear sq1 sq2 sq3 sq4 sq5 sq6 sq7
              generalize d[j]! = x1 at *
              generalize d[jm]! = x2 at *
              have fa := FA.out
              have fb := FB.out
              have KL := Lib.hid (fun W1 => less_any x1 x2 W1)
              have hne : Nonempty (OwnOf w0 (dat g n c d :: ps)) := ⟨⟨_, J2.out⟩⟩
              clear FA FB hjm hsz
              go_upto_region 22 with (fail)
              cases hl : ltN x1 x2
              · as_aux_lemma =>
                rw [hl] at KL HST
                have HE := Lib.hid (show dB = d from HST.out)
                clear hl HST SI SJ SQ3 SQ4 SQ5 SQ6 SQ7 SZ SBI SBJ
                refine wp_region_own J2.out (by kernel_rfl) (by kernel_rfl) ?_
                iterate 9 (go_big_quiet_step (fail))
                go_big_quiet_step ((go_at_call 111; exact own_same (KL.out _)))
                iterate 1 (go_big_quiet_step (fail))
                refine wpQuiet_nil ?_
                rintro wJ6 ⟨z, hz⟩
                have J6 := Lib.hid (show Own w0 wJ6 (dat g n c d :: ps) by rw [hz]; exact z.own)
                clear hz z J2 fa fb hne KL
                go_wp2_with fail
                go_roundg s
                case measure => have := IQ.out; have := HS.out; omega
                case rel => exact ⟨k + 1, x, by have := HXL.out; omega, rfl, by go_num, dB, by rw [show 5 - (k + 1) = s by have := HS.out; omega]; exact HF.out, HSB.out, by have := HS.out; omega, by rw [HE.out]; exact J6.out⟩
              · as_aux_lemma =>
                rw [hl] at KL HST
                have HE := Lib.hid (show dB = Sort.shiftUp ltN b (j + 1) dn by rw [← SQ7.out]; exact HST.out)
                clear hl HST
                refine wp_region_own J2.out (by kernel_rfl) (by kernel_rfl) ?_
                iterate 9 (go_big_quiet_step (fail))
                go_big_quiet_step ((go_at_call 111; exact own_same (KL.out _)))
                iterate 1 (go_big_quiet_step (fail))
                refine wpQuiet_nil ?_
                rintro wJ6 ⟨z, hz⟩
                have J6 := Lib.hid (show Own w0 wJ6 (dat g n c d :: ps) by rw [hz]; exact z.own)
                clear hz z J2 fa fb hne KL
                go_upto_region 23 with (fail)
                refine wp_region_state 133 [(117, (.slice (some ⟨g, 0, none⟩) n c)), (118, (.int .i64 ((j : Nat) : Int))), (119, (.slice (some ⟨g, 0, none⟩) n c)), (120, (.int .i64 ((j : Nat) : Int))), (121, (.int .i64 ((jm : Nat) : Int))), (122, (.slice (some ⟨g, 0, none⟩) n c)), (123, (.int .i64 ((j : Nat) : Int))), (124, (.int .i64 ((jm : Nat) : Int))), (125, (.pointer (some ⟨g, jm, none⟩))), (126, (.int .u16 (vj : Nat))), (127, (.slice (some ⟨g, 0, none⟩) n c)), (128, (.int .i64 ((j : Nat) : Int))), (129, (.pointer (some ⟨g, j, none⟩))), (130, (.int .u16 (vi : Nat))), (131, (.pointer (some ⟨g, j, none⟩))), (132, (.pointer (some ⟨g, jm, none⟩)))] (fun L vs w' => Own w0 w' (dat g n c (cond (L 15) (cond (L 17) dn d1) (cond (L 17) d2 d)) :: ps)) (by kernel_rfl) (by kernel_rfl) [117, 118, 119, 120, 121, 122, 123, 124, 125, 126, 127, 128, 129, 130, 131, 132] (by kernel_rfl) rfl (by kernel_rfl) 18 rfl ?_ ?_ ?_
                · exact fun L hL => (J6.out.ext (Below.refl _ _).drew).cast (by simp [hL 15 (by decide), hL 17 (by decide)])
                · refine ⟨StepS.of [] (by kernel_rfl) ?_, ?_⟩
                  · intro L vs wq hL hA hC hJ
                    unfold forAll
                    exact StepV.val 117 (by kernel_rfl) (by kernel_rfl) rfl (by simp) rfl rfl hJ
                  refine ⟨StepS.of [] (by kernel_rfl) ?_, ?_⟩
                  · intro L vs wq hL hA hC hJ
                    unfold forAll
                    exact StepV.val 118 (by kernel_rfl) (by kernel_rfl) rfl (by simp) rfl rfl hJ
                  refine ⟨StepS.of [] (by kernel_rfl) ?_, ?_⟩
                  · intro L vs wq hL hA hC hJ
                    unfold forAll
                    exact StepV.val 119 (by kernel_rfl) (by kernel_rfl) rfl (by simp) rfl rfl hJ
                  refine ⟨StepS.of [] (by kernel_rfl) ?_, ?_⟩
                  · intro L vs wq hL hA hC hJ
                    unfold forAll
                    exact StepV.val 120 (by kernel_rfl) (by kernel_rfl) rfl (by simp) rfl rfl hJ
                  refine ⟨StepS.of [120] (by kernel_rfl) ?_, ?_⟩
                  · intro L vs wq hL hA hC hJ h120
                    rw [(show vs 120 = (.int .i64 ((j : Nat) : Int)) from h120)]
                    unfold forAll
                    exact StepV.val 121 (by kernel_rfl) (by go_simp) rfl (by simp [Act.put]) rfl rfl hJ
                  refine ⟨StepS.of [] (by kernel_rfl) ?_, ?_⟩
                  · intro L vs wq hL hA hC hJ
                    unfold forAll
                    exact StepV.val 122 (by kernel_rfl) (by kernel_rfl) rfl (by simp) rfl rfl hJ
                  refine ⟨StepS.of [] (by kernel_rfl) ?_, ?_⟩
                  · intro L vs wq hL hA hC hJ
                    unfold forAll
                    exact StepV.val 123 (by kernel_rfl) (by kernel_rfl) rfl (by simp) rfl rfl hJ
                  refine ⟨StepS.of [123] (by kernel_rfl) ?_, ?_⟩
                  · intro L vs wq hL hA hC hJ h123
                    rw [(show vs 123 = (.int .i64 ((j : Nat) : Int)) from h123)]
                    unfold forAll
                    exact StepV.val 124 (by kernel_rfl) (by go_simp) rfl (by simp [Act.put]) rfl rfl hJ
                  refine ⟨StepS.of [122, 124] (by kernel_rfl) ?_, ?_⟩
                  · intro L vs wq hL hA hC hJ h122 h124
                    rw [(show vs 122 = (.slice (some ⟨g, 0, none⟩) n c) from h122), (show vs 124 = (.int .i64 ((jm : Nat) : Int)) from h124)]
                    unfold forAll
                    exact StepV.val 125 (by kernel_rfl) (by go_simp) rfl (by simp [Act.put]) rfl rfl hJ
                  refine ⟨StepS.of [125] (by kernel_rfl) ?_, ?_⟩
                  · intro L vs wq hL hA hC hJ h125
                    rw [(show vs 125 = (.pointer (some ⟨g, jm, none⟩)) from h125)]
                    unfold forAll
                    have q1 := hC.no (j := 15) (i := 9) (by kernel_rfl) hL
                    have q2 := hC.no (j := 17) (i := 9) (by kernel_rfl) hL
                    have K := Own.cast (qs := dat g n c d :: ps) hJ (by simp [q1, q2])
                    have t0 := K.rowAt 0 rfl (u := .int .u16 (vj : Nat)) (j := jm) SJ.out
                    have tl := (K.rowLt 0 rfl).1
                    exact StepV.val 126 (by kernel_rfl) (by go_simp) rfl (by simp [Act.put]) rfl rfl hJ
                  refine ⟨StepS.of [] (by kernel_rfl) ?_, ?_⟩
                  · intro L vs wq hL hA hC hJ
                    unfold forAll
                    exact StepV.val 127 (by kernel_rfl) (by kernel_rfl) rfl (by simp) rfl rfl hJ
                  refine ⟨StepS.of [] (by kernel_rfl) ?_, ?_⟩
                  · intro L vs wq hL hA hC hJ
                    unfold forAll
                    exact StepV.val 128 (by kernel_rfl) (by kernel_rfl) rfl (by simp) rfl rfl hJ
                  refine ⟨StepS.of [127, 128] (by kernel_rfl) ?_, ?_⟩
                  · intro L vs wq hL hA hC hJ h127 h128
                    rw [(show vs 127 = (.slice (some ⟨g, 0, none⟩) n c) from h127), (show vs 128 = (.int .i64 ((j : Nat) : Int)) from h128)]
                    unfold forAll
                    exact StepV.val 129 (by kernel_rfl) (by go_simp) rfl (by simp [Act.put]) rfl rfl hJ
                  refine ⟨StepS.of [129] (by kernel_rfl) ?_, ?_⟩
                  · intro L vs wq hL hA hC hJ h129
                    rw [(show vs 129 = (.pointer (some ⟨g, j, none⟩)) from h129)]
                    unfold forAll
                    have q1 := hC.no (j := 15) (i := 13) (by kernel_rfl) hL
                    have q2 := hC.no (j := 17) (i := 13) (by kernel_rfl) hL
                    have K := Own.cast (qs := dat g n c d :: ps) hJ (by simp [q1, q2])
                    have t0 := K.rowAt 0 rfl (u := .int .u16 (vi : Nat)) (j := j) SI.out
                    have tl := (K.rowLt 0 rfl).1
                    exact StepV.val 130 (by kernel_rfl) (by go_simp) rfl (by simp [Act.put]) rfl rfl hJ
                  refine ⟨StepS.of [117, 118] (by kernel_rfl) ?_, ?_⟩
                  · intro L vs wq hL hA hC hJ h117 h118
                    rw [(show vs 117 = (.slice (some ⟨g, 0, none⟩) n c) from h117), (show vs 118 = (.int .i64 ((j : Nat) : Int)) from h118)]
                    unfold forAll
                    exact StepV.val 131 (by kernel_rfl) (by go_simp) rfl (by simp [Act.put]) rfl rfl hJ
                  refine ⟨StepS.of [131, 126] (by kernel_rfl) ?_, ?_⟩
                  · intro L vs wq hL hA hC hJ h131 h126
                    rw [(show vs 131 = (.pointer (some ⟨g, j, none⟩)) from h131), (show vs 126 = (.int .u16 (vj : Nat)) from h126)]
                    unfold forAll
                    cases q : L 17
                    · have K := Own.cast (qs := dat g n c d :: ps) hJ (by simp [hL, q])
                      have tl := (K.rowLt 0 rfl).1; have tf := (K.rowLt 0 rfl).2
                      have t0 := K.rowAt 0 rfl (j := j) SI.out
                      exact StepV.skip (by kernel_rfl) (by go_simp) rfl rfl ((K.setD (j) vj).cast (by simp [upd, q, SQ3.out]))
                    · have K := Own.cast (qs := dat g n c d2 :: ps) hJ (by simp [hL, q])
                      have tl := (K.rowLt 0 rfl).1; have tf := (K.rowLt 0 rfl).2
                      obtain ⟨u9, t0⟩ := K.someD (i := j) (by rw [← SQ4.out, Array.size_setIfInBounds]; exact SBI.out)
                      exact StepV.skip (by kernel_rfl) (by go_simp) rfl rfl ((K.setD (j) vj).cast (by simp [upd, q, SQ6.out]))
                  refine ⟨StepS.of [119, 121] (by kernel_rfl) ?_, ?_⟩
                  · intro L vs wq hL hA hC hJ h119 h121
                    rw [(show vs 119 = (.slice (some ⟨g, 0, none⟩) n c) from h119), (show vs 121 = (.int .i64 ((jm : Nat) : Int)) from h121)]
                    unfold forAll
                    exact StepV.val 132 (by kernel_rfl) (by go_simp) rfl (by simp [Act.put]) rfl rfl hJ
                  refine ⟨StepS.of [132, 130] (by kernel_rfl) ?_, ?_⟩
                  · intro L vs wq hL hA hC hJ h132 h130
                    rw [(show vs 132 = (.pointer (some ⟨g, jm, none⟩)) from h132), (show vs 130 = (.int .u16 (vi : Nat)) from h130)]
                    unfold forAll
                    cases q : L 15
                    · have K := Own.cast (qs := dat g n c d :: ps) hJ (by simp [hL, q])
                      have tl := (K.rowLt 0 rfl).1; have tf := (K.rowLt 0 rfl).2
                      have t0 := K.rowAt 0 rfl (j := jm) SJ.out
                      exact StepV.skip (by kernel_rfl) (by go_simp) rfl rfl ((K.setD (jm) vi).cast (by simp [upd, q, SQ4.out]))
                    · have K := Own.cast (qs := dat g n c d1 :: ps) hJ (by simp [hL, q])
                      have tl := (K.rowLt 0 rfl).1; have tf := (K.rowLt 0 rfl).2
                      obtain ⟨u9, t0⟩ := K.someD (i := jm) (by rw [← SQ3.out, Array.size_setIfInBounds]; exact SBJ.out)
                      exact StepV.skip (by kernel_rfl) (by go_simp) rfl rfl ((K.setD (jm) vi).cast (by simp [upd, q, SQ5.out]))
                  exact trivial
                · intro vs wJ7 hJ h117 h118 h119 h120 h121 h122 h123 h124 h125 h126 h127 h128 h129 h130 h131 h132
                  rw [(show vs 117 = (.slice (some ⟨g, 0, none⟩) n c) from h117), (show vs 118 = (.int .i64 ((j : Nat) : Int)) from h118), (show vs 119 = (.slice (some ⟨g, 0, none⟩) n c) from h119), (show vs 120 = (.int .i64 ((j : Nat) : Int)) from h120), (show vs 121 = (.int .i64 ((jm : Nat) : Int)) from h121), (show vs 122 = (.slice (some ⟨g, 0, none⟩) n c) from h122), (show vs 123 = (.int .i64 ((j : Nat) : Int)) from h123), (show vs 124 = (.int .i64 ((jm : Nat) : Int)) from h124), (show vs 125 = (.pointer (some ⟨g, jm, none⟩)) from h125), (show vs 126 = (.int .u16 (vj : Nat)) from h126), (show vs 127 = (.slice (some ⟨g, 0, none⟩) n c) from h127), (show vs 128 = (.int .i64 ((j : Nat) : Int)) from h128), (show vs 129 = (.pointer (some ⟨g, j, none⟩)) from h129), (show vs 130 = (.int .u16 (vi : Nat)) from h130), (show vs 131 = (.pointer (some ⟨g, j, none⟩)) from h131), (show vs 132 = (.pointer (some ⟨g, jm, none⟩)) from h132)]
                  clear h117 h118 h119 h120 h121 h122 h123 h124 h125 h126 h127 h128 h129 h130 h131 h132
                  have J7 := Lib.hid (Own.cast (qs := dat g n c dn :: ps) hJ rfl)
                  clear hJ
                  unfold forAll
                  simp only [Act.put, List.setIfInBounds_toArray, List.set_cons_zero, List.set_cons_succ]
                  go_wp2_with fail
                  go_roundg (b + 1 - (j + 1))
                  case measure => have := JQ.out; have := HJM.out; omega
                  case rel => exact ⟨j + 1, by have := HJM.out; omega, by go_num, dn, HE.out, SZ.out.trans J1.out, rfl, J7.out⟩
end Go.Proofs.YtnienfgaidccpaaDoor
