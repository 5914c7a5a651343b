/- Words: heap sort. No condition. -/
import Derived.Test.YtnienfgaidccpaaDoorRb
namespace Go.Proofs.YtnienfgaidccpaaDoor
open Go.RowKit Go.Shelf
attribute [local go_sem] Oper.semAt_some

theorem sift_size (hi f : Nat) : ∀ (m r : Nat) (d : Array Nat), hi - r ≤ m → (Sort.siftDown ltN hi f r d).size = d.size
  | m, r, d, h => by
    by_cases h1 : 2 * r + 1 < hi
    · by_cases h2 : 2 * r + 2 < hi ∧ ltN d[f + (2 * r + 1)]! d[f + (2 * r + 2)]! = true
      · rw [sd_right h2.1 h2.2]
        split
        · cases m with
          | zero => omega
          | succ m => rw [sift_size hi f m _ _ (by omega), swp_size]
        · rfl
      · rw [sd_left h1 (by
          by_cases h3 : 2 * r + 2 < hi
          · right
            cases e : ltN d[f + (2 * r + 1)]! d[f + (2 * r + 2)]!
            · rfl
            · exact absurd ⟨h3, e⟩ h2
          · exact .inl h3)]
        split
        · cases m with
          | zero => omega
          | succ m => rw [sift_size hi f m _ _ (by omega), swp_size]
        · rfl
    · rw [sd_end (by omega)]
set_option maxRecDepth 100000 in
set_option maxHeartbeats 8000000 in
theorem heapSort_any (w0 : World) (ps : List Piece) (g n c : Nat) (d : Array Nat) (W : World) (hO : Own w0 W (dat g n c d :: ps)) (a b : Nat) (hd : d.size = n) (hab : a < b) (hbn : b ≤ n) (hn : n ≤ 1000000) :
    Calls Tryd.prog 106 #[.slice (some ⟨g, 0, none⟩) n c, .int .i64 (a : Nat), .int .i64 (b : Nat)] W fun e w' => e = .returned (.tuple #[]) ∧ Own w0 w' (dat g n c (Sort.heapSort ltN d a b) :: ps) := by
  have S0 := Lib.hid hO
  have HD := Lib.hid hd
  obtain ⟨R, hR⟩ : ∃ R, R = Sort.heapSort ltN d a b := ⟨_, rfl⟩
  rw [← hR]
  obtain ⟨hi, hhi⟩ : ∃ hi, hi = b - a := ⟨_, rfl⟩
  have H0 := Lib.hid (show R = Sort.heapPop ltN a hi (Sort.heapBuild ltN hi a ((hi - 1) / 2 + 1) d) by rw [hR, Sort.heapSort, hhi])
  have zb : (b : Int) - (a : Int) = (hi : Int) := by omega
  have zbw : IntKind.i64.wrap (hi : Int) = (hi : Int) := IntWalk.i64_in _ (by omega)
  have z1 : IntKind.i64.wrap ((hi : Int) - 1) = ((hi - 1 : Nat) : Int) := by rw [show (hi : Int) - 1 = ((hi - 1 : Nat) : Int) by omega]; exact IntWalk.i64_in _ (by omega)
  have z2 : (((hi - 1 : Nat)) : Int).tdiv 2 = (((hi - 1) / 2 : Nat) : Int) := by rw [Int.tdiv_eq_ediv_of_nonneg (by omega)]; omega
  obtain ⟨h1, hh1⟩ : ∃ h1, h1 = hi - 1 := ⟨_, rfl⟩
  obtain ⟨h2, hh2⟩ : ∃ h2, h2 = h1 / 2 := ⟨_, rfl⟩
  rw [← hh1] at z1 z2 H0
  rw [← hh2] at z2 H0
  have z3 : IntKind.i64.wrap (h2 : Int) = (h2 : Int) := IntWalk.i64_in _ (by omega)
  have hh2b : h2 < hi := by omega
  have hah : a + hi ≤ n := by omega
  have HH := Lib.hid hh1
  clear hO hd hR hhi hh2 hh1
  go_enter Tryd.func106, Tryd.ntmps106
  go_wp2_with fail
  go_loopg [9] (h2 + 1) (fun q u9 wr => ∃ (k : Nat) (z : Int), (k ≤ hi ∧ z = (k : Int) - 1) ∧ u9 = .int .i64 z ∧ Hid (∃ d, R = Sort.heapPop ltN a hi (Sort.heapBuild ltN hi a k d) ∧ d.size = n ∧ k = q ∧ Own w0 wr (dat g n c d :: ps)))
  case atStart => exact ⟨h2 + 1, (h2 : Int), by omega, rfl, d, H0.out, HD.out, rfl, S0.out⟩
  case round =>
    obtain ⟨k, z, ⟨hk, hz⟩, rfl, hI⟩ := hrel
    obtain ⟨d, q1, q2, q3, q4⟩ := hI.out
    have I0 := Lib.hid q1
    have I1 := Lib.hid q2
    have IQ := Lib.hid q3
    have I2 := Lib.hid q4
    clear hI q1 q2 q3 q4 S0 H0 HD
    rcases k with _ | m
    case succ => as_aux_lemma =>
      obtain rfl : z = (m : Int) := by omega
      clear hz
      have hm0 : (0 : Int) ≤ (m : Int) := by omega
      have K := Lib.hid (sift_any w0 ps g n c d wr I2.out m hi a I1.out (by omega) (by omega) hn)
      have HSZ := Lib.hid ((sift_size hi a hi m d (by omega)).trans I1.out)
      have HE := Lib.hid (show R = Sort.heapPop ltN a hi (Sort.heapBuild ltN hi a m (Sort.siftDown ltN hi a m d)) from I0.out)
      generalize Sort.siftDown ltN hi a m d = d9 at *
      have zm : IntKind.i64.wrap ((m : Int) - 1) = (m : Int) - 1 := IntWalk.i64_in _ (by omega)
      go_wp2_with fail
      refine K.out.mono ?_
      rintro e w5 ⟨rfl, hO5⟩
      have S5 := Lib.hid hO5
      clear hO5 K I2
      go_wp2_with fail
      go_roundg (gk - 1)
      case measure => have := IQ.out; omega
      case rel => exact ⟨m, (m : Int) - 1, by omega, rfl, d9, HE.out, HSZ.out, by have := IQ.out; omega, S5.out⟩
    obtain rfl : z = -1 := by omega
    have HE := Lib.hid (show R = Sort.heapPop ltN a hi d from I0.out)
    clear I0 IQ hk hz
    go_wp2_with fail
    go_loopg [10] hi (fun q u10 wr => ∃ (k : Nat) (z : Int), (k ≤ hi ∧ z = (k : Int) - 1) ∧ u10 = .int .i64 z ∧ Hid (∃ d, R = Sort.heapPop ltN a k d ∧ d.size = n ∧ k = q ∧ Own w0 wr (dat g n c d :: ps)))
    case atStart => exact ⟨hi, (h1 : Int), by have := HH.out; omega, rfl, d, HE.out, I1.out, rfl, I2.out⟩
    case round =>
      obtain ⟨k, z, ⟨hk, hz⟩, rfl, hJ⟩ := hrel
      obtain ⟨d, q1, q2, q3, q4⟩ := hJ.out
      have J0 := Lib.hid q1
      have J1 := Lib.hid q2
      have JQ := Lib.hid q3
      have J2 := Lib.hid q4
      have hsz : d.size = n := q2
      clear hJ q1 q2 q3 q4 I2 HE
      rcases k with _ | m
      case zero => as_aux_lemma =>
        obtain rfl : z = -1 := by omega
        have HF := Lib.hid (show R = d from J0.out)
        clear hsz hz
        go_wp2_with fail
        go_end0
        exact ⟨rfl, by rw [HF.out]; exact J2.out⟩
      as_aux_lemma =>
      obtain rfl : z = (m : Int) := by omega
      have hm0 : (0 : Int) ≤ (m : Int) := by omega
      have zm : IntKind.i64.wrap ((m : Int) - 1) = (m : Int) - 1 := IntWalk.i64_in _ (by omega)
      obtain ⟨pm, hpm⟩ : ∃ pm, pm = a + m := ⟨_, rfl⟩
      have zp : (a : Int) + (m : Int) = (pm : Int) := by omega
      have zpw : IntKind.i64.wrap (pm : Int) = (pm : Int) := IntWalk.i64_in _ (by omega)
      have hpn : (pm : Int) < (n : Int) := by omega
      have han : (a : Int) < (n : Int) := by omega
      obtain ⟨vi, vj, d1, d2, dn, sq1, sq2, sq3, sq4, sq5, sq6, sq7⟩ := swp_vars d (a) (pm)
      have SI := Lib.hid (at_arr (d := d) (i := a) (by omega) sq1)
      have SJ := Lib.hid (at_arr (d := d) (i := pm) (by omega) sq2)
      have SBI := Lib.hid (show a < d.size by omega)
      have SBJ := Lib.hid (show pm < d.size by omega)
      have SQ3 := Lib.hid sq3
      have SQ4 := Lib.hid sq4
      have SQ5 := Lib.hid sq5
      have SQ6 := Lib.hid sq6
      have SQ7 := Lib.hid sq7
      have SZ := Lib.hid (show dn.size = d.size by rw [← sq7]; exact swp_size _ _ _)
      clear sq1 sq2 sq3 sq4 sq5 sq6 sq7
      have HF := Lib.hid (show R = Sort.heapPop ltN a m (Sort.siftDown ltN m a 0 dn) by rw [J0.out, ← SQ7.out, hpm]; rfl)
      have HMH := Lib.hid (show m ≤ hi by omega)
      clear hsz hpm hz
      go_upto_region 10 with (fail)
      refine wp_region_state 56 [(33, (.slice (some ⟨g, 0, none⟩) n c)), (34, (.int .i64 ((a : Nat) : Int))), (35, (.slice (some ⟨g, 0, none⟩) n c)), (36, (.int .i64 ((a : Nat) : Int))), (37, (.int .i64 ((m : Nat) : Int))), (38, (.int .i64 ((pm : Nat) : Int))), (39, (.slice (some ⟨g, 0, none⟩) n c)), (40, (.int .i64 ((a : Nat) : Int))), (41, (.int .i64 ((m : Nat) : Int))), (42, (.int .i64 ((pm : Nat) : Int))), (43, (.pointer (some ⟨g, pm, none⟩))), (44, (.int .u16 (vj : Nat))), (45, (.slice (some ⟨g, 0, none⟩) n c)), (46, (.int .i64 ((a : Nat) : Int))), (47, (.pointer (some ⟨g, a, none⟩))), (48, (.int .u16 (vi : Nat))), (49, (.pointer (some ⟨g, a, none⟩))), (50, (.pointer (some ⟨g, pm, none⟩)))] (fun L vs w' => Own w0 w' (dat g n c (cond (L 17) (cond (L 19) dn d1) (cond (L 19) d2 d)) :: ps)) (by kernel_rfl) (by kernel_rfl) [33, 34, 35, 36, 37, 38, 39, 40, 41, 42, 43, 44, 45, 46, 47, 48, 49, 50] (by kernel_rfl) rfl (by kernel_rfl) 20 rfl ?_ ?_ ?_
      · exact fun L hL => (J2.out.ext (Below.refl _ _).drew).cast (by simp [hL 17 (by decide), hL 19 (by decide)])
      · refine ⟨StepS.of [] (by kernel_rfl) ?_, ?_⟩
        · intro L vs wq hL hA hC hJ
          unfold forAll
          exact StepV.val 33 (by kernel_rfl) (by kernel_rfl) rfl (by simp) rfl rfl hJ
        refine ⟨StepS.of [] (by kernel_rfl) ?_, ?_⟩
        · intro L vs wq hL hA hC hJ
          unfold forAll
          exact StepV.val 34 (by kernel_rfl) (by kernel_rfl) rfl (by simp) rfl rfl hJ
        refine ⟨StepS.of [] (by kernel_rfl) ?_, ?_⟩
        · intro L vs wq hL hA hC hJ
          unfold forAll
          exact StepV.val 35 (by kernel_rfl) (by kernel_rfl) rfl (by simp) rfl rfl hJ
        refine ⟨StepS.of [] (by kernel_rfl) ?_, ?_⟩
        · intro L vs wq hL hA hC hJ
          unfold forAll
          exact StepV.val 36 (by kernel_rfl) (by kernel_rfl) rfl (by simp) rfl rfl hJ
        refine ⟨StepS.of [] (by kernel_rfl) ?_, ?_⟩
        · intro L vs wq hL hA hC hJ
          unfold forAll
          exact StepV.val 37 (by kernel_rfl) (by kernel_rfl) rfl (by simp) rfl rfl hJ
        refine ⟨StepS.of [36, 37] (by kernel_rfl) ?_, ?_⟩
        · intro L vs wq hL hA hC hJ h36 h37
          rw [(show vs 36 = (.int .i64 ((a : Nat) : Int)) from h36), (show vs 37 = (.int .i64 ((m : Nat) : Int)) from h37)]
          unfold forAll
          exact StepV.val 38 (by kernel_rfl) (by go_simp) rfl (by simp [Act.put]) rfl rfl hJ
        refine ⟨StepS.of [] (by kernel_rfl) ?_, ?_⟩
        · intro L vs wq hL hA hC hJ
          unfold forAll
          exact StepV.val 39 (by kernel_rfl) (by kernel_rfl) rfl (by simp) rfl rfl hJ
        refine ⟨StepS.of [] (by kernel_rfl) ?_, ?_⟩
        · intro L vs wq hL hA hC hJ
          unfold forAll
          exact StepV.val 40 (by kernel_rfl) (by kernel_rfl) rfl (by simp) rfl rfl hJ
        refine ⟨StepS.of [] (by kernel_rfl) ?_, ?_⟩
        · intro L vs wq hL hA hC hJ
          unfold forAll
          exact StepV.val 41 (by kernel_rfl) (by kernel_rfl) rfl (by simp) rfl rfl hJ
        refine ⟨StepS.of [40, 41] (by kernel_rfl) ?_, ?_⟩
        · intro L vs wq hL hA hC hJ h40 h41
          rw [(show vs 40 = (.int .i64 ((a : Nat) : Int)) from h40), (show vs 41 = (.int .i64 ((m : Nat) : Int)) from h41)]
          unfold forAll
          exact StepV.val 42 (by kernel_rfl) (by go_simp) rfl (by simp [Act.put]) rfl rfl hJ
        refine ⟨StepS.of [39, 42] (by kernel_rfl) ?_, ?_⟩
        · intro L vs wq hL hA hC hJ h39 h42
          rw [(show vs 39 = (.slice (some ⟨g, 0, none⟩) n c) from h39), (show vs 42 = (.int .i64 ((pm : Nat) : Int)) from h42)]
          unfold forAll
          exact StepV.val 43 (by kernel_rfl) (by go_simp) rfl (by simp [Act.put]) rfl rfl hJ
        refine ⟨StepS.of [43] (by kernel_rfl) ?_, ?_⟩
        · intro L vs wq hL hA hC hJ h43
          rw [(show vs 43 = (.pointer (some ⟨g, pm, none⟩)) from h43)]
          unfold forAll
          have q1 := hC.no (j := 17) (i := 11) (by kernel_rfl) hL
          have q2 := hC.no (j := 19) (i := 11) (by kernel_rfl) hL
          have K := Own.cast (qs := dat g n c d :: ps) hJ (by simp [q1, q2])
          have t0 := K.rowAt 0 rfl (u := .int .u16 (vj : Nat)) (j := pm) SJ.out
          have tl := (K.rowLt 0 rfl).1
          exact StepV.val 44 (by kernel_rfl) (by go_simp) rfl (by simp [Act.put]) rfl rfl hJ
        refine ⟨StepS.of [] (by kernel_rfl) ?_, ?_⟩
        · intro L vs wq hL hA hC hJ
          unfold forAll
          exact StepV.val 45 (by kernel_rfl) (by kernel_rfl) rfl (by simp) rfl rfl hJ
        refine ⟨StepS.of [] (by kernel_rfl) ?_, ?_⟩
        · intro L vs wq hL hA hC hJ
          unfold forAll
          exact StepV.val 46 (by kernel_rfl) (by kernel_rfl) rfl (by simp) rfl rfl hJ
        refine ⟨StepS.of [45, 46] (by kernel_rfl) ?_, ?_⟩
        · intro L vs wq hL hA hC hJ h45 h46
          rw [(show vs 45 = (.slice (some ⟨g, 0, none⟩) n c) from h45), (show vs 46 = (.int .i64 ((a : Nat) : Int)) from h46)]
          unfold forAll
          exact StepV.val 47 (by kernel_rfl) (by go_simp) rfl (by simp [Act.put]) rfl rfl hJ
        refine ⟨StepS.of [47] (by kernel_rfl) ?_, ?_⟩
        · intro L vs wq hL hA hC hJ h47
          rw [(show vs 47 = (.pointer (some ⟨g, a, none⟩)) from h47)]
          unfold forAll
          have q1 := hC.no (j := 17) (i := 15) (by kernel_rfl) hL
          have q2 := hC.no (j := 19) (i := 15) (by kernel_rfl) hL
          have K := Own.cast (qs := dat g n c d :: ps) hJ (by simp [q1, q2])
          have t0 := K.rowAt 0 rfl (u := .int .u16 (vi : Nat)) (j := a) SI.out
          have tl := (K.rowLt 0 rfl).1
          exact StepV.val 48 (by kernel_rfl) (by go_simp) rfl (by simp [Act.put]) rfl rfl hJ
        refine ⟨StepS.of [33, 34] (by kernel_rfl) ?_, ?_⟩
        · intro L vs wq hL hA hC hJ h33 h34
          rw [(show vs 33 = (.slice (some ⟨g, 0, none⟩) n c) from h33), (show vs 34 = (.int .i64 ((a : Nat) : Int)) from h34)]
          unfold forAll
          exact StepV.val 49 (by kernel_rfl) (by go_simp) rfl (by simp [Act.put]) rfl rfl hJ
        refine ⟨StepS.of [49, 44] (by kernel_rfl) ?_, ?_⟩
        · intro L vs wq hL hA hC hJ h49 h44
          rw [(show vs 49 = (.pointer (some ⟨g, a, none⟩)) from h49), (show vs 44 = (.int .u16 (vj : Nat)) from h44)]
          unfold forAll
          cases q : L 19
          · have K := Own.cast (qs := dat g n c d :: ps) hJ (by simp [hL, q])
            have tl := (K.rowLt 0 rfl).1; have tf := (K.rowLt 0 rfl).2
            have t0 := K.rowAt 0 rfl (j := a) SI.out
            exact StepV.skip (by kernel_rfl) (by go_simp) rfl rfl ((K.setD (a) vj).cast (by simp [upd, q, SQ3.out]))
          · have K := Own.cast (qs := dat g n c d2 :: ps) hJ (by simp [hL, q])
            have tl := (K.rowLt 0 rfl).1; have tf := (K.rowLt 0 rfl).2
            obtain ⟨u9, t0⟩ := K.someD (i := a) (by rw [← SQ4.out, Array.size_setIfInBounds]; exact SBI.out)
            exact StepV.skip (by kernel_rfl) (by go_simp) rfl rfl ((K.setD (a) vj).cast (by simp [upd, q, SQ6.out]))
        refine ⟨StepS.of [35, 38] (by kernel_rfl) ?_, ?_⟩
        · intro L vs wq hL hA hC hJ h35 h38
          rw [(show vs 35 = (.slice (some ⟨g, 0, none⟩) n c) from h35), (show vs 38 = (.int .i64 ((pm : Nat) : Int)) from h38)]
          unfold forAll
          exact StepV.val 50 (by kernel_rfl) (by go_simp) rfl (by simp [Act.put]) rfl rfl hJ
        refine ⟨StepS.of [50, 48] (by kernel_rfl) ?_, ?_⟩
        · intro L vs wq hL hA hC hJ h50 h48
          rw [(show vs 50 = (.pointer (some ⟨g, pm, none⟩)) from h50), (show vs 48 = (.int .u16 (vi : Nat)) from h48)]
          unfold forAll
          cases q : L 17
          · have K := Own.cast (qs := dat g n c d :: ps) hJ (by simp [hL, q])
            have tl := (K.rowLt 0 rfl).1; have tf := (K.rowLt 0 rfl).2
            have t0 := K.rowAt 0 rfl (j := pm) SJ.out
            exact StepV.skip (by kernel_rfl) (by go_simp) rfl rfl ((K.setD (pm) vi).cast (by simp [upd, q, SQ4.out]))
          · have K := Own.cast (qs := dat g n c d1 :: ps) hJ (by simp [hL, q])
            have tl := (K.rowLt 0 rfl).1; have tf := (K.rowLt 0 rfl).2
            obtain ⟨u9, t0⟩ := K.someD (i := pm) (by rw [← SQ3.out, Array.size_setIfInBounds]; exact SBJ.out)
            exact StepV.skip (by kernel_rfl) (by go_simp) rfl rfl ((K.setD (pm) vi).cast (by simp [upd, q, SQ5.out]))
        exact trivial
      · intro vs wS7 hJ h33 h34 h35 h36 h37 h38 h39 h40 h41 h42 h43 h44 h45 h46 h47 h48 h49 h50
        rw [(show vs 33 = (.slice (some ⟨g, 0, none⟩) n c) from h33), (show vs 34 = (.int .i64 ((a : Nat) : Int)) from h34), (show vs 35 = (.slice (some ⟨g, 0, none⟩) n c) from h35), (show vs 36 = (.int .i64 ((a : Nat) : Int)) from h36), (show vs 37 = (.int .i64 ((m : Nat) : Int)) from h37), (show vs 38 = (.int .i64 ((pm : Nat) : Int)) from h38), (show vs 39 = (.slice (some ⟨g, 0, none⟩) n c) from h39), (show vs 40 = (.int .i64 ((a : Nat) : Int)) from h40), (show vs 41 = (.int .i64 ((m : Nat) : Int)) from h41), (show vs 42 = (.int .i64 ((pm : Nat) : Int)) from h42), (show vs 43 = (.pointer (some ⟨g, pm, none⟩)) from h43), (show vs 44 = (.int .u16 (vj : Nat)) from h44), (show vs 45 = (.slice (some ⟨g, 0, none⟩) n c) from h45), (show vs 46 = (.int .i64 ((a : Nat) : Int)) from h46), (show vs 47 = (.pointer (some ⟨g, a, none⟩)) from h47), (show vs 48 = (.int .u16 (vi : Nat)) from h48), (show vs 49 = (.pointer (some ⟨g, a, none⟩)) from h49), (show vs 50 = (.pointer (some ⟨g, pm, none⟩)) from h50)]
        clear h33 h34 h35 h36 h37 h38 h39 h40 h41 h42 h43 h44 h45 h46 h47 h48 h49 h50
        have S7 := Lib.hid (Own.cast (qs := dat g n c dn :: ps) hJ rfl)
        clear hJ
        unfold forAll
        simp only [Act.put, List.setIfInBounds_toArray, List.set_cons_zero, List.set_cons_succ]
        have HSZ := Lib.hid ((sift_size m a m 0 dn (by omega)).trans (SZ.out.trans J1.out))
        have K := Lib.hid (show Calls Tryd.prog 117 #[.slice (some ⟨g, 0, none⟩) n c, .int .i64 0, .int .i64 (m : Nat), .int .i64 (a : Nat)] _ _ from sift_any w0 ps g n c dn _ S7.out 0 m a (SZ.out.trans J1.out) (by omega) (by omega) hn)
        generalize Sort.siftDown ltN m a 0 dn = d9 at *
        go_wp2_with fail
        refine K.out.mono ?_
        rintro e w8 ⟨rfl, hO8⟩
        have S8 := Lib.hid hO8
        clear hO8 K S7
        go_wp2_with fail
        go_roundg (gk - 1)
        case measure => have := JQ.out; omega
        case rel => exact ⟨m, (m : Int) - 1, by have := HMH.out; omega, rfl, d9, HF.out, HSZ.out, by have := JQ.out; omega, S8.out⟩
end Go.Proofs.YtnienfgaidccpaaDoor
