/- Sketch: the walk of SketchExamples. No condition. -/
import Derived.Test.YtnienfgaidccpaaDoorUb
namespace Go.Proofs.YtnienfgaidccpaaDoor
open Go.RowKit Go.Shelf
attribute [local go_sem] Oper.semAt_some

theorem x_enc1 : encR 1 1 = (19, 0) := by decide +kernel
theorem x_enc2 : encR 3 1 = (1335, 0) := by decide +kernel
theorem x_enc3 : encR 1 2047 = (32767, 0) := by decide +kernel
theorem x_enc4 : encR 4 1 = (0, 2) := by decide +kernel
theorem x_dec1 : decR 1 18 = (1, 1, 0) := by decide +kernel
theorem x_dec2 : decR 3 1407 = (1, 2, 0) := by decide +kernel
theorem x_sk : skL 1 [16] = [3] ∧ skE 1 [16] = 0 := by decide +kernel
theorem x_rec : recR 2 [0] [11] = ([], 0, 51) := by decide +kernel
theorem v_g1_4_2 : gueV 1 [0, 19, 16, 3] = (1, 2, 0) := by decide +kernel
theorem v_g1_4_4 : gueV 1 [0, 1, 2, 3] = (1, 4, 0) := by decide +kernel
theorem v_g1_0_0 : gueV 1 [] = (0, 0, 4) := by decide +kernel
theorem v_g1_2_0 : gueV 1 [5, 5] = (0, 0, 2) := by decide +kernel
theorem x_asc : (lefX (kd 3) 0 32).Pairwise (· < ·) := by decide +kernel
theorem x_left : lefL 3 0 = lefX (kd 3) 0 32 ∧ lefE 3 0 = 0 := by
  have hok : (kd 3).ok := kd_ok (by decide) (by decide)
  have hs : 0 < 2 ^ (kd 3).f := Nat.two_pow_pos _
  refine ⟨?_, by decide +kernel⟩
  have h1 : lefL 3 0 = lefF (kd 3) 0 32768 := by
    unfold lefL
    rw [if_pos (by decide +kernel)]
    rfl
  rw [h1]
  exact asc_eq (lefF_asc _ _ _) x_asc fun x => by rw [lefF_mem, show (32 : Nat) = 2 ^ (kd 3).k from rfl, lefX_mem hok hs]
theorem x_l0 : (u16s (lefX (kd 3) 0 32))[0]? = some (.int .u16 0) := by kernel_rfl
theorem x_l1 : (u16s (lefX (kd 3) 0 32))[1]? = some (.int .u16 1335) := by kernel_rfl
theorem x_l2 : (u16s (lefX (kd 3) 0 32))[2]? = some (.int .u16 2670) := by kernel_rfl
set_option maxRecDepth 100000 in
set_option maxHeartbeats 8000000 in
theorem examplesLaw_any (w : World) (hc : Cod w) : Calls Tryd.prog 16 #[] w fun e w' => e = .returned (.bool true) ∧ Below w.heap.size w w' := by
  have HC := Lib.hid (fun W (h : Below w.heap.size w W) => hc.below h)
  have K27 := Lib.hid (fun W (h : Below w.heap.size w W) => alive_any W (HC.out W h))
  have E1 := Lib.hid (fun W (h : Below w.heap.size w W) => (show Calls Tryd.prog 28 #[.int .u8 1, .int .u16 1] W fun e w' => e = .returned (.tuple #[.int .u16 19, .int .i64 0]) ∧ Below W.heap.size W w' by
    have := encodeW_any 1 1 W (HC.out W h) (by decide); rw [x_enc1] at this; exact this))
  have E2 := Lib.hid (fun W (h : Below w.heap.size w W) => (show Calls Tryd.prog 28 #[.int .u8 3, .int .u16 1] W fun e w' => e = .returned (.tuple #[.int .u16 1335, .int .i64 0]) ∧ Below W.heap.size W w' by
    have := encodeW_any 3 1 W (HC.out W h) (by decide); rw [x_enc2] at this; exact this))
  have E3 := Lib.hid (fun W (h : Below w.heap.size w W) => (show Calls Tryd.prog 28 #[.int .u8 1, .int .u16 2047] W fun e w' => e = .returned (.tuple #[.int .u16 32767, .int .i64 0]) ∧ Below W.heap.size W w' by
    have := encodeW_any 1 2047 W (HC.out W h) (by decide); rw [x_enc3] at this; exact this))
  have E4 := Lib.hid (fun W (h : Below w.heap.size w W) => (show Calls Tryd.prog 28 #[.int .u8 4, .int .u16 1] W fun e w' => e = .returned (.tuple #[.int .u16 0, .int .i64 2]) ∧ Below W.heap.size W w' by
    have := encodeW_any 4 1 W (HC.out W h) (by decide); rw [x_enc4] at this; exact this))
  have D1 := Lib.hid (fun W (h : Below w.heap.size w W) => (show Calls Tryd.prog 32 #[.int .u8 1, .int .u16 18] W fun e w' => e = .returned (.tuple #[.int .u16 1, .int .i64 1, .int .i64 0]) ∧ Below W.heap.size W w' by
    have := decodeW_any 1 18 (by decide) W (HC.out W h) (by decide); rw [x_dec1] at this; exact this))
  have D2 := Lib.hid (fun W (h : Below w.heap.size w W) => (show Calls Tryd.prog 32 #[.int .u8 3, .int .u16 1407] W fun e w' => e = .returned (.tuple #[.int .u16 1, .int .i64 2, .int .i64 0]) ∧ Below W.heap.size W w' by
    have := decodeW_any 3 1407 (by decide) W (HC.out W h) (by decide); rw [x_dec2] at this; exact this))
  have K17 := Lib.hid (fun A cp W (h : Below w.heap.size w W) (hr : Rd W A (u16s [16])) => (show Calls Tryd.prog 17 #[.int .u8 1, .slice A 1 cp] W fun e w' => ∃ A c, e = .returned (.tuple #[.slice A 1 c, .int .i64 0]) ∧ Own W w' [row 41 1 (.slice A 1 c) 1 (u16s [3])] by
    have := sketch_main 1 [16] A 1 cp W (HC.out W h) (by decide) hr rfl; unfold WsPost at this; rw [x_sk.1, x_sk.2] at this; exact this))
  have K20 := Lib.hid (fun A cp A' cp' W (h : Below w.heap.size w W) (hr : Rd W A (u16s [0])) (hr' : Rd W A' (u16s [11])) => (show Calls Tryd.prog 20 #[.int .u8 2, .slice A 1 cp, .slice A' 1 cp'] W fun e w' => ∃ A c, e = .returned (.tuple #[.slice A 0 c, .int .i64 0, .int .i64 51]) ∧ Own W w' [row 41 1 (.slice A 0 c) 0 (u16s [])] by
    have := recover_any 2 [0] [11] A A' 1 1 cp cp' W (HC.out W h) (by decide) hr hr' rfl rfl (by decide); unfold RecPost at this; rw [x_rec] at this; exact this))
  have K53 := Lib.hid (fun W (h : Below w.heap.size w W) => (show Calls Tryd.prog 53 #[.int .u8 3, .int .u16 0] W fun e w' => ∃ A c, e = .returned (.tuple #[.slice A 32 c, .int .i64 0]) ∧ Own W w' [row 41 1 (.slice A 32 c) 32 (u16s (lefX (kd 3) 0 32))] by
    have := left_any 3 0 (by decide) W (HC.out W h) (by decide); unfold WsPost at this; rw [x_left.1, x_left.2, lefX_len] at this; exact this))
  have G1 := Lib.hid (fun A cp W (h : Below w.heap.size w W) (hr : Rd W A (u16s [0, 19, 16, 3])) => (show Calls Tryd.prog 55 #[.int .u8 1, .slice A 4 cp] W fun e w' => e = .returned (.tuple #[.int .i64 1, .int .i64 2, .int .i64 0]) ∧ Below W.heap.size W w' by
    have := guess_any 1 [0, 19, 16, 3] A 4 cp W (HC.out W h) (by decide) hr rfl (by unfold W16; decide) (by decide); rw [v_g1_4_2] at this; exact this))
  have G2 := Lib.hid (fun A cp W (h : Below w.heap.size w W) (hr : Rd W A (u16s [0, 1, 2, 3])) => (show Calls Tryd.prog 55 #[.int .u8 1, .slice A 4 cp] W fun e w' => e = .returned (.tuple #[.int .i64 1, .int .i64 4, .int .i64 0]) ∧ Below W.heap.size W w' by
    have := guess_any 1 [0, 1, 2, 3] A 4 cp W (HC.out W h) (by decide) hr rfl (by unfold W16; decide) (by decide); rw [v_g1_4_4] at this; exact this))
  have G3 := Lib.hid (fun A cp W (h : Below w.heap.size w W) (hr : Rd W A (u16s [])) => (show Calls Tryd.prog 55 #[.int .u8 1, .slice A 0 cp] W fun e w' => e = .returned (.tuple #[.int .i64 0, .int .i64 0, .int .i64 4]) ∧ Below W.heap.size W w' by
    have := guess_any 1 [] A 0 cp W (HC.out W h) (by decide) hr rfl (by unfold W16; decide) (by decide); rw [v_g1_0_0] at this; exact this))
  have G4 := Lib.hid (fun A cp W (h : Below w.heap.size w W) (hr : Rd W A (u16s [5, 5])) => (show Calls Tryd.prog 55 #[.int .u8 1, .slice A 2 cp] W fun e w' => e = .returned (.tuple #[.int .i64 0, .int .i64 0, .int .i64 2]) ∧ Below W.heap.size W w' by
    have := guess_any 1 [5, 5] A 2 cp W (HC.out W h) (by decide) hr rfl (by unfold W16; decide) (by decide); rw [v_g1_2_0] at this; exact this))
  have S := Lib.hid (Own.start w)
  have HL := Lib.hid (show _ ∧ _ ∧ _ from ⟨x_l0, x_l1, x_l2⟩)
  generalize lefX (kd 3) 0 32 = LL at *
  clear hc HC
  go_enter Tryd.func16, Tryd.ntmps16
  go_wp2_with fail
  refine (E1.out _ S.out.bel).mono ?_
  rintro e w1 ⟨rfl, hb1⟩
  replace S := Lib.hid (S.out.ext hb1)
  clear hb1
  go_wp2_with fail
  refine (E2.out _ S.out.bel).mono ?_
  rintro e w2 ⟨rfl, hb2⟩
  replace S := Lib.hid (S.out.ext hb2)
  clear hb2
  go_wp2_with fail
  refine (E3.out _ S.out.bel).mono ?_
  rintro e w3 ⟨rfl, hb3⟩
  replace S := Lib.hid (S.out.ext hb3)
  clear hb3
  go_wp2_with fail
  refine (D1.out _ S.out.bel).mono ?_
  rintro e w4 ⟨rfl, hb4⟩
  replace S := Lib.hid (S.out.ext hb4)
  clear hb4
  go_wp2_with fail
  refine (D2.out _ S.out.bel).mono ?_
  rintro e w5 ⟨rfl, hb5⟩
  replace S := Lib.hid (S.out.ext hb5)
  clear hb5
  go_wp2_with fail
  refine (K17.out _ _ _ (S.out.ext (below_alloc w5 (.cells #[.int .u16 16] 41))).bel (Rd.new w5 #[.int .u16 16] 41)).mono ?_
  rintro e w6 ⟨A1, c1, rfl, hO6⟩
  replace S := Lib.hid ((S.out.ext (below_alloc (w5) (.cells #[.int .u16 16] 41))).call hO6)
  clear hO6
  go_wp2_with fail
  refine (K27.out _ S.out.bel).mono ?_
  rintro e w7 ⟨rfl, hb7⟩
  replace S := Lib.hid (S.out.ext hb7)
  clear hb7
  go_wp2_with fail
  refine (words_true [3] A1 _ 1 1 c1 _ _ ((S.out.rd 0 rfl).below (below_alloc w7 (.cells #[.int .u16 3] 41))) (Rd.new w7 #[.int .u16 3] 41) rfl rfl (by decide)).mono ?_
  rintro e w8 ⟨rfl, hb8⟩
  replace S := Lib.hid ((S.out.ext (below_alloc (w7) (.cells #[.int .u16 3] 41))).ext hb8)
  clear hb8
  go_wp2_with fail
  refine (K20.out _ _ _ _ _ ((S.out.ext (below_alloc w8 (.cells #[.int .u16 0] 41))).ext (below_alloc (w8.alloc (.cells #[.int .u16 0] 41)) (.cells #[.int .u16 11] 41))).bel ((Rd.new w8 #[.int .u16 0] 41).below (below_alloc (w8.alloc (.cells #[.int .u16 0] 41)) (.cells #[.int .u16 11] 41))) (Rd.at2 w8 #[.int .u16 11] 41 (.cells #[.int .u16 0] 41))).mono ?_
  rintro e w9 ⟨A2, c2, rfl, hO9⟩
  replace S := Lib.hid (((S.out.ext (below_alloc (w8) (.cells #[.int .u16 0] 41))).ext (below_alloc ((w8).alloc (.cells #[.int .u16 0] 41)) (.cells #[.int .u16 11] 41))).call hO9)
  clear hO9
  go_wp2_with fail
  refine (K53.out _ S.out.bel).mono ?_
  rintro e w10 ⟨A3, c3, rfl, hO10⟩
  replace S := Lib.hid (S.out.call hO10)
  clear hO10
  obtain ⟨g3, rfl⟩ := S.out.rowAddr 0 rfl (by omega)
  go_wp2_with fail
  refine (G1.out _ _ _ (S.out.ext (below_alloc w10 (.cells #[.int .u16 0, .int .u16 19, .int .u16 16, .int .u16 3] 41))).bel (Rd.new w10 #[.int .u16 0, .int .u16 19, .int .u16 16, .int .u16 3] 41)).mono ?_
  rintro e w11 ⟨rfl, hb11⟩
  replace S := Lib.hid ((S.out.ext (below_alloc (w10) (.cells #[.int .u16 0, .int .u16 19, .int .u16 16, .int .u16 3] 41))).ext hb11)
  clear hb11
  go_wp2_with fail
  refine (G2.out _ _ _ (S.out.ext (below_alloc w11 (.cells #[.int .u16 0, .int .u16 1, .int .u16 2, .int .u16 3] 41))).bel (Rd.new w11 #[.int .u16 0, .int .u16 1, .int .u16 2, .int .u16 3] 41)).mono ?_
  rintro e w12 ⟨rfl, hb12⟩
  replace S := Lib.hid ((S.out.ext (below_alloc (w11) (.cells #[.int .u16 0, .int .u16 1, .int .u16 2, .int .u16 3] 41))).ext hb12)
  clear hb12
  go_wp2_with fail
  refine (E4.out _ S.out.bel).mono ?_
  rintro e w13 ⟨rfl, hb13⟩
  replace S := Lib.hid (S.out.ext hb13)
  clear hb13
  go_wp2_with fail
  refine (G3.out _ _ _ S.out.bel (Or.inl rfl)).mono ?_
  rintro e w14 ⟨rfl, hb14⟩
  replace S := Lib.hid (S.out.ext hb14)
  clear hb14
  go_wp2_with fail
  refine (G4.out _ _ _ (S.out.ext (below_alloc w14 (.cells #[.int .u16 5, .int .u16 5] 41))).bel (Rd.new w14 #[.int .u16 5, .int .u16 5] 41)).mono ?_
  rintro e w15 ⟨rfl, hb15⟩
  replace S := Lib.hid ((S.out.ext (below_alloc (w14) (.cells #[.int .u16 5, .int .u16 5] 41))).ext hb15)
  clear hb15
  have k0 := S.out.rowAt 0 rfl HL.out.1
  have k1 := S.out.rowAt 0 rfl HL.out.2.1
  have k2 := S.out.rowAt 0 rfl HL.out.2.2
  have kl := (S.out.rowLt 0 rfl).1
  go_wp2_with fail
  go_ret
  exact ⟨rfl, S.out.bel⟩
end Go.Proofs.YtnienfgaidccpaaDoor
