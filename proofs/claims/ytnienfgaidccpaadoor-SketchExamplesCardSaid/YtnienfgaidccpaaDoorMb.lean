/- Sketch: alive. No condition. -/
import Derived.Test.YtnienfgaidccpaaDoorMa
namespace Go.Proofs.YtnienfgaidccpaaDoor
open Go.RowKit Go.Shelf
attribute [local go_sem] Oper.semAt_some

theorem alloc_size (w : World) (o : Obj) : (w.alloc o).heap.size = w.heap.size + 1 := World.size_alloc w o
theorem Rd.at2 (w : World) (cs : Array Value) (t : TypeId) (o : Obj) : Rd ((w.alloc o).alloc (.cells cs t)) (some ⟨w.heap.size + 1, 0, none⟩) cs.toList := by
  have := Rd.new (w.alloc o) cs t
  rwa [alloc_size] at this
theorem v_enc : encR 2 1 = (465, 0) := by decide +kernel
theorem v_dec1 : decR 2 468 = (1, 2, 0) := by decide +kernel
theorem v_dec2 : decR 2 474 = (0, 0, 50) := by decide +kernel
theorem v_sk : skL 2 [1, 256] = [1, 209] ∧ skE 2 [1, 256] = 0 := by decide +kernel
theorem v_rec : recR 2 [209] [257] = ([256], 1, 0) := by decide +kernel
theorem v_lock : lokR [5, 1] [0, 2, 6, 8] 0 = (exV, 0) := by decide +kernel
theorem v_unl1 : unlR exV [0, 2, 4, 6] 2 = ([5, 1], 0) := by decide +kernel
theorem v_unl2 : unlR exV [0, 2, 4, 5] 2 = ([], 51) := by decide +kernel
theorem exV_len : exV.length = 31 := rfl
set_option maxRecDepth 100000 in
set_option maxHeartbeats 4000000 in
theorem alive_any (w : World) (hc : Cod w) : Calls Tryd.prog 27 #[] w fun e w' => e = .returned (.bool true) ∧ Below w.heap.size w w' := by
  have HC := Lib.hid (fun W (h : Below w.heap.size w W) => hc.below h)
  have K28 := Lib.hid (fun W (h : Below w.heap.size w W) => (show Calls Tryd.prog 28 #[.int .u8 2, .int .u16 1] W fun e w' => e = .returned (.tuple #[.int .u16 465, .int .i64 0]) ∧ Below W.heap.size W w' by
    have := encodeW_any 2 1 W (HC.out W h) (by decide); rw [v_enc] at this; exact this))
  have K32 := Lib.hid (fun W (h : Below w.heap.size w W) => (show Calls Tryd.prog 32 #[.int .u8 2, .int .u16 468] W fun e w' => e = .returned (.tuple #[.int .u16 1, .int .i64 2, .int .i64 0]) ∧ Below W.heap.size W w' by
    have := decodeW_any 2 468 (by decide) W (HC.out W h) (by decide); rw [v_dec1] at this; exact this))
  have K32b := Lib.hid (fun W (h : Below w.heap.size w W) => (show Calls Tryd.prog 32 #[.int .u8 2, .int .u16 474] W fun e w' => e = .returned (.tuple #[.int .u16 0, .int .i64 0, .int .i64 50]) ∧ Below W.heap.size W w' by
    have := decodeW_any 2 474 (by decide) W (HC.out W h) (by decide); rw [v_dec2] at this; exact this))
  have K17 := Lib.hid (fun A cp W (h : Below w.heap.size w W) (hr : Rd W A (u16s [1, 256])) => (show Calls Tryd.prog 17 #[.int .u8 2, .slice A 2 cp] W fun e w' => ∃ A c, e = .returned (.tuple #[.slice A 2 c, .int .i64 0]) ∧ Own W w' [row 41 1 (.slice A 2 c) 2 (u16s [1, 209])] by
    have := sketch_main 2 [1, 256] A 2 cp W (HC.out W h) (by decide) hr rfl; unfold WsPost at this; rw [v_sk.1, v_sk.2] at this; exact this))
  have K20 := Lib.hid (fun A cp A' cp' W (h : Below w.heap.size w W) (hr : Rd W A (u16s [209])) (hr' : Rd W A' (u16s [257])) => (show Calls Tryd.prog 20 #[.int .u8 2, .slice A 1 cp, .slice A' 1 cp'] W fun e w' => ∃ A c, e = .returned (.tuple #[.slice A 1 c, .int .i64 1, .int .i64 0]) ∧ Own W w' [row 41 1 (.slice A 1 c) 1 (u16s [256])] by
    have := recover_any 2 [209] [257] A A' 1 1 cp cp' W (HC.out W h) (by decide) hr hr' rfl rfl (by decide); unfold RecPost at this; rw [v_rec] at this; exact this))
  have K38 := Lib.hid (fun A cp A' cp' W (hr : Rd W A (i64s [5, 1])) (hr' : Rd W A' (i64s [0, 2, 6, 8])) => (show Calls Tryd.prog 38 #[.slice A 2 cp, .slice A' 4 cp', .int .i64 0] W fun e w' => ∃ A c, e = .returned (.tuple #[.slice A 31 c, .int .i64 0]) ∧ Own W w' [row 3 1 (.slice A 31 c) 31 (i64s exV)] by
    have := lock_any [5, 1] [0, 2, 6, 8] 0 A A' 2 4 cp cp' W hr hr' rfl rfl (by decide) (by decide); unfold IntsPost at this; rw [v_lock] at this; exact this))
  have K40 := Lib.hid (fun A cp A' cp' W (hr : Rd W A (i64s exV)) (hr' : Rd W A' (i64s [0, 2, 4, 6])) => (show Calls Tryd.prog 40 #[.slice A 31 cp, .slice A' 4 cp', .int .i64 2] W fun e w' => ∃ A c, e = .returned (.tuple #[.slice A 2 c, .int .i64 0]) ∧ Own W w' [row 3 1 (.slice A 2 c) 2 (i64s [5, 1])] by
    have := unlock_any exV [0, 2, 4, 6] 2 A A' 31 4 cp cp' W hr hr' rfl rfl (by decide) (by decide); unfold IntsPost at this; rw [v_unl1] at this; exact this))
  have K40b := Lib.hid (fun A cp A' cp' W (hr : Rd W A (i64s exV)) (hr' : Rd W A' (i64s [0, 2, 4, 5])) => (show Calls Tryd.prog 40 #[.slice A 31 cp, .slice A' 4 cp', .int .i64 2] W fun e w' => ∃ A c, e = .returned (.tuple #[.slice A 0 c, .int .i64 51]) ∧ Own W w' [row 3 1 (.slice A 0 c) 0 (i64s [])] by
    have := unlock_any exV [0, 2, 4, 5] 2 A A' 31 4 cp cp' W hr hr' rfl rfl (by decide) (by decide); unfold IntsPost at this; rw [v_unl2] at this; exact this))
  have S := Lib.hid (Own.start w)
  clear hc
  go_enter Tryd.func27, Tryd.ntmps27
  go_wp2_with fail
  refine (K28.out _ S.out.bel).mono ?_
  rintro e w1 ⟨rfl, hb1⟩
  replace S := Lib.hid (S.out.ext hb1)
  clear hb1
  go_wp2_with fail
  refine (K32.out _ S.out.bel).mono ?_
  rintro e w2 ⟨rfl, hb2⟩
  replace S := Lib.hid (S.out.ext hb2)
  clear hb2
  go_wp2_with fail
  refine (K32b.out _ S.out.bel).mono ?_
  rintro e w3 ⟨rfl, hb3⟩
  replace S := Lib.hid (S.out.ext hb3)
  clear hb3
  go_wp2_with fail
  refine (K17.out _ _ _ (S.out.ext (below_alloc w3 (.cells #[.int .u16 1, .int .u16 256] 41))).bel (Rd.new w3 #[.int .u16 1, .int .u16 256] 41)).mono ?_
  rintro e w4 ⟨A1, c1, rfl, hO4⟩
  replace S := Lib.hid ((S.out.ext (below_alloc (w3) (.cells #[.int .u16 1, .int .u16 256] 41))).call hO4)
  clear hO4
  go_wp2_with fail
  refine (K20.out _ _ _ _ _ ((S.out.ext (below_alloc w4 (.cells #[.int .u16 209] 41))).ext (below_alloc (w4.alloc (.cells #[.int .u16 209] 41)) (.cells #[.int .u16 257] 41))).bel ((Rd.new w4 #[.int .u16 209] 41).below (below_alloc (w4.alloc (.cells #[.int .u16 209] 41)) (.cells #[.int .u16 257] 41))) (Rd.at2 w4 #[.int .u16 257] 41 (.cells #[.int .u16 209] 41))).mono ?_
  rintro e w5 ⟨A2, c2, rfl, hO5⟩
  replace S := Lib.hid (((S.out.ext (below_alloc (w4) (.cells #[.int .u16 209] 41))).ext (below_alloc ((w4).alloc (.cells #[.int .u16 209] 41)) (.cells #[.int .u16 257] 41))).call hO5)
  clear hO5
  go_wp2_with fail
  refine (K38.out _ _ _ _ _ ((Rd.new w5 #[.int .i64 5, .int .i64 1] 3).below (below_alloc (w5.alloc (.cells #[.int .i64 5, .int .i64 1] 3)) (.cells #[.int .i64 0, .int .i64 2, .int .i64 6, .int .i64 8] 3))) (Rd.at2 w5 #[.int .i64 0, .int .i64 2, .int .i64 6, .int .i64 8] 3 (.cells #[.int .i64 5, .int .i64 1] 3))).mono ?_
  rintro e w6 ⟨A3, c3, rfl, hO6⟩
  replace S := Lib.hid (((S.out.ext (below_alloc (w5) (.cells #[.int .i64 5, .int .i64 1] 3))).ext (below_alloc ((w5).alloc (.cells #[.int .i64 5, .int .i64 1] 3)) (.cells #[.int .i64 0, .int .i64 2, .int .i64 6, .int .i64 8] 3))).call hO6)
  clear hO6
  go_wp2_with fail
  refine (vaultW_any _).mono ?_
  rintro e w7 ⟨A4, c4, rfl, hO7⟩
  replace S := Lib.hid (S.out.call hO7)
  clear hO7
  go_wp2_with fail
  refine (K40.out _ _ _ _ _ ((S.out.rd 0 rfl).below (below_alloc w7 (.cells #[.int .i64 0, .int .i64 2, .int .i64 4, .int .i64 6] 3))) (Rd.new w7 #[.int .i64 0, .int .i64 2, .int .i64 4, .int .i64 6] 3)).mono ?_
  rintro e w8 ⟨A5, c5, rfl, hO8⟩
  replace S := Lib.hid ((S.out.ext (below_alloc (w7) (.cells #[.int .i64 0, .int .i64 2, .int .i64 4, .int .i64 6] 3))).call hO8)
  clear hO8
  go_wp2_with fail
  refine (vaultW_any _).mono ?_
  rintro e w9 ⟨A6, c6, rfl, hO9⟩
  replace S := Lib.hid (S.out.call hO9)
  clear hO9
  go_wp2_with fail
  refine (K40b.out _ _ _ _ _ ((S.out.rd 0 rfl).below (below_alloc w9 (.cells #[.int .i64 0, .int .i64 2, .int .i64 4, .int .i64 5] 3))) (Rd.new w9 #[.int .i64 0, .int .i64 2, .int .i64 4, .int .i64 5] 3)).mono ?_
  rintro e w10 ⟨A7, c7, rfl, hO10⟩
  replace S := Lib.hid ((S.out.ext (below_alloc (w9) (.cells #[.int .i64 0, .int .i64 2, .int .i64 4, .int .i64 5] 3))).call hO10)
  clear hO10
  replace S := Lib.hid (S.out.sub [2, 4, 5, 6] (by decide) (qs := [row 3 1 (.slice A5 2 c5) 2 (i64s [5, 1]), row 3 1 (.slice A3 31 c3) 31 (i64s exV), row 41 1 (.slice A2 1 c2) 1 (u16s [256]), row 41 1 (.slice A1 2 c1) 2 (u16s [1, 209])]) rfl)
  go_wp2_with fail
  refine (words_true [1, 209] A1 _ 2 2 c1 _ _ ((S.out.rd 3 rfl).below (below_alloc w10 (.cells #[.int .u16 1, .int .u16 209] 41))) (Rd.new w10 #[.int .u16 1, .int .u16 209] 41) rfl rfl (by decide)).mono ?_
  rintro e w11 ⟨rfl, hb11⟩
  replace S := Lib.hid ((S.out.ext (below_alloc w10 (.cells #[.int .u16 1, .int .u16 209] 41))).ext hb11)
  clear hb11
  go_wp2_with fail
  refine (words_true [256] A2 _ 1 1 c2 _ _ ((S.out.rd 2 rfl).below (below_alloc w11 (.cells #[.int .u16 256] 41))) (Rd.new w11 #[.int .u16 256] 41) rfl rfl (by decide)).mono ?_
  rintro e w12 ⟨rfl, hb12⟩
  replace S := Lib.hid ((S.out.ext (below_alloc w11 (.cells #[.int .u16 256] 41))).ext hb12)
  clear hb12
  go_wp2_with fail
  refine (vaultW_any _).mono ?_
  rintro e w13 ⟨A8, c8, rfl, hO13⟩
  replace S := Lib.hid (S.out.call hO13)
  clear hO13
  go_wp2_with fail
  refine (sameInts_true exV A3 A8 31 31 c3 c8 _ (S.out.rd 2 rfl) (S.out.rd 0 rfl) rfl rfl (by decide)).mono ?_
  rintro e w14 ⟨rfl, hb14⟩
  replace S := Lib.hid (S.out.ext hb14)
  clear hb14
  go_wp2_with fail
  refine (sameInts_true [5, 1] A5 _ 2 2 c5 _ _ ((S.out.rd 1 rfl).below (below_alloc w14 (.cells #[.int .i64 5, .int .i64 1] 3))) (Rd.new w14 #[.int .i64 5, .int .i64 1] 3) rfl rfl (by decide)).mono ?_
  rintro e w15 ⟨rfl, hb15⟩
  replace S := Lib.hid ((S.out.ext (below_alloc w14 (.cells #[.int .i64 5, .int .i64 1] 3))).ext hb15)
  clear hb15
  go_wp2_with fail
  go_ret
  exact ⟨rfl, S.out.bel⟩
end Go.Proofs.YtnienfgaidccpaaDoor
