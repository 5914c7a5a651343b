/- Ridge: the walk of RidgeExamples. No condition. -/
import Derived.Test.YtjelnbfnoliocaaTv
import Derived.Test.YtjelnbfnoliocaaPk
namespace Go.Proofs.Ytjelnbfnoliocaa
open Go.RowKit Go.Shelf
attribute [local go_sem] Oper.semAt_some

set_option maxRecDepth 100000 in
set_option maxHeartbeats 16000000 in
theorem ridgeExamples_walk (w : World) : Calls Try.prog 15 #[] w fun e w' => e = .returned (.bool true) ∧ Below w.heap.size w w' := by
  go_enter Try.func15, Try.ntmps15
  go_wp2_with fail
  refine (sample_any _).mono ?_
  rintro e w1 ⟨g1, g2, g3, rfl, hO⟩
  have S1 := Lib.hid ((Own.start w).call hO)
  clear hO
  go_upto_region 2 with fail
  have S2 := Lib.hid (((S1.out.new' 24 #[.int .i64 3, .int .i64 1, .slice (some ⟨g1, 0, none⟩) 3 3] (B := w1.heap.size) rfl).new' 26 #[.int .i64 3, .int .i64 1, .slice (some ⟨g2, 0, none⟩) 3 3, .slice (some ⟨g3, 0, none⟩) 3 3] (B := w1.heap.size + 1) (by simp)).cast (qs := [box (w1.heap.size + 1) 26 [.int .i64 3, .int .i64 1, .slice (some ⟨g2, 0, none⟩) 3 3, .slice (some ⟨g3, 0, none⟩) 3 3], box w1.heap.size 24 [.int .i64 3, .int .i64 1, .slice (some ⟨g1, 0, none⟩) 3 3], box g3 5 [.int .u8 200, .int .u8 150, .int .u8 102], box g2 5 [.int .u8 0, .int .u8 50, .int .u8 100], box g1 5 [.int .u8 99, .int .u8 100, .int .u8 101]]) rfl)
  generalize (w1.alloc _).alloc _ = w2 at *
  generalize w1.heap.size = B at *
  clear S1
  obtain ⟨t0_0, t0_1, t0_2, t0_3, _⟩ := (S2.out.bx 0 rfl).c4
  have lt0 := (S2.out.bx 0 rfl).2.2
  obtain ⟨t1_0, t1_1, t1_2, _⟩ := (S2.out.bx 1 rfl).c3
  have lt1 := (S2.out.bx 1 rfl).2.2
  go_wp2_with fail
  refine (sure1_ex _ _ _ 3 3 3 _ (rd_box (xs := u8s [99, 100, 101]) (sp := []) (S2.out.bx 4 rfl)) (rd_box (xs := u8s [0, 50, 100]) (sp := []) (S2.out.bx 3 rfl)) (rd_box (xs := u8s [200, 150, 102]) (sp := []) (S2.out.bx 2 rfl))).mono ?_
  rintro e w3 ⟨B1, c1, rfl, R1, hb3⟩
  have S3 := Lib.hid (S2.out.ext hb3)
  have R2 := Lib.hid R1
  clear hb3 S2 R1 t0_0 t0_1 t0_2 t0_3 lt0 t1_0 t1_1 t1_2 lt1
  obtain ⟨t0_0, t0_1, t0_2, t0_3, _⟩ := (S3.out.bx 0 rfl).c4
  have lt0 := (S3.out.bx 0 rfl).2.2
  obtain ⟨t1_0, t1_1, t1_2, _⟩ := (S3.out.bx 1 rfl).c3
  have lt1 := (S3.out.bx 1 rfl).2.2
  go_wp2_with fail
  refine (qual_ex _ _ _ 3 3 3 _ (rd_box (xs := u8s [99, 100, 101]) (sp := []) (S3.out.bx 4 rfl)) (rd_box (xs := u8s [0, 50, 100]) (sp := []) (S3.out.bx 3 rfl)) (rd_box (xs := u8s [200, 150, 102]) (sp := []) (S3.out.bx 2 rfl))).mono ?_
  rintro e w4 ⟨rfl, hb4⟩
  have S4 := Lib.hid (S3.out.ext hb4)
  have R3 := Lib.hid (R2.out.below hb4)
  clear hb4 S3 R2 t0_0 t0_1 t0_2 t0_3 lt0 t1_0 t1_1 t1_2 lt1
  go_wp2_with fail
  refine (pc_p2 w4).mono ?_
  rintro e w5 ⟨A5, c5, rfl, hO5⟩
  have S5 := Lib.hid (((S4.out.ext (below_alloc w4 (.cells #[.string { data := #[46, 46, 46, 46, 46] }, .string { data := #[46, 35, 35, 35, 46] }, .string { data := #[46, 46, 46, 46, 46] }] 9))).call hO5).cast (qs := [row 4 1 (.slice A5 15 c5) 15 (bools p2), box (B + 1) 26 [.int .i64 3, .int .i64 1, .slice (some ⟨g2, 0, none⟩) 3 3, .slice (some ⟨g3, 0, none⟩) 3 3], box B 24 [.int .i64 3, .int .i64 1, .slice (some ⟨g1, 0, none⟩) 3 3], box g3 5 [.int .u8 200, .int .u8 150, .int .u8 102], box g2 5 [.int .u8 0, .int .u8 50, .int .u8 100], box g1 5 [.int .u8 99, .int .u8 100, .int .u8 101]]) rfl)
  have R5x := Lib.hid (R3.out.below (below_step (below_alloc w4 (.cells #[.string { data := #[46, 46, 46, 46, 46] }, .string { data := #[46, 35, 35, 35, 46] }, .string { data := #[46, 46, 46, 46, 46] }] 9)) hO5.bel))
  clear R3
  clear hO5 S4
  go_wp2_with fail
  refine (min2_ex A5 c5 _ (S5.out.rd 0 rfl)).mono ?_
  rintro e w6 ⟨Am, cm, rfl, hb6⟩
  have S6 := Lib.hid (S5.out.ext hb6)
  have R6x := Lib.hid (R5x.out.below hb6)
  clear R5x
  clear hb6 S5
  have S7 := Lib.hid (S6.out.sub [1, 2, 3, 4, 5] (by decide) (qs := [box (B + 1) 26 [.int .i64 3, .int .i64 1, .slice (some ⟨g2, 0, none⟩) 3 3, .slice (some ⟨g3, 0, none⟩) 3 3], box B 24 [.int .i64 3, .int .i64 1, .slice (some ⟨g1, 0, none⟩) 3 3], box g3 5 [.int .u8 200, .int .u8 150, .int .u8 102], box g2 5 [.int .u8 0, .int .u8 50, .int .u8 100], box g1 5 [.int .u8 99, .int .u8 100, .int .u8 101]]) rfl)
  clear S6
  go_wp2_with fail
  refine (alive_any _).mono ?_
  rintro e w8 ⟨rfl, hb8⟩
  have S8 := Lib.hid (S7.out.ext hb8)
  have R8x := Lib.hid (R6x.out.below hb8)
  clear R6x
  clear hb8 S7
  have hmk : ∀ W : World, (Instr.makeSlice 32 (.int .i64 3) (.int .i64 3)).run Try.prog W = .ok (.slice (some ⟨W.heap.size, 0, none⟩) 3 3) (W.alloc (.cells #[.bool false, .bool false, .bool false] 4)) := fun W => by
    have h := run_make_row' (P := Try.prog) 32 4 (.bool false) 1 Try.underlying32 (by kernel_rfl) rfl .i64 .i64 3 (by omega) (by omega) W
    have e : madeCells #[Value.bool false] 3 = #[.bool false, .bool false, .bool false] := Array.toList_inj.1 ((made_bools 3).trans rfl)
    rw [e] at h
    exact h
  go_wp2_with fail
  refine (sameBools_true B1 (some ⟨w8.heap.size, 0, none⟩) [false, false, false] 3 c1 3 3 _ (R8x.out.below (below_alloc w8 (.cells #[.bool false, .bool false, .bool false] 4))) (Rd.new w8 #[.bool false, .bool false, .bool false] 4) rfl rfl (by decide)).mono ?_
  rintro e w9 ⟨rfl, hb9⟩
  have S9 := Lib.hid (S8.out.ext (below_step (below_alloc w8 (.cells #[.bool false, .bool false, .bool false] 4)) hb9))
  have R9x := Lib.hid (R8x.out.below (below_step (below_alloc w8 (.cells #[.bool false, .bool false, .bool false] 4)) hb9))
  clear R8x
  clear hb9 S8
  clear R9x hmk
  go_wp2_with fail
  refine (pc_pq1 w9).mono ?_
  rintro e w10 ⟨A10, c10, rfl, hO10⟩
  have S10 := Lib.hid (((S9.out.ext (below_alloc w9 (.cells #[.string { data := #[35, 46, 35] }, .string { data := #[46, 46, 46] }, .string { data := #[35, 46, 35] }] 9))).call hO10).cast (qs := [row 4 1 (.slice A10 9 c10) 9 (bools pq1), box (B + 1) 26 [.int .i64 3, .int .i64 1, .slice (some ⟨g2, 0, none⟩) 3 3, .slice (some ⟨g3, 0, none⟩) 3 3], box B 24 [.int .i64 3, .int .i64 1, .slice (some ⟨g1, 0, none⟩) 3 3], box g3 5 [.int .u8 200, .int .u8 150, .int .u8 102], box g2 5 [.int .u8 0, .int .u8 50, .int .u8 100], box g1 5 [.int .u8 99, .int .u8 100, .int .u8 101]]) rfl)
  clear hO10 S9
  go_wp2_with fail
  refine (ha_pq1 A10 c10 _ (S10.out.rd 0 rfl)).mono ?_
  rintro e w11 ⟨rfl, hb11⟩
  have S11 := Lib.hid (S10.out.ext hb11)
  clear hb11 S10
  have S12 := Lib.hid (S11.out.sub [1, 2, 3, 4, 5] (by decide) (qs := [box (B + 1) 26 [.int .i64 3, .int .i64 1, .slice (some ⟨g2, 0, none⟩) 3 3, .slice (some ⟨g3, 0, none⟩) 3 3], box B 24 [.int .i64 3, .int .i64 1, .slice (some ⟨g1, 0, none⟩) 3 3], box g3 5 [.int .u8 200, .int .u8 150, .int .u8 102], box g2 5 [.int .u8 0, .int .u8 50, .int .u8 100], box g1 5 [.int .u8 99, .int .u8 100, .int .u8 101]]) rfl)
  clear S11
  go_wp2_with fail
  refine (pc_pq2 w11).mono ?_
  rintro e w13 ⟨A13, c13, rfl, hO13⟩
  have S13 := Lib.hid (((S12.out.ext (below_alloc w11 (.cells #[.string { data := #[46, 35] }, .string { data := #[35, 46] }] 9))).call hO13).cast (qs := [row 4 1 (.slice A13 4 c13) 4 (bools pq2), box (B + 1) 26 [.int .i64 3, .int .i64 1, .slice (some ⟨g2, 0, none⟩) 3 3, .slice (some ⟨g3, 0, none⟩) 3 3], box B 24 [.int .i64 3, .int .i64 1, .slice (some ⟨g1, 0, none⟩) 3 3], box g3 5 [.int .u8 200, .int .u8 150, .int .u8 102], box g2 5 [.int .u8 0, .int .u8 50, .int .u8 100], box g1 5 [.int .u8 99, .int .u8 100, .int .u8 101]]) rfl)
  clear hO13 S12
  go_wp2_with fail
  refine (ha_pq2 A13 c13 _ (S13.out.rd 0 rfl)).mono ?_
  rintro e w14 ⟨rfl, hb14⟩
  have S14 := Lib.hid (S13.out.ext hb14)
  clear hb14 S13
  have S15 := Lib.hid (S14.out.sub [1, 2, 3, 4, 5] (by decide) (qs := [box (B + 1) 26 [.int .i64 3, .int .i64 1, .slice (some ⟨g2, 0, none⟩) 3 3, .slice (some ⟨g3, 0, none⟩) 3 3], box B 24 [.int .i64 3, .int .i64 1, .slice (some ⟨g1, 0, none⟩) 3 3], box g3 5 [.int .u8 200, .int .u8 150, .int .u8 102], box g2 5 [.int .u8 0, .int .u8 50, .int .u8 100], box g1 5 [.int .u8 99, .int .u8 100, .int .u8 101]]) rfl)
  clear S14
  go_wp2_with fail
  refine (pc_pq3 w14).mono ?_
  rintro e w16 ⟨A16, c16, rfl, hO16⟩
  have S16 := Lib.hid (((S15.out.ext (below_alloc w14 (.cells #[.string { data := #[35, 35] }, .string { data := #[35, 35] }] 9))).call hO16).cast (qs := [row 4 1 (.slice A16 4 c16) 4 (bools pq3), box (B + 1) 26 [.int .i64 3, .int .i64 1, .slice (some ⟨g2, 0, none⟩) 3 3, .slice (some ⟨g3, 0, none⟩) 3 3], box B 24 [.int .i64 3, .int .i64 1, .slice (some ⟨g1, 0, none⟩) 3 3], box g3 5 [.int .u8 200, .int .u8 150, .int .u8 102], box g2 5 [.int .u8 0, .int .u8 50, .int .u8 100], box g1 5 [.int .u8 99, .int .u8 100, .int .u8 101]]) rfl)
  clear hO16 S15
  go_wp2_with fail
  refine (pc_pq4 w16).mono ?_
  rintro e w17 ⟨A17, c17, rfl, hO17⟩
  have S17 := Lib.hid (((S16.out.ext (below_alloc w16 (.cells #[.string { data := #[46, 46] }, .string { data := #[35, 35] }] 9))).call hO17).cast (qs := [row 4 1 (.slice A17 4 c17) 4 (bools pq4), row 4 1 (.slice A16 4 c16) 4 (bools pq3), box (B + 1) 26 [.int .i64 3, .int .i64 1, .slice (some ⟨g2, 0, none⟩) 3 3, .slice (some ⟨g3, 0, none⟩) 3 3], box B 24 [.int .i64 3, .int .i64 1, .slice (some ⟨g1, 0, none⟩) 3 3], box g3 5 [.int .u8 200, .int .u8 150, .int .u8 102], box g2 5 [.int .u8 0, .int .u8 50, .int .u8 100], box g1 5 [.int .u8 99, .int .u8 100, .int .u8 101]]) rfl)
  clear hO17 S16
  go_wp2_with fail
  refine (thins_yes 2 2 A16 A17 pq3 pq4 4 c16 c17 _ (S17.out.rd 1 rfl) (S17.out.rd 0 rfl) rfl (by decide) v_thin_pq3 (by decide)).mono ?_
  rintro e w18 ⟨rfl, hb18⟩
  have S18 := Lib.hid (S17.out.ext hb18)
  clear hb18 S17
  have S19 := Lib.hid (S18.out.sub [2, 3, 4, 5, 6] (by decide) (qs := [box (B + 1) 26 [.int .i64 3, .int .i64 1, .slice (some ⟨g2, 0, none⟩) 3 3, .slice (some ⟨g3, 0, none⟩) 3 3], box B 24 [.int .i64 3, .int .i64 1, .slice (some ⟨g1, 0, none⟩) 3 3], box g3 5 [.int .u8 200, .int .u8 150, .int .u8 102], box g2 5 [.int .u8 0, .int .u8 50, .int .u8 100], box g1 5 [.int .u8 99, .int .u8 100, .int .u8 101]]) rfl)
  clear S18
  go_wp2_with fail
  refine (pc_pq5 w18).mono ?_
  rintro e w20 ⟨A20, c20, rfl, hO20⟩
  have S20 := Lib.hid (((S19.out.ext (below_alloc w18 (.cells #[.string { data := #[35] }] 9))).call hO20).cast (qs := [row 4 1 (.slice A20 1 c20) 1 (bools pq5), box (B + 1) 26 [.int .i64 3, .int .i64 1, .slice (some ⟨g2, 0, none⟩) 3 3, .slice (some ⟨g3, 0, none⟩) 3 3], box B 24 [.int .i64 3, .int .i64 1, .slice (some ⟨g1, 0, none⟩) 3 3], box g3 5 [.int .u8 200, .int .u8 150, .int .u8 102], box g2 5 [.int .u8 0, .int .u8 50, .int .u8 100], box g1 5 [.int .u8 99, .int .u8 100, .int .u8 101]]) rfl)
  clear hO20 S19
  go_wp2_with fail
  refine (pc_pq5 w20).mono ?_
  rintro e w21 ⟨A21, c21, rfl, hO21⟩
  have S21 := Lib.hid (((S20.out.ext (below_alloc w20 (.cells #[.string { data := #[35] }] 9))).call hO21).cast (qs := [row 4 1 (.slice A21 1 c21) 1 (bools pq5), row 4 1 (.slice A20 1 c20) 1 (bools pq5), box (B + 1) 26 [.int .i64 3, .int .i64 1, .slice (some ⟨g2, 0, none⟩) 3 3, .slice (some ⟨g3, 0, none⟩) 3 3], box B 24 [.int .i64 3, .int .i64 1, .slice (some ⟨g1, 0, none⟩) 3 3], box g3 5 [.int .u8 200, .int .u8 150, .int .u8 102], box g2 5 [.int .u8 0, .int .u8 50, .int .u8 100], box g1 5 [.int .u8 99, .int .u8 100, .int .u8 101]]) rfl)
  clear hO21 S20
  go_wp2_with fail
  refine (thins_yes 1 1 A20 A21 pq5 pq5 1 c20 c21 _ (S21.out.rd 1 rfl) (S21.out.rd 0 rfl) rfl (by decide) v_thin_pq5 (by decide)).mono ?_
  rintro e w22 ⟨rfl, hb22⟩
  have S22 := Lib.hid (S21.out.ext hb22)
  clear hb22 S21
  have S23 := Lib.hid (S22.out.sub [2, 3, 4, 5, 6] (by decide) (qs := [box (B + 1) 26 [.int .i64 3, .int .i64 1, .slice (some ⟨g2, 0, none⟩) 3 3, .slice (some ⟨g3, 0, none⟩) 3 3], box B 24 [.int .i64 3, .int .i64 1, .slice (some ⟨g1, 0, none⟩) 3 3], box g3 5 [.int .u8 200, .int .u8 150, .int .u8 102], box g2 5 [.int .u8 0, .int .u8 50, .int .u8 100], box g1 5 [.int .u8 99, .int .u8 100, .int .u8 101]]) rfl)
  clear S22
  go_wp2_with fail
  refine (pc_p5 w22).mono ?_
  rintro e w24 ⟨A24, c24, rfl, hO24⟩
  have S24 := Lib.hid (((S23.out.ext (below_alloc w22 (.cells #[.string { data := #[35, 35, 35] }, .string { data := #[35, 46, 35] }, .string { data := #[35, 35, 35] }] 9))).call hO24).cast (qs := [row 4 1 (.slice A24 9 c24) 9 (bools p5), box (B + 1) 26 [.int .i64 3, .int .i64 1, .slice (some ⟨g2, 0, none⟩) 3 3, .slice (some ⟨g3, 0, none⟩) 3 3], box B 24 [.int .i64 3, .int .i64 1, .slice (some ⟨g1, 0, none⟩) 3 3], box g3 5 [.int .u8 200, .int .u8 150, .int .u8 102], box g2 5 [.int .u8 0, .int .u8 50, .int .u8 100], box g1 5 [.int .u8 99, .int .u8 100, .int .u8 101]]) rfl)
  clear hO24 S23
  go_wp2_with fail
  refine (pc_pq6 w24).mono ?_
  rintro e w25 ⟨A25, c25, rfl, hO25⟩
  have S25 := Lib.hid (((S24.out.ext (below_alloc w24 (.cells #[.string { data := #[46, 35, 46] }, .string { data := #[35, 46, 35] }, .string { data := #[46, 35, 46] }] 9))).call hO25).cast (qs := [row 4 1 (.slice A25 9 c25) 9 (bools pq6), row 4 1 (.slice A24 9 c24) 9 (bools p5), box (B + 1) 26 [.int .i64 3, .int .i64 1, .slice (some ⟨g2, 0, none⟩) 3 3, .slice (some ⟨g3, 0, none⟩) 3 3], box B 24 [.int .i64 3, .int .i64 1, .slice (some ⟨g1, 0, none⟩) 3 3], box g3 5 [.int .u8 200, .int .u8 150, .int .u8 102], box g2 5 [.int .u8 0, .int .u8 50, .int .u8 100], box g1 5 [.int .u8 99, .int .u8 100, .int .u8 101]]) rfl)
  clear hO25 S24
  go_wp2_with fail
  refine (thins_yes 3 3 A24 A25 p5 pq6 9 c24 c25 _ (S25.out.rd 1 rfl) (S25.out.rd 0 rfl) rfl (by decide) v_thin_p5 (by decide)).mono ?_
  rintro e w26 ⟨rfl, hb26⟩
  have S26 := Lib.hid (S25.out.ext hb26)
  clear hb26 S25
  have S27 := Lib.hid (S26.out.sub [2, 3, 4, 5, 6] (by decide) (qs := [box (B + 1) 26 [.int .i64 3, .int .i64 1, .slice (some ⟨g2, 0, none⟩) 3 3, .slice (some ⟨g3, 0, none⟩) 3 3], box B 24 [.int .i64 3, .int .i64 1, .slice (some ⟨g1, 0, none⟩) 3 3], box g3 5 [.int .u8 200, .int .u8 150, .int .u8 102], box g2 5 [.int .u8 0, .int .u8 50, .int .u8 100], box g1 5 [.int .u8 99, .int .u8 100, .int .u8 101]]) rfl)
  clear S26
  go_wp2_with fail
  refine (pc_pq7 w26).mono ?_
  rintro e w28 ⟨A28, c28, rfl, hO28⟩
  have S28 := Lib.hid (((S27.out.ext (below_alloc w26 (.cells #[.string { data := #[35, 35, 35] }, .string { data := #[35, 35, 35] }, .string { data := #[35, 35, 35] }] 9))).call hO28).cast (qs := [row 4 1 (.slice A28 9 c28) 9 (bools pq7), box (B + 1) 26 [.int .i64 3, .int .i64 1, .slice (some ⟨g2, 0, none⟩) 3 3, .slice (some ⟨g3, 0, none⟩) 3 3], box B 24 [.int .i64 3, .int .i64 1, .slice (some ⟨g1, 0, none⟩) 3 3], box g3 5 [.int .u8 200, .int .u8 150, .int .u8 102], box g2 5 [.int .u8 0, .int .u8 50, .int .u8 100], box g1 5 [.int .u8 99, .int .u8 100, .int .u8 101]]) rfl)
  clear hO28 S27
  go_wp2_with fail
  refine (pc_pq1 w28).mono ?_
  rintro e w29 ⟨A29, c29, rfl, hO29⟩
  have S29 := Lib.hid (((S28.out.ext (below_alloc w28 (.cells #[.string { data := #[35, 46, 35] }, .string { data := #[46, 46, 46] }, .string { data := #[35, 46, 35] }] 9))).call hO29).cast (qs := [row 4 1 (.slice A29 9 c29) 9 (bools pq1), row 4 1 (.slice A28 9 c28) 9 (bools pq7), box (B + 1) 26 [.int .i64 3, .int .i64 1, .slice (some ⟨g2, 0, none⟩) 3 3, .slice (some ⟨g3, 0, none⟩) 3 3], box B 24 [.int .i64 3, .int .i64 1, .slice (some ⟨g1, 0, none⟩) 3 3], box g3 5 [.int .u8 200, .int .u8 150, .int .u8 102], box g2 5 [.int .u8 0, .int .u8 50, .int .u8 100], box g1 5 [.int .u8 99, .int .u8 100, .int .u8 101]]) rfl)
  clear hO29 S28
  go_wp2_with fail
  refine (pc_pq8 w29).mono ?_
  rintro e w30 ⟨A30, c30, rfl, hO30⟩
  have S30 := Lib.hid (((S29.out.ext (below_alloc w29 (.cells #[.string { data := #[46, 46, 46] }, .string { data := #[35, 35, 35] }, .string { data := #[46, 46, 46] }] 9))).call hO30).cast (qs := [row 4 1 (.slice A30 9 c30) 9 (bools pq8), row 4 1 (.slice A29 9 c29) 9 (bools pq1), row 4 1 (.slice A28 9 c28) 9 (bools pq7), box (B + 1) 26 [.int .i64 3, .int .i64 1, .slice (some ⟨g2, 0, none⟩) 3 3, .slice (some ⟨g3, 0, none⟩) 3 3], box B 24 [.int .i64 3, .int .i64 1, .slice (some ⟨g1, 0, none⟩) 3 3], box g3 5 [.int .u8 200, .int .u8 150, .int .u8 102], box g2 5 [.int .u8 0, .int .u8 50, .int .u8 100], box g1 5 [.int .u8 99, .int .u8 100, .int .u8 101]]) rfl)
  clear hO30 S29
  go_wp2_with fail
  refine (pc_pq9 w30).mono ?_
  rintro e w31 ⟨A31, c31, rfl, hO31⟩
  have S31 := Lib.hid (((S30.out.ext (below_alloc w30 (.cells #[.string { data := #[35, 35, 46] }, .string { data := #[46, 35, 46] }, .string { data := #[46, 46, 35] }] 9))).call hO31).cast (qs := [row 4 1 (.slice A31 9 c31) 9 (bools pq9), row 4 1 (.slice A30 9 c30) 9 (bools pq8), row 4 1 (.slice A29 9 c29) 9 (bools pq1), row 4 1 (.slice A28 9 c28) 9 (bools pq7), box (B + 1) 26 [.int .i64 3, .int .i64 1, .slice (some ⟨g2, 0, none⟩) 3 3, .slice (some ⟨g3, 0, none⟩) 3 3], box B 24 [.int .i64 3, .int .i64 1, .slice (some ⟨g1, 0, none⟩) 3 3], box g3 5 [.int .u8 200, .int .u8 150, .int .u8 102], box g2 5 [.int .u8 0, .int .u8 50, .int .u8 100], box g1 5 [.int .u8 99, .int .u8 100, .int .u8 101]]) rfl)
  clear hO31 S30
  go_wp2_with fail
  have S32 := Lib.hid ((S31.out.new' 34 #[.int .i64 3, .int .i64 3, .slice A28 9 c28, .int .i64 3, .int .i64 3, .slice A29 9 c29, .int .i64 3, .int .i64 3, .slice A30 9 c30, .int .i64 3, .int .i64 3, .slice A31 9 c31] (B := w31.heap.size) rfl).cast (qs := [box w31.heap.size 34 [.int .i64 3, .int .i64 3, .slice A28 9 c28, .int .i64 3, .int .i64 3, .slice A29 9 c29, .int .i64 3, .int .i64 3, .slice A30 9 c30, .int .i64 3, .int .i64 3, .slice A31 9 c31], row 4 1 (.slice A31 9 c31) 9 (bools pq9), row 4 1 (.slice A30 9 c30) 9 (bools pq8), row 4 1 (.slice A29 9 c29) 9 (bools pq1), row 4 1 (.slice A28 9 c28) 9 (bools pq7), box (B + 1) 26 [.int .i64 3, .int .i64 1, .slice (some ⟨g2, 0, none⟩) 3 3, .slice (some ⟨g3, 0, none⟩) 3 3], box B 24 [.int .i64 3, .int .i64 1, .slice (some ⟨g1, 0, none⟩) 3 3], box g3 5 [.int .u8 200, .int .u8 150, .int .u8 102], box g2 5 [.int .u8 0, .int .u8 50, .int .u8 100], box g1 5 [.int .u8 99, .int .u8 100, .int .u8 101]]) rfl)
  clear S31
  go_loopg [114] 4 (fun q u114 wr => ∃ i : Nat, i ≤ 4 ∧ u114 = .int .i64 i ∧ Hid (i + q = 4 ∧ Own w wr [box w31.heap.size 34 [.int .i64 3, .int .i64 3, .slice A28 9 c28, .int .i64 3, .int .i64 3, .slice A29 9 c29, .int .i64 3, .int .i64 3, .slice A30 9 c30, .int .i64 3, .int .i64 3, .slice A31 9 c31], row 4 1 (.slice A31 9 c31) 9 (bools pq9), row 4 1 (.slice A30 9 c30) 9 (bools pq8), row 4 1 (.slice A29 9 c29) 9 (bools pq1), row 4 1 (.slice A28 9 c28) 9 (bools pq7), box (B + 1) 26 [.int .i64 3, .int .i64 1, .slice (some ⟨g2, 0, none⟩) 3 3, .slice (some ⟨g3, 0, none⟩) 3 3], box B 24 [.int .i64 3, .int .i64 1, .slice (some ⟨g1, 0, none⟩) 3 3], box g3 5 [.int .u8 200, .int .u8 150, .int .u8 102], box g2 5 [.int .u8 0, .int .u8 50, .int .u8 100], box g1 5 [.int .u8 99, .int .u8 100, .int .u8 101]]))
  case atStart => exact ⟨0, by omega, rfl, by omega, S32.out⟩
  case round =>
    obtain ⟨i, hi, rfl, hI⟩ := hrel
    have I1 := Lib.hid hI.out.1
    have I2 := Lib.hid hI.out.2
    clear hI S32
    obtain rfl | rfl | rfl | rfl | rfl : i = 0 ∨ i = 1 ∨ i = 2 ∨ i = 3 ∨ i = 4 := by omega
    · as_aux_lemma =>
      have m0 := (I2.out.bx 0 rfl).1 0 _ rfl
      have m1 := (I2.out.bx 0 rfl).1 1 _ rfl
      have m2 := (I2.out.bx 0 rfl).1 2 _ rfl
      have lm := (I2.out.bx 0 rfl).2.2
      go_upto_region 12 with fail
      have S41 := Lib.hid ((I2.out.new' 34 #[.int .i64 3, .int .i64 3, .slice A28 9 c28] (B := wr.heap.size) rfl).cast (qs := [box wr.heap.size 34 [.int .i64 3, .int .i64 3, .slice A28 9 c28], box w31.heap.size 34 [.int .i64 3, .int .i64 3, .slice A28 9 c28, .int .i64 3, .int .i64 3, .slice A29 9 c29, .int .i64 3, .int .i64 3, .slice A30 9 c30, .int .i64 3, .int .i64 3, .slice A31 9 c31], row 4 1 (.slice A31 9 c31) 9 (bools pq9), row 4 1 (.slice A30 9 c30) 9 (bools pq8), row 4 1 (.slice A29 9 c29) 9 (bools pq1), row 4 1 (.slice A28 9 c28) 9 (bools pq7), box (B + 1) 26 [.int .i64 3, .int .i64 1, .slice (some ⟨g2, 0, none⟩) 3 3, .slice (some ⟨g3, 0, none⟩) 3 3], box B 24 [.int .i64 3, .int .i64 1, .slice (some ⟨g1, 0, none⟩) 3 3], box g3 5 [.int .u8 200, .int .u8 150, .int .u8 102], box g2 5 [.int .u8 0, .int .u8 50, .int .u8 100], box g1 5 [.int .u8 99, .int .u8 100, .int .u8 101]]) rfl)
      generalize wr.alloc (.cells #[.int .i64 3, .int .i64 3, .slice A28 9 c28] 34) = w41 at *
      generalize wr.heap.size = BB at *
      clear I2 m0 m1 m2 lm
      obtain ⟨t0_0, t0_1, t0_2, _⟩ := (S41.out.bx 0 rfl).c3
      have lt0 := (S41.out.bx 0 rfl).2.2
      go_wp2_with fail
      refine (tu_pq7 A28 c28 _ (S41.out.rd 5 rfl)).mono ?_
      rintro e w42 ⟨rfl, hb42⟩
      have S42 := Lib.hid (S41.out.ext hb42)
      clear hb42 S41
      clear t0_0 t0_1 t0_2 lt0
      go_wp2_with fail
      go_roundg (gk - 1)
      case measure => have := I1.out; omega
      case rel => exact ⟨0 + 1, by omega, by go_num, by have := I1.out; omega, by have := S42.out.sub [1, 2, 3, 4, 5, 6, 7, 8, 9, 10] (by decide) (qs := [box w31.heap.size 34 [.int .i64 3, .int .i64 3, .slice A28 9 c28, .int .i64 3, .int .i64 3, .slice A29 9 c29, .int .i64 3, .int .i64 3, .slice A30 9 c30, .int .i64 3, .int .i64 3, .slice A31 9 c31], row 4 1 (.slice A31 9 c31) 9 (bools pq9), row 4 1 (.slice A30 9 c30) 9 (bools pq8), row 4 1 (.slice A29 9 c29) 9 (bools pq1), row 4 1 (.slice A28 9 c28) 9 (bools pq7), box (B + 1) 26 [.int .i64 3, .int .i64 1, .slice (some ⟨g2, 0, none⟩) 3 3, .slice (some ⟨g3, 0, none⟩) 3 3], box B 24 [.int .i64 3, .int .i64 1, .slice (some ⟨g1, 0, none⟩) 3 3], box g3 5 [.int .u8 200, .int .u8 150, .int .u8 102], box g2 5 [.int .u8 0, .int .u8 50, .int .u8 100], box g1 5 [.int .u8 99, .int .u8 100, .int .u8 101]]) rfl; first | exact this | exact this.ext (below_alloc _ _)⟩
    · as_aux_lemma =>
      have m0 := (I2.out.bx 0 rfl).1 3 _ rfl
      have m1 := (I2.out.bx 0 rfl).1 4 _ rfl
      have m2 := (I2.out.bx 0 rfl).1 5 _ rfl
      have lm := (I2.out.bx 0 rfl).2.2
      go_upto_region 12 with fail
      have S41 := Lib.hid ((I2.out.new' 34 #[.int .i64 3, .int .i64 3, .slice A29 9 c29] (B := wr.heap.size) rfl).cast (qs := [box wr.heap.size 34 [.int .i64 3, .int .i64 3, .slice A29 9 c29], box w31.heap.size 34 [.int .i64 3, .int .i64 3, .slice A28 9 c28, .int .i64 3, .int .i64 3, .slice A29 9 c29, .int .i64 3, .int .i64 3, .slice A30 9 c30, .int .i64 3, .int .i64 3, .slice A31 9 c31], row 4 1 (.slice A31 9 c31) 9 (bools pq9), row 4 1 (.slice A30 9 c30) 9 (bools pq8), row 4 1 (.slice A29 9 c29) 9 (bools pq1), row 4 1 (.slice A28 9 c28) 9 (bools pq7), box (B + 1) 26 [.int .i64 3, .int .i64 1, .slice (some ⟨g2, 0, none⟩) 3 3, .slice (some ⟨g3, 0, none⟩) 3 3], box B 24 [.int .i64 3, .int .i64 1, .slice (some ⟨g1, 0, none⟩) 3 3], box g3 5 [.int .u8 200, .int .u8 150, .int .u8 102], box g2 5 [.int .u8 0, .int .u8 50, .int .u8 100], box g1 5 [.int .u8 99, .int .u8 100, .int .u8 101]]) rfl)
      generalize wr.alloc (.cells #[.int .i64 3, .int .i64 3, .slice A29 9 c29] 34) = w41 at *
      generalize wr.heap.size = BB at *
      clear I2 m0 m1 m2 lm
      obtain ⟨t0_0, t0_1, t0_2, _⟩ := (S41.out.bx 0 rfl).c3
      have lt0 := (S41.out.bx 0 rfl).2.2
      go_wp2_with fail
      refine (tu_pq1 A29 c29 _ (S41.out.rd 4 rfl)).mono ?_
      rintro e w42 ⟨rfl, hb42⟩
      have S42 := Lib.hid (S41.out.ext hb42)
      clear hb42 S41
      clear t0_0 t0_1 t0_2 lt0
      go_wp2_with fail
      go_roundg (gk - 1)
      case measure => have := I1.out; omega
      case rel => exact ⟨1 + 1, by omega, by go_num, by have := I1.out; omega, by have := S42.out.sub [1, 2, 3, 4, 5, 6, 7, 8, 9, 10] (by decide) (qs := [box w31.heap.size 34 [.int .i64 3, .int .i64 3, .slice A28 9 c28, .int .i64 3, .int .i64 3, .slice A29 9 c29, .int .i64 3, .int .i64 3, .slice A30 9 c30, .int .i64 3, .int .i64 3, .slice A31 9 c31], row 4 1 (.slice A31 9 c31) 9 (bools pq9), row 4 1 (.slice A30 9 c30) 9 (bools pq8), row 4 1 (.slice A29 9 c29) 9 (bools pq1), row 4 1 (.slice A28 9 c28) 9 (bools pq7), box (B + 1) 26 [.int .i64 3, .int .i64 1, .slice (some ⟨g2, 0, none⟩) 3 3, .slice (some ⟨g3, 0, none⟩) 3 3], box B 24 [.int .i64 3, .int .i64 1, .slice (some ⟨g1, 0, none⟩) 3 3], box g3 5 [.int .u8 200, .int .u8 150, .int .u8 102], box g2 5 [.int .u8 0, .int .u8 50, .int .u8 100], box g1 5 [.int .u8 99, .int .u8 100, .int .u8 101]]) rfl; first | exact this | exact this.ext (below_alloc _ _)⟩
    · as_aux_lemma =>
      have m0 := (I2.out.bx 0 rfl).1 6 _ rfl
      have m1 := (I2.out.bx 0 rfl).1 7 _ rfl
      have m2 := (I2.out.bx 0 rfl).1 8 _ rfl
      have lm := (I2.out.bx 0 rfl).2.2
      go_upto_region 12 with fail
      have S41 := Lib.hid ((I2.out.new' 34 #[.int .i64 3, .int .i64 3, .slice A30 9 c30] (B := wr.heap.size) rfl).cast (qs := [box wr.heap.size 34 [.int .i64 3, .int .i64 3, .slice A30 9 c30], box w31.heap.size 34 [.int .i64 3, .int .i64 3, .slice A28 9 c28, .int .i64 3, .int .i64 3, .slice A29 9 c29, .int .i64 3, .int .i64 3, .slice A30 9 c30, .int .i64 3, .int .i64 3, .slice A31 9 c31], row 4 1 (.slice A31 9 c31) 9 (bools pq9), row 4 1 (.slice A30 9 c30) 9 (bools pq8), row 4 1 (.slice A29 9 c29) 9 (bools pq1), row 4 1 (.slice A28 9 c28) 9 (bools pq7), box (B + 1) 26 [.int .i64 3, .int .i64 1, .slice (some ⟨g2, 0, none⟩) 3 3, .slice (some ⟨g3, 0, none⟩) 3 3], box B 24 [.int .i64 3, .int .i64 1, .slice (some ⟨g1, 0, none⟩) 3 3], box g3 5 [.int .u8 200, .int .u8 150, .int .u8 102], box g2 5 [.int .u8 0, .int .u8 50, .int .u8 100], box g1 5 [.int .u8 99, .int .u8 100, .int .u8 101]]) rfl)
      generalize wr.alloc (.cells #[.int .i64 3, .int .i64 3, .slice A30 9 c30] 34) = w41 at *
      generalize wr.heap.size = BB at *
      clear I2 m0 m1 m2 lm
      obtain ⟨t0_0, t0_1, t0_2, _⟩ := (S41.out.bx 0 rfl).c3
      have lt0 := (S41.out.bx 0 rfl).2.2
      go_wp2_with fail
      refine (tu_pq8 A30 c30 _ (S41.out.rd 3 rfl)).mono ?_
      rintro e w42 ⟨rfl, hb42⟩
      have S42 := Lib.hid (S41.out.ext hb42)
      clear hb42 S41
      clear t0_0 t0_1 t0_2 lt0
      go_wp2_with fail
      go_roundg (gk - 1)
      case measure => have := I1.out; omega
      case rel => exact ⟨2 + 1, by omega, by go_num, by have := I1.out; omega, by have := S42.out.sub [1, 2, 3, 4, 5, 6, 7, 8, 9, 10] (by decide) (qs := [box w31.heap.size 34 [.int .i64 3, .int .i64 3, .slice A28 9 c28, .int .i64 3, .int .i64 3, .slice A29 9 c29, .int .i64 3, .int .i64 3, .slice A30 9 c30, .int .i64 3, .int .i64 3, .slice A31 9 c31], row 4 1 (.slice A31 9 c31) 9 (bools pq9), row 4 1 (.slice A30 9 c30) 9 (bools pq8), row 4 1 (.slice A29 9 c29) 9 (bools pq1), row 4 1 (.slice A28 9 c28) 9 (bools pq7), box (B + 1) 26 [.int .i64 3, .int .i64 1, .slice (some ⟨g2, 0, none⟩) 3 3, .slice (some ⟨g3, 0, none⟩) 3 3], box B 24 [.int .i64 3, .int .i64 1, .slice (some ⟨g1, 0, none⟩) 3 3], box g3 5 [.int .u8 200, .int .u8 150, .int .u8 102], box g2 5 [.int .u8 0, .int .u8 50, .int .u8 100], box g1 5 [.int .u8 99, .int .u8 100, .int .u8 101]]) rfl; first | exact this | exact this.ext (below_alloc _ _)⟩
    · as_aux_lemma =>
      have m0 := (I2.out.bx 0 rfl).1 9 _ rfl
      have m1 := (I2.out.bx 0 rfl).1 10 _ rfl
      have m2 := (I2.out.bx 0 rfl).1 11 _ rfl
      have lm := (I2.out.bx 0 rfl).2.2
      go_upto_region 12 with fail
      have S41 := Lib.hid ((I2.out.new' 34 #[.int .i64 3, .int .i64 3, .slice A31 9 c31] (B := wr.heap.size) rfl).cast (qs := [box wr.heap.size 34 [.int .i64 3, .int .i64 3, .slice A31 9 c31], box w31.heap.size 34 [.int .i64 3, .int .i64 3, .slice A28 9 c28, .int .i64 3, .int .i64 3, .slice A29 9 c29, .int .i64 3, .int .i64 3, .slice A30 9 c30, .int .i64 3, .int .i64 3, .slice A31 9 c31], row 4 1 (.slice A31 9 c31) 9 (bools pq9), row 4 1 (.slice A30 9 c30) 9 (bools pq8), row 4 1 (.slice A29 9 c29) 9 (bools pq1), row 4 1 (.slice A28 9 c28) 9 (bools pq7), box (B + 1) 26 [.int .i64 3, .int .i64 1, .slice (some ⟨g2, 0, none⟩) 3 3, .slice (some ⟨g3, 0, none⟩) 3 3], box B 24 [.int .i64 3, .int .i64 1, .slice (some ⟨g1, 0, none⟩) 3 3], box g3 5 [.int .u8 200, .int .u8 150, .int .u8 102], box g2 5 [.int .u8 0, .int .u8 50, .int .u8 100], box g1 5 [.int .u8 99, .int .u8 100, .int .u8 101]]) rfl)
      generalize wr.alloc (.cells #[.int .i64 3, .int .i64 3, .slice A31 9 c31] 34) = w41 at *
      generalize wr.heap.size = BB at *
      clear I2 m0 m1 m2 lm
      obtain ⟨t0_0, t0_1, t0_2, _⟩ := (S41.out.bx 0 rfl).c3
      have lt0 := (S41.out.bx 0 rfl).2.2
      go_wp2_with fail
      refine (tu_pq9 A31 c31 _ (S41.out.rd 2 rfl)).mono ?_
      rintro e w42 ⟨rfl, hb42⟩
      have S42 := Lib.hid (S41.out.ext hb42)
      clear hb42 S41
      clear t0_0 t0_1 t0_2 lt0
      go_wp2_with fail
      go_roundg (gk - 1)
      case measure => have := I1.out; omega
      case rel => exact ⟨3 + 1, by omega, by go_num, by have := I1.out; omega, by have := S42.out.sub [1, 2, 3, 4, 5, 6, 7, 8, 9, 10] (by decide) (qs := [box w31.heap.size 34 [.int .i64 3, .int .i64 3, .slice A28 9 c28, .int .i64 3, .int .i64 3, .slice A29 9 c29, .int .i64 3, .int .i64 3, .slice A30 9 c30, .int .i64 3, .int .i64 3, .slice A31 9 c31], row 4 1 (.slice A31 9 c31) 9 (bools pq9), row 4 1 (.slice A30 9 c30) 9 (bools pq8), row 4 1 (.slice A29 9 c29) 9 (bools pq1), row 4 1 (.slice A28 9 c28) 9 (bools pq7), box (B + 1) 26 [.int .i64 3, .int .i64 1, .slice (some ⟨g2, 0, none⟩) 3 3, .slice (some ⟨g3, 0, none⟩) 3 3], box B 24 [.int .i64 3, .int .i64 1, .slice (some ⟨g1, 0, none⟩) 3 3], box g3 5 [.int .u8 200, .int .u8 150, .int .u8 102], box g2 5 [.int .u8 0, .int .u8 50, .int .u8 100], box g1 5 [.int .u8 99, .int .u8 100, .int .u8 101]]) rfl; first | exact this | exact this.ext (below_alloc _ _)⟩
    as_aux_lemma =>
    have S41 := Lib.hid (I2.out.sub [5, 6, 7, 8, 9] (by decide) (qs := [box (B + 1) 26 [.int .i64 3, .int .i64 1, .slice (some ⟨g2, 0, none⟩) 3 3, .slice (some ⟨g3, 0, none⟩) 3 3], box B 24 [.int .i64 3, .int .i64 1, .slice (some ⟨g1, 0, none⟩) 3 3], box g3 5 [.int .u8 200, .int .u8 150, .int .u8 102], box g2 5 [.int .u8 0, .int .u8 50, .int .u8 100], box g1 5 [.int .u8 99, .int .u8 100, .int .u8 101]]) rfl)
    clear I2
    go_wp2_with fail
    refine (pc_pq10 wr).mono ?_
    rintro e w42 ⟨A42, c42, rfl, hO42⟩
    have S42 := Lib.hid (((S41.out.ext (below_alloc wr (.cells #[.string { data := #[46, 46, 46] }, .string { data := #[46, 35, 35] }, .string { data := #[46, 46, 46] }] 9))).call hO42).cast (qs := [row 4 1 (.slice A42 9 c42) 9 (bools pq10), box (B + 1) 26 [.int .i64 3, .int .i64 1, .slice (some ⟨g2, 0, none⟩) 3 3, .slice (some ⟨g3, 0, none⟩) 3 3], box B 24 [.int .i64 3, .int .i64 1, .slice (some ⟨g1, 0, none⟩) 3 3], box g3 5 [.int .u8 200, .int .u8 150, .int .u8 102], box g2 5 [.int .u8 0, .int .u8 50, .int .u8 100], box g1 5 [.int .u8 99, .int .u8 100, .int .u8 101]]) rfl)
    clear hO42 S41
    go_wp2_with fail
    refine (cr_pq10 A42 c42 _ (S42.out.rd 0 rfl)).mono ?_
    rintro e w43 ⟨rfl, hb43⟩
    have S43 := Lib.hid (S42.out.ext hb43)
    clear hb43 S42
    have S44 := Lib.hid (S43.out.sub [1, 2, 3, 4, 5] (by decide) (qs := [box (B + 1) 26 [.int .i64 3, .int .i64 1, .slice (some ⟨g2, 0, none⟩) 3 3, .slice (some ⟨g3, 0, none⟩) 3 3], box B 24 [.int .i64 3, .int .i64 1, .slice (some ⟨g1, 0, none⟩) 3 3], box g3 5 [.int .u8 200, .int .u8 150, .int .u8 102], box g2 5 [.int .u8 0, .int .u8 50, .int .u8 100], box g1 5 [.int .u8 99, .int .u8 100, .int .u8 101]]) rfl)
    clear S43
    go_wp2_with fail
    refine (pc_pq11 w43).mono ?_
    rintro e w45 ⟨A45, c45, rfl, hO45⟩
    have S45 := Lib.hid (((S44.out.ext (below_alloc w43 (.cells #[.string { data := #[35, 46, 35] }, .string { data := #[46, 35, 46] }, .string { data := #[35, 46, 35] }] 9))).call hO45).cast (qs := [row 4 1 (.slice A45 9 c45) 9 (bools pq11), box (B + 1) 26 [.int .i64 3, .int .i64 1, .slice (some ⟨g2, 0, none⟩) 3 3, .slice (some ⟨g3, 0, none⟩) 3 3], box B 24 [.int .i64 3, .int .i64 1, .slice (some ⟨g1, 0, none⟩) 3 3], box g3 5 [.int .u8 200, .int .u8 150, .int .u8 102], box g2 5 [.int .u8 0, .int .u8 50, .int .u8 100], box g1 5 [.int .u8 99, .int .u8 100, .int .u8 101]]) rfl)
    clear hO45 S44
    go_wp2_with fail
    refine (cr_pq11 A45 c45 _ (S45.out.rd 0 rfl)).mono ?_
    rintro e w46 ⟨rfl, hb46⟩
    have S46 := Lib.hid (S45.out.ext hb46)
    clear hb46 S45
    have S47 := Lib.hid (S46.out.sub [1, 2, 3, 4, 5] (by decide) (qs := [box (B + 1) 26 [.int .i64 3, .int .i64 1, .slice (some ⟨g2, 0, none⟩) 3 3, .slice (some ⟨g3, 0, none⟩) 3 3], box B 24 [.int .i64 3, .int .i64 1, .slice (some ⟨g1, 0, none⟩) 3 3], box g3 5 [.int .u8 200, .int .u8 150, .int .u8 102], box g2 5 [.int .u8 0, .int .u8 50, .int .u8 100], box g1 5 [.int .u8 99, .int .u8 100, .int .u8 101]]) rfl)
    clear S46
    obtain ⟨t0_0, t0_1, t0_2, t0_3, _⟩ := (S47.out.bx 0 rfl).c4
    have lt0 := (S47.out.bx 0 rfl).2.2
    have y0 := (S47.out.bx 2 rfl).1 2 _ rfl
    have y1 := (S47.out.bx 2 rfl).2.1
    have y2 := (S47.out.bx 2 rfl).2.2
    go_upto_region 19 with fail
    have T1 := Lib.hid ((S47.out.set 2 rfl 2 (.int .u8 100)).cast (qs := [box (B + 1) 26 [.int .i64 3, .int .i64 1, .slice (some ⟨g2, 0, none⟩) 3 3, .slice (some ⟨g3, 0, none⟩) 3 3], box B 24 [.int .i64 3, .int .i64 1, .slice (some ⟨g1, 0, none⟩) 3 3], box g3 5 [.int .u8 200, .int .u8 150, .int .u8 100], box g2 5 [.int .u8 0, .int .u8 50, .int .u8 100], box g1 5 [.int .u8 99, .int .u8 100, .int .u8 101]]) rfl)
    generalize w46.setCell _ _ = v1 at *
    clear S47 t0_0 t0_1 t0_2 t0_3 lt0 y0 y1 y2
    obtain ⟨t0_0, t0_1, t0_2, t0_3, _⟩ := (T1.out.bx 0 rfl).c4
    have lt0 := (T1.out.bx 0 rfl).2.2
    obtain ⟨t1_0, t1_1, t1_2, _⟩ := (T1.out.bx 1 rfl).c3
    have lt1 := (T1.out.bx 1 rfl).2.2
    go_wp2_with fail
    refine (bad_ex 3 11 _ _ _ 3 3 3 _ (rd_box (xs := u8s [99, 100, 101]) (sp := []) (T1.out.bx 4 rfl)) (rd_box (xs := u8s [0, 50, 100]) (sp := []) (T1.out.bx 3 rfl)) (rd_box (xs := u8s [200, 150, 100]) (sp := []) (T1.out.bx 2 rfl)) (by decide) (by decide)).mono ?_
    rintro e w48 ⟨Bx, cx, rfl, hb48⟩
    have S48 := Lib.hid (T1.out.ext hb48)
    clear hb48 T1
    clear t0_0 t0_1 t0_2 t0_3 lt0 t1_0 t1_1 t1_2 lt1
    obtain ⟨t1_0, t1_1, t1_2, _⟩ := (S48.out.bx 1 rfl).c3
    have lt1 := (S48.out.bx 1 rfl).2.2
    go_upto_region 21 with fail
    have T2 := Lib.hid ((S48.out.set 1 rfl 0 (.int .i64 2)).cast (qs := [box (B + 1) 26 [.int .i64 3, .int .i64 1, .slice (some ⟨g2, 0, none⟩) 3 3, .slice (some ⟨g3, 0, none⟩) 3 3], box B 24 [.int .i64 2, .int .i64 1, .slice (some ⟨g1, 0, none⟩) 3 3], box g3 5 [.int .u8 200, .int .u8 150, .int .u8 100], box g2 5 [.int .u8 0, .int .u8 50, .int .u8 100], box g1 5 [.int .u8 99, .int .u8 100, .int .u8 101]]) rfl)
    generalize w48.setCell _ _ = v2 at *
    clear S48 t1_0 t1_1 t1_2 lt1
    obtain ⟨t0_0, t0_1, t0_2, t0_3, _⟩ := (T2.out.bx 0 rfl).c4
    have lt0 := (T2.out.bx 0 rfl).2.2
    obtain ⟨t1_0, t1_1, t1_2, _⟩ := (T2.out.bx 1 rfl).c3
    have lt1 := (T2.out.bx 1 rfl).2.2
    go_wp2_with fail
    refine (bad_ex 2 10 _ _ _ 3 3 3 _ (rd_box (xs := u8s [99, 100, 101]) (sp := []) (T2.out.bx 4 rfl)) (rd_box (xs := u8s [0, 50, 100]) (sp := []) (T2.out.bx 3 rfl)) (rd_box (xs := u8s [200, 150, 100]) (sp := []) (T2.out.bx 2 rfl)) (by decide) (by decide)).mono ?_
    rintro e w49 ⟨By, cy, rfl, hb49⟩
    have S49 := Lib.hid (T2.out.ext hb49)
    clear hb49 T2
    clear t0_0 t0_1 t0_2 t0_3 lt0 t1_0 t1_1 t1_2 lt1
    go_wp2_with fail
    go_ret
    exact ⟨rfl, below_more S49.out.bel _⟩
end Go.Proofs.Ytjelnbfnoliocaa
