/- Rates: the examples of the chapter, which every statement asks first. No condition. -/
import Derived.Test.YtnalbchggjepdaaWb
import Derived.Test.YtnalbchggjepdaaVd
import Derived.Test.YtnalbchggjepdaaTf
namespace Go.Proofs.Ytnalbchggjepdaa
open Go.RowKit Go.Shelf
attribute [local go_sem] Oper.semAt_some

def frontL : List Pt := [⟨1, 9, 0, 1⟩, ⟨3, 9, 1, 0⟩]
set_option maxRecDepth 100000 in
set_option maxHeartbeats 4000000 in
theorem alive_any (w : World) : Calls Try.prog 46 #[] w fun e w' => e = .returned (.bool true) ∧ Below w.heap.size w w' := by
  have K1 := Lib.hid (fun A c W (h : Rd W A (ints fourL)) => threshold_any A fourL 4 c 2 5 W h rfl (by omega))
  have K2 := Lib.hid (fun A c W (h : Rd W A (ints fourL)) => threshold_any A fourL 4 c 1 6 W h rfl (by omega))
  have K3 := Lib.hid (fun A c W (h : Rd W A (ints fourL)) => chance_any A fourL 4 c 20 W h rfl (by omega))
  have K4 := Lib.hid (fun W => tail_any 1 2 1 2 W)
  have K5 := Lib.hid (fun W => differ_any 2 2 0 2 1 6 W)
  have K6 := Lib.hid (fun A c W (h : Rd W A (flat encD threeL)) => frontier_any A threeL 4 c W h rfl (by omega))
  rw [thr_four1] at K1
  rw [thr_four2] at K2
  rw [cha_four] at K3
  rw [tail_ex] at K4
  rw [differ_ex] at K5
  rw [fro_three, dbl_three] at K6
  go_enter Try.func46, Try.ntmps46
  go_wp2_with fail
  refine (four_any _).mono ?_
  rintro e w1 ⟨A1, rfl, hb1, hr1⟩
  have S1 := Lib.hid ((Own.start w).ext hb1)
  have R1 := Lib.hid hr1
  clear hb1 hr1
  go_wp2_with fail
  refine (part_any 2 5 _).mono ?_
  rintro e w2 ⟨rfl, hb2⟩
  have S2 := Lib.hid (S1.out.ext hb2)
  have R2 := Lib.hid (R1.out.below hb2)
  clear hb2 S1 R1
  go_wp2_with fail
  refine (K1.out A1 4 _ R2.out).mono ?_
  rintro e w3 ⟨rfl, hb3⟩
  have S3 := Lib.hid (S2.out.ext hb3)
  clear hb3 S2 R2 K1
  go_wp2_with fail
  refine (four_any _).mono ?_
  rintro e w1' ⟨A2, rfl, hb1, hr1⟩
  have S1 := Lib.hid (S3.out.ext hb1)
  have R1 := Lib.hid hr1
  clear hb1 hr1 S3
  go_wp2_with fail
  refine (part_any 1 6 _).mono ?_
  rintro e w2' ⟨rfl, hb2⟩
  have S2 := Lib.hid (S1.out.ext hb2)
  have R2 := Lib.hid (R1.out.below hb2)
  clear hb2 S1 R1
  go_wp2_with fail
  refine (K2.out A2 4 _ R2.out).mono ?_
  rintro e w3' ⟨rfl, hb3⟩
  have S3 := Lib.hid (S2.out.ext hb3)
  clear hb3 S2 R2 K2
  go_wp2_with fail
  refine (four_any _).mono ?_
  rintro e w4 ⟨A3, rfl, hb1, hr1⟩
  have S4 := Lib.hid (S3.out.ext hb1)
  have R1 := Lib.hid hr1
  clear hb1 hr1 S3
  go_wp2_with fail
  refine (K3.out A3 4 _ R1.out).mono ?_
  rintro e w5 ⟨rfl, hb5⟩
  have S5 := Lib.hid ((S4.out.ext hb5).new' 23 #[.int .i64 4, .int .i64 5] (B := w5.heap.size) rfl)
  clear hb5 S4 R1 K3
  go_wp2_with fail
  obtain ⟨B5, hB5⟩ : ∃ B5, B5 = w5.heap.size := ⟨_, rfl⟩
  rw [← hB5] at S5 ⊢
  clear hB5
  generalize w5.alloc _ = W5 at *
  refine (K4.out _).mono ?_
  rintro e w6 ⟨rfl, hb6⟩
  have S6 := Lib.hid (S5.out.ext hb6)
  clear hb6 S5 K4
  go_wp2_with fail
  refine (part_any 1 6 _).mono ?_
  rintro e w7 ⟨rfl, hb7⟩
  have S7 := Lib.hid (S6.out.ext hb7)
  clear hb7 S6
  go_wp2_with fail
  refine (K5.out _).mono ?_
  rintro e w8 ⟨rfl, hb8⟩
  have S8 := Lib.hid (S7.out.ext hb8)
  clear hb8 S7 K5
  go_wp2_with fail
  refine (three_any _).mono ?_
  rintro e w9 ⟨A4, rfl, hb9, hr9⟩
  have S9 := Lib.hid (S8.out.ext hb9)
  have R9 := Lib.hid hr9
  clear hb9 hr9 S8
  go_wp2_with fail
  refine (K6.out A4 4 _ R9.out).mono ?_
  rintro e wA ⟨A5, c5, rfl, hOA⟩
  have SA := Lib.hid ((S9.out.call hOA).cast (qs := [row 68 4 (.slice A5 2 c5) 2 (flat encP frontL), box B5 23 [.int .i64 4, .int .i64 5]]) rfl)
  clear hOA S9 R9 K6
  obtain ⟨g, rfl⟩ := SA.out.rowAddr 0 rfl (by decide)
  go_upto_region 7 with (fail)
  have fb0 := fun x : OwnOf w [row 68 4 (.slice (some ⟨g, 0, none⟩) 2 c5) 2 (flat encP frontL), box B5 23 [.int .i64 4, .int .i64 5]] => (x.bx 1 rfl).1 0 _ rfl
  have fb1 := fun x : OwnOf w [row 68 4 (.slice (some ⟨g, 0, none⟩) 2 c5) 2 (flat encP frontL), box B5 23 [.int .i64 4, .int .i64 5]] => (x.bx 1 rfl).1 1 _ rfl
  have fp0 := fun x : OwnOf w [row 68 4 (.slice (some ⟨g, 0, none⟩) 2 c5) 2 (flat encP frontL), box B5 23 [.int .i64 4, .int .i64 5]] => x.own.rowAt (g := g) (j := 0) (u := .int .i64 1) 0 rfl rfl
  have fp1 := fun x : OwnOf w [row 68 4 (.slice (some ⟨g, 0, none⟩) 2 c5) 2 (flat encP frontL), box B5 23 [.int .i64 4, .int .i64 5]] => x.own.rowAt (g := g) (j := 1) (u := .int .i64 9) 0 rfl rfl
  have fp2 := fun x : OwnOf w [row 68 4 (.slice (some ⟨g, 0, none⟩) 2 c5) 2 (flat encP frontL), box B5 23 [.int .i64 4, .int .i64 5]] => x.own.rowAt (g := g) (j := 2) (u := .int .i64 0) 0 rfl rfl
  have fp3 := fun x : OwnOf w [row 68 4 (.slice (some ⟨g, 0, none⟩) 2 c5) 2 (flat encP frontL), box B5 23 [.int .i64 4, .int .i64 5]] => x.own.rowAt (g := g) (j := 3) (u := .int .i64 1) 0 rfl rfl
  have fp4 := fun x : OwnOf w [row 68 4 (.slice (some ⟨g, 0, none⟩) 2 c5) 2 (flat encP frontL), box B5 23 [.int .i64 4, .int .i64 5]] => x.own.rowAt (g := g) (j := 4) (u := .int .i64 3) 0 rfl rfl
  have fp5 := fun x : OwnOf w [row 68 4 (.slice (some ⟨g, 0, none⟩) 2 c5) 2 (flat encP frontL), box B5 23 [.int .i64 4, .int .i64 5]] => x.own.rowAt (g := g) (j := 5) (u := .int .i64 9) 0 rfl rfl
  have fp6 := fun x : OwnOf w [row 68 4 (.slice (some ⟨g, 0, none⟩) 2 c5) 2 (flat encP frontL), box B5 23 [.int .i64 4, .int .i64 5]] => x.own.rowAt (g := g) (j := 6) (u := .int .i64 1) 0 rfl rfl
  have fp7 := fun x : OwnOf w [row 68 4 (.slice (some ⟨g, 0, none⟩) 2 c5) 2 (flat encP frontL), box B5 23 [.int .i64 4, .int .i64 5]] => x.own.rowAt (g := g) (j := 7) (u := .int .i64 0) 0 rfl rfl
  have hne : Nonempty (OwnOf w [row 68 4 (.slice (some ⟨g, 0, none⟩) 2 c5) 2 (flat encP frontL), box B5 23 [.int .i64 4, .int .i64 5]]) := ⟨⟨_, SA.out⟩⟩
  refine wp_region_own SA.out (by kernel_rfl) (by kernel_rfl) ?_
  iterate 20 (go_big_quiet_step (fail))
  go_big_quiet_step ((go_at_call 49; exact own_of (part_any 4 5 _)))
  iterate 41 (go_big_quiet_step (fail))
  refine wpQuiet_nil ?_
  rintro wB ⟨z, hz⟩
  have HE := Lib.hid (show Below w.heap.size w wB by rw [hz]; exact z.own.bel)
  clear hz z hne fb0 fb1 fp0 fp1 fp2 fp3 fp4 fp5 fp6 fp7
  go_wp2_with fail
  go_ret
  exact ⟨rfl, HE.out⟩
end Go.Proofs.Ytnalbchggjepdaa
