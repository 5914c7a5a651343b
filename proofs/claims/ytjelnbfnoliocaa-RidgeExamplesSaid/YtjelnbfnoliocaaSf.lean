/- Ridge: alive. No condition. -/
import Derived.Test.YtjelnbfnoliocaaSe
import Derived.Test.YtjelnbfnoliocaaBase
namespace Go.Proofs.Ytjelnbfnoliocaa
open Go.RowKit Go.Shelf
attribute [local go_sem] Oper.semAt_some

def p6 : List Bool := [true, false, false]
/-- A picture of given rows. -/
def PicW (W H n : Nat) (l : List Bool) : Wd := .rd (fun A c => .agg #[.int .i64 (W : Int), .int .i64 (H : Int), .slice A n c]) (bools l)
theorem pic_of (rows : List ByteArray) (W H n : Nat) (l : List Bool) (h0 : 0 < rows.length) (hH : H = rows.length) (hW : W = rows[0].size) (hl : hashL rows = l) (hn : n = l.length) (hw : ∀ s ∈ rows, s.size ≤ 20) (hb : n ≤ 400) (hh : H ≤ 20)
    (A : Option Addr) (c : Nat) (w : World) (hr : Rd w A (strs rows)) : Calls Try.prog 50 #[.slice A H c] w fun e w' => ∃ v, e = .returned v ∧ Below w.heap.size w w' ∧ (PicW W H n l).holds v w' := by
  subst hl; subst hW; subst hn
  refine (picture_any rows A H c w hr hH h0 hw hb hh).mono ?_
  rintro e w' ⟨A', c', rfl, hO⟩
  exact ⟨_, rfl, hO.bel, A', c', rfl, hO.rd 0 rfl⟩
theorem pic_p1 (A : Option Addr) (c : Nat) (w : World) (hr : Rd w A (strs [{ data := #[46, 35, 46] }, { data := #[46, 35, 35] }, { data := #[46, 46, 46] }])) : Calls Try.prog 50 #[.slice A 3 c] w fun e w' => ∃ v, e = .returned v ∧ Below w.heap.size w w' ∧ (PicW 3 3 9 p1).holds v w' :=
  pic_of [{ data := #[46, 35, 46] }, { data := #[46, 35, 35] }, { data := #[46, 46, 46] }] 3 3 9 p1 (by decide) rfl rfl (by decide +kernel) rfl (by decide +kernel) (by decide) (by decide) A c w hr
theorem pic_p2 (A : Option Addr) (c : Nat) (w : World) (hr : Rd w A (strs [{ data := #[46, 46, 46, 46, 46] }, { data := #[46, 35, 35, 35, 46] }, { data := #[46, 46, 46, 46, 46] }])) : Calls Try.prog 50 #[.slice A 3 c] w fun e w' => ∃ v, e = .returned v ∧ Below w.heap.size w w' ∧ (PicW 5 3 15 p2).holds v w' :=
  pic_of [{ data := #[46, 46, 46, 46, 46] }, { data := #[46, 35, 35, 35, 46] }, { data := #[46, 46, 46, 46, 46] }] 5 3 15 p2 (by decide) rfl rfl (by decide +kernel) rfl (by decide +kernel) (by decide) (by decide) A c w hr
theorem pic_p3 (A : Option Addr) (c : Nat) (w : World) (hr : Rd w A (strs [{ data := #[35, 35, 35, 35] }, { data := #[35, 35, 35, 35] }, { data := #[35, 35, 35, 35] }])) : Calls Try.prog 50 #[.slice A 3 c] w fun e w' => ∃ v, e = .returned v ∧ Below w.heap.size w w' ∧ (PicW 4 3 12 p3).holds v w' :=
  pic_of [{ data := #[35, 35, 35, 35] }, { data := #[35, 35, 35, 35] }, { data := #[35, 35, 35, 35] }] 4 3 12 p3 (by decide) rfl rfl (by decide +kernel) rfl (by decide +kernel) (by decide) (by decide) A c w hr
theorem pic_p4 (A : Option Addr) (c : Nat) (w : World) (hr : Rd w A (strs [{ data := #[46, 46, 46, 46] }, { data := #[35, 35, 35, 35] }, { data := #[46, 46, 46, 46] }])) : Calls Try.prog 50 #[.slice A 3 c] w fun e w' => ∃ v, e = .returned v ∧ Below w.heap.size w w' ∧ (PicW 4 3 12 p4).holds v w' :=
  pic_of [{ data := #[46, 46, 46, 46] }, { data := #[35, 35, 35, 35] }, { data := #[46, 46, 46, 46] }] 4 3 12 p4 (by decide) rfl rfl (by decide +kernel) rfl (by decide +kernel) (by decide) (by decide) A c w hr
theorem pic_p5 (A : Option Addr) (c : Nat) (w : World) (hr : Rd w A (strs [{ data := #[35, 35, 35] }, { data := #[35, 46, 35] }, { data := #[35, 35, 35] }])) : Calls Try.prog 50 #[.slice A 3 c] w fun e w' => ∃ v, e = .returned v ∧ Below w.heap.size w w' ∧ (PicW 3 3 9 p5).holds v w' :=
  pic_of [{ data := #[35, 35, 35] }, { data := #[35, 46, 35] }, { data := #[35, 35, 35] }] 3 3 9 p5 (by decide) rfl rfl (by decide +kernel) rfl (by decide +kernel) (by decide) (by decide) A c w hr
theorem pic_p6 (A : Option Addr) (c : Nat) (w : World) (hr : Rd w A (strs [{ data := #[35, 46, 46] }])) : Calls Try.prog 50 #[.slice A 1 c] w fun e w' => ∃ v, e = .returned v ∧ Below w.heap.size w w' ∧ (PicW 3 1 3 p6).holds v w' :=
  pic_of [{ data := #[35, 46, 46] }] 3 1 3 p6 (by decide) rfl rfl (by decide +kernel) rfl (by decide +kernel) (by decide) (by decide) A c w hr
theorem call_true {f : FuncId} {args : Array Value} {w : World} {d : Tmp} {tb : List (Tmp × Wd)} (h : Calls Try.prog f args w fun e w' => e = .returned (.bool true) ∧ Below w.heap.size w w') (ht : tabOf tb d (.bool true) w = (Value.bool true = .bool true) := by rfl) :
    Calls Try.prog f args w fun e w' => ∃ v, e = .returned v ∧ Below w.heap.size w w' ∧ tabOf tb d v w' := by
  refine h.mono ?_
  rintro e w' ⟨rfl, hb⟩
  refine ⟨_, rfl, hb, ?_⟩
  have : tabOf tb d (.bool true) w := by rw [ht]
  exact Wd.mono _ _ _ _ this hb
set_option maxRecDepth 100000 in
set_option maxHeartbeats 2000000 in
theorem alive_any (w : World) : Calls Try.prog 42 #[] w fun e w' => e = .returned (.bool true) ∧ Below w.heap.size w w' := by
  go_enter Try.func42, Try.ntmps42
  go_wp2_with fail
  refine (sample_any _).mono ?_
  rintro e w1 ⟨g1, g2, g3, rfl, hO⟩
  have S1 := Lib.hid ((Own.start w).call hO)
  clear hO
  go_upto_region 2 with fail
  have S2 := Lib.hid (S1.out.new' 24 #[.int .i64 3, .int .i64 1, .slice (some ⟨g1, 0, none⟩) 3 3] (B := w1.heap.size) rfl)
  have S3 := Lib.hid ((S2.out.new' 26 #[.int .i64 3, .int .i64 1, .slice (some ⟨g2, 0, none⟩) 3 3, .slice (some ⟨g3, 0, none⟩) 3 3] (B := w1.heap.size + 1) (by simp)).cast (qs := [box (w1.heap.size + 1) 26 [.int .i64 3, .int .i64 1, .slice (some ⟨g2, 0, none⟩) 3 3, .slice (some ⟨g3, 0, none⟩) 3 3], box w1.heap.size 24 [.int .i64 3, .int .i64 1, .slice (some ⟨g1, 0, none⟩) 3 3], box g3 5 [.int .u8 200, .int .u8 150, .int .u8 102], box g2 5 [.int .u8 0, .int .u8 50, .int .u8 100], box g1 5 [.int .u8 99, .int .u8 100, .int .u8 101]]) rfl)
  generalize (w1.alloc _).alloc _ = w2 at *
  generalize w1.heap.size = B at *
  clear S1 S2
  obtain ⟨d0, d1, d2, d3, _⟩ := (S3.out.bx 0 rfl).c4
  have ld := (S3.out.bx 0 rfl).2.2
  obtain ⟨s0, s1, s2, _⟩ := (S3.out.bx 1 rfl).c3
  have ls := (S3.out.bx 1 rfl).2.2
  go_wp2_with fail
  refine (bin_ex _ _ _ 3 3 3 _ (rd_box (xs := u8s [99, 100, 101]) (sp := []) (S3.out.bx 4 rfl)) (rd_box (xs := u8s [0, 50, 100]) (sp := []) (S3.out.bx 3 rfl)) (rd_box (xs := u8s [200, 150, 102]) (sp := []) (S3.out.bx 2 rfl))).mono ?_
  rintro e w3 ⟨B1, c1, rfl, R1, hb3⟩
  have S4 := Lib.hid (S3.out.ext hb3)
  clear d0 d1 d2 d3 ld s0 s1 s2 ls hb3
  go_upto_region 3 with fail
  have S5 := Lib.hid ((S4.out.new' 34 #[.int .i64 3, .int .i64 1, .slice B1 3 c1] (B := w3.heap.size) rfl).cast (qs := [box w3.heap.size 34 [.int .i64 3, .int .i64 1, .slice B1 3 c1], box (B + 1) 26 [.int .i64 3, .int .i64 1, .slice (some ⟨g2, 0, none⟩) 3 3, .slice (some ⟨g3, 0, none⟩) 3 3], box B 24 [.int .i64 3, .int .i64 1, .slice (some ⟨g1, 0, none⟩) 3 3], box g3 5 [.int .u8 200, .int .u8 150, .int .u8 102], box g2 5 [.int .u8 0, .int .u8 50, .int .u8 100], box g1 5 [.int .u8 99, .int .u8 100, .int .u8 101]]) rfl)
  have R2 := Lib.hid (R1.below (below_alloc w3 (.cells #[.int .i64 3, .int .i64 1, .slice B1 3 c1] 34)))
  generalize w3.alloc _ = w4 at *
  generalize w3.heap.size = BT at *
  clear S3 S4 R1
  obtain ⟨d0, d1, d2, d3, _⟩ := (S5.out.bx 1 rfl).c4
  have ld := (S5.out.bx 1 rfl).2.2
  obtain ⟨s0, s1, s2, _⟩ := (S5.out.bx 2 rfl).c3
  have ls := (S5.out.bx 2 rfl).2.2
  go_wp2_with fail
  refine (sure_ex _ _ _ 3 3 3 _ (rd_box (xs := u8s [99, 100, 101]) (sp := []) (S5.out.bx 5 rfl)) (rd_box (xs := u8s [0, 50, 100]) (sp := []) (S5.out.bx 4 rfl)) (rd_box (xs := u8s [200, 150, 102]) (sp := []) (S5.out.bx 3 rfl))).mono ?_
  rintro e w5 ⟨B2, c2, rfl, R3, hb5⟩
  have S6 := Lib.hid ((S5.out.ext hb5).sub [0] (by decide) (qs := [box BT 34 [.int .i64 3, .int .i64 1, .slice B1 3 c1]]) rfl)
  have R4 := Lib.hid (R2.out.below hb5)
  have R5 := Lib.hid R3
  clear d0 d1 d2 d3 ld s0 s1 s2 ls hb5 R2 R3 S5
  go_upto_region 4 with fail
  go_wp2_with fail
  refine (pic_p1 (some ⟨w5.heap.size, 0, none⟩) 3 _ (Rd.new w5 #[.string { data := #[46, 35, 46] }, .string { data := #[46, 35, 35] }, .string { data := #[46, 46, 46] }] 9)).mono ?_
  rintro e w6 ⟨_, rfl, hb6, A6, c6, rfl, hr6⟩
  have S7 := Lib.hid ((S6.out.ext (below_alloc w5 (.cells #[.string { data := #[46, 35, 46] }, .string { data := #[46, 35, 35] }, .string { data := #[46, 46, 46] }] 9))).ext hb6)
  have R6 := Lib.hid (R4.out.below (below_step (below_alloc w5 (.cells #[.string { data := #[46, 35, 46] }, .string { data := #[46, 35, 35] }, .string { data := #[46, 46, 46] }] 9)) hb6))
  have R7 := Lib.hid (R5.out.below (below_step (below_alloc w5 (.cells #[.string { data := #[46, 35, 46] }, .string { data := #[46, 35, 35] }, .string { data := #[46, 46, 46] }] 9)) hb6))
  clear hb6 S6 R4 R5
  go_wp2_with fail
  refine (cross_ex A6 c6 _ hr6).mono ?_
  rintro e w7 ⟨rfl, hb7⟩
  have S8 := Lib.hid ((S7.out.ext hb7).sub [0] (by decide) (qs := [box BT 34 [.int .i64 3, .int .i64 1, .slice B1 3 c1]]) rfl)
  have R8 := Lib.hid (R6.out.below hb7)
  have R9 := Lib.hid (R7.out.below hb7)
  clear hb7 S7 R6 R7
  go_upto_region 5 with fail
  go_wp2_with fail
  refine (pic_p2 (some ⟨w7.heap.size, 0, none⟩) 3 _ (Rd.new w7 #[.string { data := #[46, 46, 46, 46, 46] }, .string { data := #[46, 35, 35, 35, 46] }, .string { data := #[46, 46, 46, 46, 46] }] 9)).mono ?_
  rintro e w8 ⟨_, rfl, hb8, A8, c8, rfl, hr8⟩
  have S9 := Lib.hid ((S8.out.ext (below_alloc w7 (.cells #[.string { data := #[46, 46, 46, 46, 46] }, .string { data := #[46, 35, 35, 35, 46] }, .string { data := #[46, 46, 46, 46, 46] }] 9))).ext hb8)
  have R10 := Lib.hid (R8.out.below (below_step (below_alloc w7 (.cells #[.string { data := #[46, 46, 46, 46, 46] }, .string { data := #[46, 35, 35, 35, 46] }, .string { data := #[46, 46, 46, 46, 46] }] 9)) hb8))
  have R11 := Lib.hid (R9.out.below (below_step (below_alloc w7 (.cells #[.string { data := #[46, 46, 46, 46, 46] }, .string { data := #[46, 35, 35, 35, 46] }, .string { data := #[46, 46, 46, 46, 46] }] 9)) hb8))
  clear hb8 S8 R8 R9
  go_wp2_with fail
  refine (min_ex A8 c8 _ hr8).mono ?_
  rintro e w9 ⟨A9, c9, rfl, hO9⟩
  have S10 := Lib.hid (((S9.out.call hO9).sub [0, 1] (by decide) (qs := [row 77 4 (.slice A9 2 c9) 2 (flat (mntE 5 3 p2) [(1, 1), (3, 1)]), box BT 34 [.int .i64 3, .int .i64 1, .slice B1 3 c1]]) rfl))
  have R12 := Lib.hid (R10.out.below hO9.bel)
  have R13 := Lib.hid (R11.out.below hO9.bel)
  clear hO9 S9 R10 R11
  go_upto_region 6 with fail
  refine wp_region_table 87 [(39, .is (.int .i64 0)), (40, .is (.bool true)), (41, .is (.bool true)), (42, .is (.agg #[.int .i64 3, .int .i64 1, .slice B1 3 c1])), (43, .rd (fun A c => .slice A 1 c) (strs [{ data := #[35, 46, 46] }])), (44, PicW 3 1 3 p6), (45, .is (.bool true)), (46, .is (.bool true)), (47, .is (.bool true)), (48, .is (.int .i64 0)), (49, .is (.bool true)), (50, .is (.bool true)), (51, .is (.bool true)), (52, .is (.slice B2 3 c2)), (53, .rd (fun A c => .slice A 3 c) (bools p6)), (54, .is (.bool true)), (55, .is (.bool true)), (56, .is (.bool true)), (57, .is (.int .i64 0)), (58, .is (.bool true)), (59, .is (.bool true)), (60, .is (.bool true)), (61, .is (.int .i64 2)), (62, .is (.bool true)), (63, .is (.bool true)), (64, .is (.bool true)), (65, .is (.int .i64 0)), (66, .is (.bool true)), (67, .is (.bool true)), (68, .is (.bool true)), (69, .is (.slice A9 2 c9)), (70, .is (.agg #[.int .i64 1, .int .i64 1, .int .u8 1, .int .u8 0])), (71, .is (.agg #[.int .i64 3, .int .i64 1, .int .u8 1, .int .u8 4])), (72, .rd (fun A c => .slice A 2 c) (flat (mntE 5 3 p2) [(1, 1), (3, 1)])), (73, .is (.bool true)), (74, .is (.bool true)), (75, .is (.bool true)), (76, .rd (fun A c => .slice A 3 c) (strs [{ data := #[35, 35, 35, 35] }, { data := #[35, 35, 35, 35] }, { data := #[35, 35, 35, 35] }])), (77, PicW 4 3 12 p3), (78, .rd (fun A c => .slice A 3 c) (strs [{ data := #[46, 46, 46, 46] }, { data := #[35, 35, 35, 35] }, { data := #[46, 46, 46, 46] }])), (79, PicW 4 3 12 p4), (80, .is (.bool true)), (81, .is (.bool true)), (82, .is (.bool true)), (83, .rd (fun A c => .slice A 3 c) (strs [{ data := #[35, 35, 35] }, { data := #[35, 46, 35] }, { data := #[35, 35, 35] }])), (84, PicW 3 3 9 p5), (85, .is (.bool true)), (86, .is (.bool true)), (0, .is (.bool true))] (Own.start w9) (by kernel_rfl) (by kernel_rfl) [39, 40, 41, 42, 43, 44, 45, 46, 47, 48, 49, 50, 51, 52, 53, 54, 55, 56, 57, 58, 59, 60, 61, 62, 63, 64, 65, 66, 67, 68, 69, 70, 71, 72, 73, 74, 75, 76, 77, 78, 79, 80, 81, 82, 83, 84, 85, 86, 0] (by kernel_rfl) rfl (by kernel_rfl) ?_ ?_
  · refine ⟨StepT.of [] (by kernel_rfl) ?_, ?_⟩
    · intro v hO
      exact StepG.val 39 (by kernel_rfl) (by kernel_rfl) rfl (by simp) rfl (Below.refl _ _) rfl
    refine ⟨StepT.of [39] (by kernel_rfl) ?_, ?_⟩
    · intro v hO x39 h39
      obtain rfl : x39 = (.int .i64 0) := h39
      exact StepG.val 40 (by kernel_rfl) (by kernel_rfl) rfl (by simp [Act.put]) rfl (Below.refl _ _) rfl
    refine ⟨StepT.of [40] (by kernel_rfl) ?_, ?_⟩
    · intro v hO x40 h40
      obtain rfl : x40 = (.bool true) := h40
      exact StepG.val 41 (by kernel_rfl) (by kernel_rfl) rfl (by simp [Act.put]) rfl (Below.refl _ _) rfl
    refine ⟨StepT.of [41] (by kernel_rfl) ?_, ?_⟩
    · intro v hO x41 h41
      obtain rfl : x41 = (.bool true) := h41
      obtain ⟨t0, t1, t2, _⟩ := ((S10.out.bx 1 rfl).ext hO.bel).c3
      exact StepG.val 42 (by kernel_rfl) (by go_simp) rfl (by simp [Act.put]) rfl (Below.refl _ _) rfl
    refine ⟨StepT.of [41] (by kernel_rfl) ?_, ?_⟩
    · intro v hO x41 h41
      obtain rfl : x41 = (.bool true) := h41
      exact StepG.val 43 (v := .slice (some ⟨v.heap.size, 0, none⟩) 1 1) (w' := v.alloc (.cells #[.string { data := #[35, 46, 46] }] 9)) (by kernel_rfl) (by kernel_rfl) rfl (by simp [Act.put]) rfl (below_alloc _ _) ⟨_, _, rfl, Rd.new _ _ _⟩
    refine ⟨StepT.of [43, 41] (by kernel_rfl) ?_, ?_⟩
    · intro v hO x43 h43 x41 h41
      obtain ⟨A43, c43, rfl, r43⟩ := h43
      obtain rfl : x41 = (.bool true) := h41
      exact StepG.call 44 (by kernel_rfl) (by kernel_rfl) rfl (by simp [Act.put]) rfl (pic_p6 A43 c43 v r43)
    refine ⟨StepT.of [42, 44, 41] (by kernel_rfl) ?_, ?_⟩
    · intro v hO x42 h42 x44 h44 x41 h41
      obtain rfl : x42 = (.agg #[.int .i64 3, .int .i64 1, .slice B1 3 c1]) := h42
      obtain ⟨A44, c44, rfl, r44⟩ := h44
      obtain rfl : x41 = (.bool true) := h41
      exact StepG.call 45 (by kernel_rfl) (by kernel_rfl) rfl (by simp [Act.put]) rfl (call_true (same_self 3 1 B1 A44 p6 3 c1 c44 v (R12.out.below hO.bel) r44 rfl (by decide)))
    refine ⟨StepT.of [41, 45] (by kernel_rfl) ?_, ?_⟩
    · intro v hO x41 h41 x45 h45
      obtain rfl : x41 = (.bool true) := h41
      obtain rfl : x45 = (.bool true) := h45
      exact StepG.val 46 (by kernel_rfl) (by kernel_rfl) rfl (by simp [Act.put]) rfl (Below.refl _ _) rfl
    refine ⟨StepT.of [46] (by kernel_rfl) ?_, ?_⟩
    · intro v hO x46 h46
      obtain rfl : x46 = (.bool true) := h46
      exact StepG.val 47 (by kernel_rfl) (by kernel_rfl) rfl (by simp [Act.put]) rfl (Below.refl _ _) rfl
    refine ⟨StepT.of [47] (by kernel_rfl) ?_, ?_⟩
    · intro v hO x47 h47
      obtain rfl : x47 = (.bool true) := h47
      exact StepG.val 48 (by kernel_rfl) (by kernel_rfl) rfl (by simp [Act.put]) rfl (Below.refl _ _) rfl
    refine ⟨StepT.of [48, 47] (by kernel_rfl) ?_, ?_⟩
    · intro v hO x48 h48 x47 h47
      obtain rfl : x48 = (.int .i64 0) := h48
      obtain rfl : x47 = (.bool true) := h47
      exact StepG.val 49 (by kernel_rfl) (by kernel_rfl) rfl (by simp [Act.put]) rfl (Below.refl _ _) rfl
    refine ⟨StepT.of [47, 49] (by kernel_rfl) ?_, ?_⟩
    · intro v hO x47 h47 x49 h49
      obtain rfl : x47 = (.bool true) := h47
      obtain rfl : x49 = (.bool true) := h49
      exact StepG.val 50 (by kernel_rfl) (by kernel_rfl) rfl (by simp [Act.put]) rfl (Below.refl _ _) rfl
    refine ⟨StepT.of [50] (by kernel_rfl) ?_, ?_⟩
    · intro v hO x50 h50
      obtain rfl : x50 = (.bool true) := h50
      exact StepG.val 51 (by kernel_rfl) (by kernel_rfl) rfl (by simp [Act.put]) rfl (Below.refl _ _) rfl
    refine ⟨StepT.of [51] (by kernel_rfl) ?_, ?_⟩
    · intro v hO x51 h51
      obtain rfl : x51 = (.bool true) := h51
      exact StepG.val 52 (by kernel_rfl) (by kernel_rfl) rfl (by simp [Act.put]) rfl (Below.refl _ _) rfl
    refine ⟨StepT.of [51] (by kernel_rfl) ?_, ?_⟩
    · intro v hO x51 h51
      obtain rfl : x51 = (.bool true) := h51
      exact StepG.val 53 (v := .slice (some ⟨v.heap.size, 0, none⟩) 3 3) (w' := v.alloc (.cells #[.bool true, .bool false, .bool false] 4)) (by kernel_rfl) (by kernel_rfl) rfl (by simp [Act.put]) rfl (below_alloc _ _) ⟨_, _, rfl, Rd.new _ _ _⟩
    refine ⟨StepT.of [52, 53, 51] (by kernel_rfl) ?_, ?_⟩
    · intro v hO x52 h52 x53 h53 x51 h51
      obtain rfl : x52 = (.slice B2 3 c2) := h52
      obtain ⟨A53, c53, rfl, r53⟩ := h53
      obtain rfl : x51 = (.bool true) := h51
      exact StepG.call 54 (by kernel_rfl) (by kernel_rfl) rfl (by simp [Act.put]) rfl (call_true (sameBools_true B2 A53 p6 3 c2 3 c53 v (R13.out.below hO.bel) r53 rfl rfl (by decide)))
    refine ⟨StepT.of [51, 54] (by kernel_rfl) ?_, ?_⟩
    · intro v hO x51 h51 x54 h54
      obtain rfl : x51 = (.bool true) := h51
      obtain rfl : x54 = (.bool true) := h54
      exact StepG.val 55 (by kernel_rfl) (by kernel_rfl) rfl (by simp [Act.put]) rfl (Below.refl _ _) rfl
    refine ⟨StepT.of [55] (by kernel_rfl) ?_, ?_⟩
    · intro v hO x55 h55
      obtain rfl : x55 = (.bool true) := h55
      exact StepG.val 56 (by kernel_rfl) (by kernel_rfl) rfl (by simp [Act.put]) rfl (Below.refl _ _) rfl
    refine ⟨StepT.of [56] (by kernel_rfl) ?_, ?_⟩
    · intro v hO x56 h56
      obtain rfl : x56 = (.bool true) := h56
      exact StepG.val 57 (by kernel_rfl) (by kernel_rfl) rfl (by simp [Act.put]) rfl (Below.refl _ _) rfl
    refine ⟨StepT.of [57, 56] (by kernel_rfl) ?_, ?_⟩
    · intro v hO x57 h57 x56 h56
      obtain rfl : x57 = (.int .i64 0) := h57
      obtain rfl : x56 = (.bool true) := h56
      exact StepG.val 58 (by kernel_rfl) (by kernel_rfl) rfl (by simp [Act.put]) rfl (Below.refl _ _) rfl
    refine ⟨StepT.of [56, 58] (by kernel_rfl) ?_, ?_⟩
    · intro v hO x56 h56 x58 h58
      obtain rfl : x56 = (.bool true) := h56
      obtain rfl : x58 = (.bool true) := h58
      exact StepG.val 59 (by kernel_rfl) (by kernel_rfl) rfl (by simp [Act.put]) rfl (Below.refl _ _) rfl
    refine ⟨StepT.of [59] (by kernel_rfl) ?_, ?_⟩
    · intro v hO x59 h59
      obtain rfl : x59 = (.bool true) := h59
      exact StepG.val 60 (by kernel_rfl) (by kernel_rfl) rfl (by simp [Act.put]) rfl (Below.refl _ _) rfl
    refine ⟨StepT.of [60] (by kernel_rfl) ?_, ?_⟩
    · intro v hO x60 h60
      obtain rfl : x60 = (.bool true) := h60
      exact StepG.val 61 (by kernel_rfl) (by kernel_rfl) rfl (by simp [Act.put]) rfl (Below.refl _ _) rfl
    refine ⟨StepT.of [61, 60] (by kernel_rfl) ?_, ?_⟩
    · intro v hO x61 h61 x60 h60
      obtain rfl : x61 = (.int .i64 2) := h61
      obtain rfl : x60 = (.bool true) := h60
      exact StepG.val 62 (by kernel_rfl) (by kernel_rfl) rfl (by simp [Act.put]) rfl (Below.refl _ _) rfl
    refine ⟨StepT.of [60, 62] (by kernel_rfl) ?_, ?_⟩
    · intro v hO x60 h60 x62 h62
      obtain rfl : x60 = (.bool true) := h60
      obtain rfl : x62 = (.bool true) := h62
      exact StepG.val 63 (by kernel_rfl) (by kernel_rfl) rfl (by simp [Act.put]) rfl (Below.refl _ _) rfl
    refine ⟨StepT.of [63] (by kernel_rfl) ?_, ?_⟩
    · intro v hO x63 h63
      obtain rfl : x63 = (.bool true) := h63
      exact StepG.val 64 (by kernel_rfl) (by kernel_rfl) rfl (by simp [Act.put]) rfl (Below.refl _ _) rfl
    refine ⟨StepT.of [64] (by kernel_rfl) ?_, ?_⟩
    · intro v hO x64 h64
      obtain rfl : x64 = (.bool true) := h64
      exact StepG.val 65 (by kernel_rfl) (by kernel_rfl) rfl (by simp [Act.put]) rfl (Below.refl _ _) rfl
    refine ⟨StepT.of [65, 64] (by kernel_rfl) ?_, ?_⟩
    · intro v hO x65 h65 x64 h64
      obtain rfl : x65 = (.int .i64 0) := h65
      obtain rfl : x64 = (.bool true) := h64
      exact StepG.val 66 (by kernel_rfl) (by kernel_rfl) rfl (by simp [Act.put]) rfl (Below.refl _ _) rfl
    refine ⟨StepT.of [64, 66] (by kernel_rfl) ?_, ?_⟩
    · intro v hO x64 h64 x66 h66
      obtain rfl : x64 = (.bool true) := h64
      obtain rfl : x66 = (.bool true) := h66
      exact StepG.val 67 (by kernel_rfl) (by kernel_rfl) rfl (by simp [Act.put]) rfl (Below.refl _ _) rfl
    refine ⟨StepT.of [67] (by kernel_rfl) ?_, ?_⟩
    · intro v hO x67 h67
      obtain rfl : x67 = (.bool true) := h67
      exact StepG.val 68 (by kernel_rfl) (by kernel_rfl) rfl (by simp [Act.put]) rfl (Below.refl _ _) rfl
    refine ⟨StepT.of [68] (by kernel_rfl) ?_, ?_⟩
    · intro v hO x68 h68
      obtain rfl : x68 = (.bool true) := h68
      exact StepG.val 69 (by kernel_rfl) (by kernel_rfl) rfl (by simp [Act.put]) rfl (Below.refl _ _) rfl
    refine ⟨StepT.of [68] (by kernel_rfl) ?_, ?_⟩
    · intro v hO x68 h68
      obtain rfl : x68 = (.bool true) := h68
      exact StepG.val 70 (by kernel_rfl) (by kernel_rfl) rfl (by simp [Act.put]) rfl (Below.refl _ _) rfl
    refine ⟨StepT.of [68] (by kernel_rfl) ?_, ?_⟩
    · intro v hO x68 h68
      obtain rfl : x68 = (.bool true) := h68
      exact StepG.val 71 (by kernel_rfl) (by kernel_rfl) rfl (by simp [Act.put]) rfl (Below.refl _ _) rfl
    refine ⟨StepT.of [70, 71, 68] (by kernel_rfl) ?_, ?_⟩
    · intro v hO x70 h70 x71 h71 x68 h68
      obtain rfl : x70 = (.agg #[.int .i64 1, .int .i64 1, .int .u8 1, .int .u8 0]) := h70
      obtain rfl : x71 = (.agg #[.int .i64 3, .int .i64 1, .int .u8 1, .int .u8 4]) := h71
      obtain rfl : x68 = (.bool true) := h68
      exact StepG.val 72 (v := .slice (some ⟨v.heap.size, 0, none⟩) 2 2) (w' := v.alloc (.cells #[.int .i64 1, .int .i64 1, .int .u8 1, .int .u8 0, .int .i64 3, .int .i64 1, .int .u8 1, .int .u8 4] 77)) (by kernel_rfl) (by kernel_rfl) rfl (by simp [Act.put]) rfl (below_alloc _ _) ⟨_, _, rfl, by rw [flat_cons, flat_cons, v_m1, v_m2]; exact Rd.new _ _ _⟩
    refine ⟨StepT.of [69, 72, 68] (by kernel_rfl) ?_, ?_⟩
    · intro v hO x69 h69 x72 h72 x68 h68
      obtain rfl : x69 = (.slice A9 2 c9) := h69
      obtain ⟨A72, c72, rfl, r72⟩ := h72
      obtain rfl : x68 = (.bool true) := h68
      exact StepG.call 73 (by kernel_rfl) (by kernel_rfl) rfl (by simp [Act.put]) rfl (call_true (sameMin_yes 5 3 p2 [(1, 1), (3, 1)] A9 A72 2 c9 c72 v ((S10.out.rd 0 rfl).below hO.bel) r72 rfl (by decide)))
    refine ⟨StepT.of [68, 73] (by kernel_rfl) ?_, ?_⟩
    · intro v hO x68 h68 x73 h73
      obtain rfl : x68 = (.bool true) := h68
      obtain rfl : x73 = (.bool true) := h73
      exact StepG.val 74 (by kernel_rfl) (by kernel_rfl) rfl (by simp [Act.put]) rfl (Below.refl _ _) rfl
    refine ⟨StepT.of [74] (by kernel_rfl) ?_, ?_⟩
    · intro v hO x74 h74
      obtain rfl : x74 = (.bool true) := h74
      exact StepG.val 75 (by kernel_rfl) (by kernel_rfl) rfl (by simp [Act.put]) rfl (Below.refl _ _) rfl
    refine ⟨StepT.of [75] (by kernel_rfl) ?_, ?_⟩
    · intro v hO x75 h75
      obtain rfl : x75 = (.bool true) := h75
      exact StepG.val 76 (v := .slice (some ⟨v.heap.size, 0, none⟩) 3 3) (w' := v.alloc (.cells #[.string { data := #[35, 35, 35, 35] }, .string { data := #[35, 35, 35, 35] }, .string { data := #[35, 35, 35, 35] }] 9)) (by kernel_rfl) (by kernel_rfl) rfl (by simp [Act.put]) rfl (below_alloc _ _) ⟨_, _, rfl, Rd.new _ _ _⟩
    refine ⟨StepT.of [76, 75] (by kernel_rfl) ?_, ?_⟩
    · intro v hO x76 h76 x75 h75
      obtain ⟨A76, c76, rfl, r76⟩ := h76
      obtain rfl : x75 = (.bool true) := h75
      exact StepG.call 77 (by kernel_rfl) (by kernel_rfl) rfl (by simp [Act.put]) rfl (pic_p3 A76 c76 v r76)
    refine ⟨StepT.of [75] (by kernel_rfl) ?_, ?_⟩
    · intro v hO x75 h75
      obtain rfl : x75 = (.bool true) := h75
      exact StepG.val 78 (v := .slice (some ⟨v.heap.size, 0, none⟩) 3 3) (w' := v.alloc (.cells #[.string { data := #[46, 46, 46, 46] }, .string { data := #[35, 35, 35, 35] }, .string { data := #[46, 46, 46, 46] }] 9)) (by kernel_rfl) (by kernel_rfl) rfl (by simp [Act.put]) rfl (below_alloc _ _) ⟨_, _, rfl, Rd.new _ _ _⟩
    refine ⟨StepT.of [78, 75] (by kernel_rfl) ?_, ?_⟩
    · intro v hO x78 h78 x75 h75
      obtain ⟨A78, c78, rfl, r78⟩ := h78
      obtain rfl : x75 = (.bool true) := h75
      exact StepG.call 79 (by kernel_rfl) (by kernel_rfl) rfl (by simp [Act.put]) rfl (pic_p4 A78 c78 v r78)
    refine ⟨StepT.of [77, 79, 75] (by kernel_rfl) ?_, ?_⟩
    · intro v hO x77 h77 x79 h79 x75 h75
      obtain ⟨A77, c77, rfl, r77⟩ := h77
      obtain ⟨A79, c79, rfl, r79⟩ := h79
      obtain rfl : x75 = (.bool true) := h75
      exact StepG.call 80 (by kernel_rfl) (by kernel_rfl) rfl (by simp [Act.put]) rfl (call_true (thins_yes 4 3 A77 A79 p3 p4 12 c77 c79 v r77 r79 rfl (by decide) v_thin (by decide)))
    refine ⟨StepT.of [75, 80] (by kernel_rfl) ?_, ?_⟩
    · intro v hO x75 h75 x80 h80
      obtain rfl : x75 = (.bool true) := h75
      obtain rfl : x80 = (.bool true) := h80
      exact StepG.val 81 (by kernel_rfl) (by kernel_rfl) rfl (by simp [Act.put]) rfl (Below.refl _ _) rfl
    refine ⟨StepT.of [81] (by kernel_rfl) ?_, ?_⟩
    · intro v hO x81 h81
      obtain rfl : x81 = (.bool true) := h81
      exact StepG.val 82 (by kernel_rfl) (by kernel_rfl) rfl (by simp [Act.put]) rfl (Below.refl _ _) rfl
    refine ⟨StepT.of [82] (by kernel_rfl) ?_, ?_⟩
    · intro v hO x82 h82
      obtain rfl : x82 = (.bool true) := h82
      exact StepG.val 83 (v := .slice (some ⟨v.heap.size, 0, none⟩) 3 3) (w' := v.alloc (.cells #[.string { data := #[35, 35, 35] }, .string { data := #[35, 46, 35] }, .string { data := #[35, 35, 35] }] 9)) (by kernel_rfl) (by kernel_rfl) rfl (by simp [Act.put]) rfl (below_alloc _ _) ⟨_, _, rfl, Rd.new _ _ _⟩
    refine ⟨StepT.of [83, 82] (by kernel_rfl) ?_, ?_⟩
    · intro v hO x83 h83 x82 h82
      obtain ⟨A83, c83, rfl, r83⟩ := h83
      obtain rfl : x82 = (.bool true) := h82
      exact StepG.call 84 (by kernel_rfl) (by kernel_rfl) rfl (by simp [Act.put]) rfl (pic_p5 A83 c83 v r83)
    refine ⟨StepT.of [84, 82] (by kernel_rfl) ?_, ?_⟩
    · intro v hO x84 h84 x82 h82
      obtain ⟨A84, c84, rfl, r84⟩ := h84
      obtain rfl : x82 = (.bool true) := h82
      exact StepG.call 85 (by kernel_rfl) (by kernel_rfl) rfl (by simp [Act.put]) rfl (call_true (has_yes 3 3 1 1 A84 p5 9 c84 v r84 rfl (by decide) (by rw [partsA, if_pos (by decide), v_ridges]) (by rw [partsB, if_pos (by decide), v_lakes])))
    refine ⟨StepT.of [82, 85] (by kernel_rfl) ?_, ?_⟩
    · intro v hO x82 h82 x85 h85
      obtain rfl : x82 = (.bool true) := h82
      obtain rfl : x85 = (.bool true) := h85
      exact StepG.val 86 (by kernel_rfl) (by kernel_rfl) rfl (by simp [Act.put]) rfl (Below.refl _ _) rfl
    refine ⟨StepT.of [86] (by kernel_rfl) ?_, ?_⟩
    · intro v hO x86 h86
      obtain rfl : x86 = (.bool true) := h86
      exact StepG.val 0 (by kernel_rfl) (by kernel_rfl) rfl (by simp [Act.put]) rfl (Below.refl _ _) rfl
    exact trivial
  · intro v hO x39 h39 x40 h40 x41 h41 x42 h42 x43 h43 x44 h44 x45 h45 x46 h46 x47 h47 x48 h48 x49 h49 x50 h50 x51 h51 x52 h52 x53 h53 x54 h54 x55 h55 x56 h56 x57 h57 x58 h58 x59 h59 x60 h60 x61 h61 x62 h62 x63 h63 x64 h64 x65 h65 x66 h66 x67 h67 x68 h68 x69 h69 x70 h70 x71 h71 x72 h72 x73 h73 x74 h74 x75 h75 x76 h76 x77 h77 x78 h78 x79 h79 x80 h80 x81 h81 x82 h82 x83 h83 x84 h84 x85 h85 x86 h86 x0 h0
    obtain rfl : x39 = (.int .i64 0) := h39
    obtain rfl : x40 = (.bool true) := h40
    obtain rfl : x41 = (.bool true) := h41
    obtain rfl : x42 = (.agg #[.int .i64 3, .int .i64 1, .slice B1 3 c1]) := h42
    obtain ⟨A43, c43, rfl, r43⟩ := h43
    obtain ⟨A44, c44, rfl, r44⟩ := h44
    obtain rfl : x45 = (.bool true) := h45
    obtain rfl : x46 = (.bool true) := h46
    obtain rfl : x47 = (.bool true) := h47
    obtain rfl : x48 = (.int .i64 0) := h48
    obtain rfl : x49 = (.bool true) := h49
    obtain rfl : x50 = (.bool true) := h50
    obtain rfl : x51 = (.bool true) := h51
    obtain rfl : x52 = (.slice B2 3 c2) := h52
    obtain ⟨A53, c53, rfl, r53⟩ := h53
    obtain rfl : x54 = (.bool true) := h54
    obtain rfl : x55 = (.bool true) := h55
    obtain rfl : x56 = (.bool true) := h56
    obtain rfl : x57 = (.int .i64 0) := h57
    obtain rfl : x58 = (.bool true) := h58
    obtain rfl : x59 = (.bool true) := h59
    obtain rfl : x60 = (.bool true) := h60
    obtain rfl : x61 = (.int .i64 2) := h61
    obtain rfl : x62 = (.bool true) := h62
    obtain rfl : x63 = (.bool true) := h63
    obtain rfl : x64 = (.bool true) := h64
    obtain rfl : x65 = (.int .i64 0) := h65
    obtain rfl : x66 = (.bool true) := h66
    obtain rfl : x67 = (.bool true) := h67
    obtain rfl : x68 = (.bool true) := h68
    obtain rfl : x69 = (.slice A9 2 c9) := h69
    obtain rfl : x70 = (.agg #[.int .i64 1, .int .i64 1, .int .u8 1, .int .u8 0]) := h70
    obtain rfl : x71 = (.agg #[.int .i64 3, .int .i64 1, .int .u8 1, .int .u8 4]) := h71
    obtain ⟨A72, c72, rfl, r72⟩ := h72
    obtain rfl : x73 = (.bool true) := h73
    obtain rfl : x74 = (.bool true) := h74
    obtain rfl : x75 = (.bool true) := h75
    obtain ⟨A76, c76, rfl, r76⟩ := h76
    obtain ⟨A77, c77, rfl, r77⟩ := h77
    obtain ⟨A78, c78, rfl, r78⟩ := h78
    obtain ⟨A79, c79, rfl, r79⟩ := h79
    obtain rfl : x80 = (.bool true) := h80
    obtain rfl : x81 = (.bool true) := h81
    obtain rfl : x82 = (.bool true) := h82
    obtain ⟨A83, c83, rfl, r83⟩ := h83
    obtain ⟨A84, c84, rfl, r84⟩ := h84
    obtain rfl : x85 = (.bool true) := h85
    obtain rfl : x86 = (.bool true) := h86
    obtain rfl : x0 = (.bool true) := h0
    have HB := Lib.hid (below_step S10.out.bel hO.bel)
    clear S10 R12 R13 hO r43 r44 r53 r72 r76 r77 r78 r79 r83 r84
    simp only [stepFor, Act.put, List.setIfInBounds_toArray, List.set_cons_zero, List.set_cons_succ]
    go_wp2_with fail
    go_ret
    exact ⟨rfl, HB.out⟩
end Go.Proofs.Ytjelnbfnoliocaa
