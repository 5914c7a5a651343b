/- Rates: the walk of RatesExamples. No condition. -/
import Derived.Test.YtnalbchggjepdaaXp
import Derived.Test.YtnalbchggjepdaaXc
import Derived.Test.YtnalbchggjepdaaVd
import Derived.Test.YtnalbchggjepdaaTf
import Derived.Deep.OwnRows
namespace Go.Proofs.Ytnalbchggjepdaa
open Go.RowKit Go.Shelf
attribute [local go_sem] Oper.semAt_some

theorem size4 : Maps.size D4 = 4 := by decide +kernel
theorem rd_three3 {w : World} {b off : Nat} (h : Rd w (some ⟨b, off, none⟩) (flat encD threeL)) : Rd w (some ⟨b, off, none⟩) (flat encD three3) := by
  have := rd_sub h 0 9
  rw [Nat.add_zero] at this
  exact this
set_option maxRecDepth 100000 in
set_option maxHeartbeats 8000000 in
theorem ratesExamples_walk (KA : AliveOk) (w : World) : Calls Try.prog 11 #[] w fun e w' => e = .returned (.bool true) ∧ Below w.heap.size w w' := by
  have hmm := @run_makeMap Try.prog
  go_enter Try.func11, Try.ntmps11
  go_wp2_with fail
  refine (KA _).mono ?_
  rintro e w1 ⟨rfl, hb1⟩
  obtain ⟨B1, hB1⟩ : ∃ B1, B1 = w1.heap.size := ⟨_, rfl⟩
  have S2 := Lib.hid ((((Own.start w).ext hb1).newObj (.map #[] 0)).asMap 0 rfl (World.ownsMap_made w1 Try.prog 3 shR))
  clear hb1
  go_wp2_with fail
  refine (part_any 1 5 _).mono ?_
  rintro e w3 ⟨rfl, hb3⟩
  have S3 := Lib.hid (S2.out.ext hb3)
  clear hb3 S2
  rw [← hB1] at S3 ⊢
  clear hB1
  go_wp2_with (refine wpList_insertP rfl (.tmp 33) (.const (.int .i64 9)) (.tmp 34) rfl 0 S3.out rfl rfl (c := (1, 5)) rfl rfl ?_ (by decide) (by unfold maxLen; omega); intro w4 hO4; have S4 := Lib.hid hO4; clear hO4 S3)
  refine (part_any 4 5 _).mono ?_
  rintro e w5 ⟨rfl, hb5⟩
  have S5 := Lib.hid (S4.out.ext hb5)
  clear hb5 S4
  go_wp2_with (refine wpList_insertP rfl (.tmp 33) (.const (.int .i64 29)) (.tmp 35) rfl 0 S5.out rfl rfl (c := (4, 5)) rfl rfl ?_ (by decide) (by unfold maxLen; omega); intro w6 hO6; have S6 := Lib.hid hO6; clear hO6 S5)
  refine (part_any 1 1 _).mono ?_
  rintro e w7 ⟨rfl, hb7⟩
  have S7 := Lib.hid (S6.out.ext hb7)
  clear hb7 S6
  go_wp2_with (refine wpList_insertP rfl (.tmp 33) (.const (.int .i64 1000)) (.tmp 36) rfl 0 S7.out rfl rfl (c := (1, 1)) rfl rfl ?_ (by decide) (by unfold maxLen; omega); intro w8 hO8; have S8 := Lib.hid hO8; clear hO8 S7)
  refine (part_any 0 7 _).mono ?_
  rintro e w9 ⟨rfl, hb9⟩
  have S9 := Lib.hid (S8.out.ext hb9)
  clear hb9 S8
  go_wp2_with (first | (refine wpList_insertP rfl (.tmp 33) (.const (.int .i64 (-1))) (.tmp 37) rfl 0 S9.out rfl rfl (c := (0, 7)) rfl rfl ?_ (by decide) (by unfold maxLen; omega); intro w10 hO10; have S10 := Lib.hid hO10; clear hO10 S9) | (at_range; refine wpList_range_own _ rfl _ 90 rfl 3 23 keyed3 Try.underlying90 shR B1 4 D4 rfl (S10.out.get 0 rfl) ?_; intro wB hrg0 hg0 hs0))
  clear hmm
  obtain ⟨r, hr⟩ : ∃ r, r = w10.heap.size := ⟨_, rfl⟩
  rw [← hr] at hrg0 ⊢
  have hrw : w.heap.size ≤ r := by rw [hr]; exact S10.out.size
  have HB0 := Lib.hid ((S10.out.ext (below_of_grown hg0)).bel)
  have HR0 := Lib.hid hrg0
  have HRW := Lib.hid hrw
  clear hrg0 hg0 hs0 hr hrw S10
  rw [size4] at HR0
  go_loopg [1] 4 (fun q _ wr => ∃ left : Lit → Bool, Hid (wr.ranges Try.prog 3 shR B1 r 4 D4 left q ∧ (∀ kl, left kl = true → Maps.has D4 kl = true) ∧ Below w.heap.size w wr))
  case atStart => exact ⟨_, HR0.out, fun _ h => h, HB0.out⟩
  case round =>
    obtain ⟨left, hI⟩ := hrel
    have I1 := Lib.hid hI.out.1
    have I2 := Lib.hid hI.out.2.1
    have I3 := Lib.hid hI.out.2.2
    clear hI HR0 HB0
    go_wp2_with (at_next; refine wpList_next_ranges _ rfl _ rfl 3 keyed3 shR (Value.int .i64) shV keyInv shR_inv B1 r 4 D4 left gk rfl I1.out ?_ ?_)
    · intro hc0 hl0
      have S0 : Hid (Own w wr []) := Lib.hid ⟨I3.out, trivial⟩
      clear hc0 hl0 I1 I2 I3
      as_aux_lemma =>
      have C1 := Lib.hid (fun W => choose_any 5 2 W)
      rw [cho1] at C1
      have C2 := Lib.hid (fun W => choose_any 50 25 W)
      rw [cho2] at C2
      have C3 := Lib.hid (fun W => choose_any 51 1 W)
      rw [cho3] at C3
      have C4 := Lib.hid (fun W => choose_any 4 5 W)
      rw [cho4] at C4
      have T1 := Lib.hid (fun W => tail_any 0 2 1 2 W)
      rw [tai1] at T1
      have T2 := Lib.hid (fun W => tail_any 3 2 0 2 W)
      rw [tai2] at T2
      have D1 := Lib.hid (fun W => differ_any 2 2 0 2 1 7 W)
      rw [dif1] at D1
      have H1 := Lib.hid (fun A c W (h : Rd W A (ints (List.replicate 61 0))) => threshold_any A (List.replicate 61 0) 61 c 1 2 W h rfl (by omega))
      rw [thr1] at H1
      have H2 := Lib.hid (fun A c W (h : Rd W A (ints [1001])) => threshold_any A [1001] 1 c 1 2 W h rfl (by omega))
      rw [thr2] at H2
      have H3 := Lib.hid (fun W => threshold_any none [] 0 0 2 1 W (Rd.nil _ _) rfl (by omega))
      rw [thr3] at H3
      have H4 := Lib.hid (fun W => threshold_any none [] 0 0 1 1 W (Rd.nil _ _) rfl (by omega))
      rw [thr4] at H4
      have F1 := Lib.hid (fun A c W (h : Rd W A (flat encD three3)) => frontier_any A three3 3 c W h rfl (by omega))
      rw [fro_three3, dbl_three3] at F1
      go_wp2_with fail
      refine (C1.out _).mono ?_
      rintro e x1 ⟨rfl, hb⟩
      have S1 := Lib.hid (S0.out.ext hb)
      clear hb S0
      go_wp2_with fail
      refine (C2.out _).mono ?_
      rintro e x2 ⟨rfl, hb⟩
      have S2 := Lib.hid (S1.out.ext hb)
      clear hb S1
      go_wp2_with fail
      refine (C3.out _).mono ?_
      rintro e x3 ⟨rfl, hb⟩
      have S3 := Lib.hid (S2.out.ext hb)
      clear hb S2
      go_wp2_with fail
      refine (C4.out _).mono ?_
      rintro e x4 ⟨rfl, hb⟩
      have S4 := Lib.hid (S3.out.ext hb)
      clear hb S3
      go_wp2_with fail
      refine (T1.out _).mono ?_
      rintro e x5 ⟨rfl, hb⟩
      have S5 := Lib.hid (S4.out.ext hb)
      clear hb S4
      go_wp2_with fail
      refine (part_any 1 7 _).mono ?_
      rintro e x6 ⟨rfl, hb⟩
      have S6 := Lib.hid (S5.out.ext hb)
      clear hb S5
      go_wp2_with fail
      refine (D1.out _).mono ?_
      rintro e x7 ⟨rfl, hb⟩
      have S7 := Lib.hid (S6.out.ext hb)
      clear hb S6
      go_wp2_with fail
      refine (T2.out _).mono ?_
      rintro e x8 ⟨rfl, hb⟩
      have S8 := Lib.hid (S7.out.ext hb)
      clear hb S7
      clear C1 C2 C3 C4 T1 T2 D1
      have hmk : ∀ v : World, (Instr.makeSlice 36 (.int .i64 61) (.int .i64 61)).run Try.prog v = .ok (.slice (some ⟨v.heap.size, 0, none⟩) 61 61) (v.alloc (.cells (madeCells #[.int .i64 0] 61) 3)) := fun v => run_make_row' (P := Try.prog) 36 3 (.int .i64 0) 8 Try.underlying36 info3 rfl .i64 .i64 61 (by decide) (by decide) v
      go_upto_region 16 with (fail)
      refine wp_region_table 193 [(88, .rd (fun A _ => .slice A 61 61) (ints (List.replicate 61 0))), (89, .is (.agg #[.int .i64 1, .int .i64 2])), (90, .is (.tuple #[.int .i64 0, .int .i64 4])), (87, .is (.tuple #[.int .i64 0, .int .i64 4])), (91, .is (.int .i64 0)), (92, .is (.int .i64 4)), (19, .is (.int .i64 0)), (20, .is (.int .i64 4))] (S8.out) (by kernel_rfl) (by kernel_rfl) [88, 89, 90, 87, 91, 92, 19, 20] (by kernel_rfl) rfl (by kernel_rfl) ?_ ?_
      · refine ⟨StepT.of [] (by kernel_rfl) ?_, ?_⟩
        · intro v hO
          refine StepG.val 88 (v := .slice (some ⟨v.heap.size, 0, none⟩) 61 61) (w' := v.alloc (.cells (madeCells #[.int .i64 0] 61) 3)) (by kernel_rfl) (by go_simp) rfl (by simp) rfl (below_alloc _ _) ⟨some ⟨v.heap.size, 0, none⟩, 61, rfl, ?_⟩
          have e61 : (madeCells #[.int .i64 0] 61).toList = ints (List.replicate 61 0) := by kernel_rfl
          rw [← e61]
          exact Rd.new v (madeCells #[.int .i64 0] 61) 3
        refine ⟨StepT.of [] (by kernel_rfl) ?_, ?_⟩
        · intro v hO
          exact StepG.call 89 (by kernel_rfl) (by kernel_rfl) rfl (by simp) rfl (call_ret (part_any 1 2 v))
        refine ⟨StepT.of [88, 89] (by kernel_rfl) ?_, ?_⟩
        · intro v hO x88 h88 x89 h89
          obtain ⟨A88, c88, rfl, r88⟩ := h88
          obtain rfl : x89 = (.agg #[.int .i64 1, .int .i64 2]) := h89
          exact StepG.call 90 (by kernel_rfl) (by kernel_rfl) rfl (by simp [Act.put]) rfl (call_ret (H1.out A88 61 v r88))
        refine ⟨StepT.of [90] (by kernel_rfl) ?_, ?_⟩
        · intro v hO x90 h90
          obtain rfl : x90 = (.tuple #[.int .i64 0, .int .i64 4]) := h90
          exact StepG.val 87 (by kernel_rfl) (by kernel_rfl) rfl (by simp [Act.put]) rfl (Below.refl _ _) rfl
        refine ⟨StepT.of [87] (by kernel_rfl) ?_, ?_⟩
        · intro v hO x87 h87
          obtain rfl : x87 = (.tuple #[.int .i64 0, .int .i64 4]) := h87
          exact StepG.val 91 (by kernel_rfl) (by kernel_rfl) rfl (by simp [Act.put]) rfl (Below.refl _ _) rfl
        refine ⟨StepT.of [87] (by kernel_rfl) ?_, ?_⟩
        · intro v hO x87 h87
          obtain rfl : x87 = (.tuple #[.int .i64 0, .int .i64 4]) := h87
          exact StepG.val 92 (by kernel_rfl) (by kernel_rfl) rfl (by simp [Act.put]) rfl (Below.refl _ _) rfl
        refine ⟨StepT.of [91] (by kernel_rfl) ?_, ?_⟩
        · intro v hO x91 h91
          obtain rfl : x91 = (.int .i64 0) := h91
          exact StepG.val 19 (by kernel_rfl) (by kernel_rfl) rfl (by simp [Act.put]) rfl (Below.refl _ _) rfl
        refine ⟨StepT.of [92] (by kernel_rfl) ?_, ?_⟩
        · intro v hO x92 h92
          obtain rfl : x92 = (.int .i64 4) := h92
          exact StepG.val 20 (by kernel_rfl) (by kernel_rfl) rfl (by simp [Act.put]) rfl (Below.refl _ _) rfl
        exact trivial
      · intro x9 hO x88 h88 x89 h89 x90 h90 x87 h87 x91 h91 x92 h92 x19 h19 x20 h20
        obtain ⟨A88, c88, rfl, r88⟩ := h88
        obtain rfl : x89 = (.agg #[.int .i64 1, .int .i64 2]) := h89
        obtain rfl : x90 = (.tuple #[.int .i64 0, .int .i64 4]) := h90
        obtain rfl : x87 = (.tuple #[.int .i64 0, .int .i64 4]) := h87
        obtain rfl : x91 = (.int .i64 0) := h91
        obtain rfl : x92 = (.int .i64 4) := h92
        obtain rfl : x19 = (.int .i64 0) := h19
        obtain rfl : x20 = (.int .i64 4) := h20
        have S20 := Lib.hid hO
        clear hO S8 r88 H1
        unfold stepFor
        simp only [Act.put, List.setIfInBounds_toArray, List.set_cons_zero, List.set_cons_succ]
        as_aux_lemma =>
        go_wp2_with fail
        have HN7 := Lib.hid (Rd.new x9 #[.int .i64 1001] 3)
        have S21 := Lib.hid (S20.out.ext (below_alloc x9 (.cells #[.int .i64 1001] 3)))
        obtain ⟨B7, hB7⟩ : ∃ B7, B7 = x9.heap.size := ⟨_, rfl⟩
        rw [← hB7] at HN7 ⊢
        clear hB7
        generalize x9.alloc _ = x10 at *
        refine (part_any 1 2 _).mono ?_
        rintro e x11 ⟨rfl, hb⟩
        have S22 := Lib.hid (S21.out.ext hb)
        have HN8 := Lib.hid (HN7.out.below hb)
        clear hb S20 S21 HN7
        go_wp2_with fail
        refine (H2.out _ 1 _ HN8.out).mono ?_
        rintro e x12 ⟨rfl, hb⟩
        have S23 := Lib.hid (S22.out.ext hb)
        clear hb S22 HN8 H2
        go_wp2_with fail
        refine (part_any 2 1 _).mono ?_
        rintro e x13 ⟨rfl, hb⟩
        have S24 := Lib.hid (S23.out.ext hb)
        clear hb S23
        go_wp2_with fail
        refine (H3.out _).mono ?_
        rintro e x14 ⟨rfl, hb⟩
        have S25 := Lib.hid (S24.out.ext hb)
        clear hb S24
        go_wp2_with fail
        refine (three_any _).mono ?_
        rintro e x15 ⟨A4, rfl, hb, hr⟩
        have S30 := Lib.hid (S25.out.ext hb)
        obtain ⟨b4, off4, rfl, -, -, -, -⟩ := hr.dbl (k := 0) (by decide)
        have R4 := Lib.hid (rd_three3 hr)
        clear hb hr S25
        go_wp2_with fail
        refine (F1.out _ 4 _ R4.out).mono ?_
        rintro e x16 ⟨A5, c5, rfl, hO⟩
        have S31 := Lib.hid ((S30.out.call hO).cast (qs := [row 68 4 (.slice A5 1 c5) 1 (flat encP [⟨3, 9, 0, 0⟩])]) rfl)
        clear hO S30 R4 F1
        obtain ⟨g, rfl⟩ := S31.out.rowAddr 0 rfl (by decide)
        go_wp2_with fail
        refine (part_any 1 1 _).mono ?_
        rintro e x17 ⟨rfl, hb⟩
        have S32 := Lib.hid (S31.out.ext hb)
        clear hb S31
        go_wp2_with fail
        refine (H4.out _).mono ?_
        rintro e x18 ⟨rfl, hb⟩
        have S33 := Lib.hid (S32.out.ext hb)
        clear hb S32
        have fp0 := S33.out.rowAt (g := g) (j := 0) (u := .int .i64 3) 0 rfl rfl
        have fp1 := S33.out.rowAt (g := g) (j := 1) (u := .int .i64 9) 0 rfl rfl
        have fp2 := S33.out.rowAt (g := g) (j := 2) (u := .int .i64 0) 0 rfl rfl
        have fp3 := S33.out.rowAt (g := g) (j := 3) (u := .int .i64 0) 0 rfl rfl
        have fl := (S33.out.rowLt (g := g) 0 rfl).1
        go_wp2_with fail
        go_ret
        exact ⟨rfl, S33.out.bel⟩
    · intro x num den kl y1 y2 w2 cnt2 hk hlk hRy hat hrg2 hlt hg2 hs2 hen
      have hthr : thrF fourL num den = (x, 0) := ex_entry (c := (num, den)) (y := (y1, y2)) hk (I2.out kl hlk) hRy hat
      try simp only [shV] at hen
      try simp only [shV]
      have HRG := Lib.hid hrg2
      have HLT := Lib.hid hlt
      have HB2 := Lib.hid (I3.out.grown hg2 I3.out.size (fun k hk => by injection hk with hk; subst hk; exact HRW.out))
      have K1 := Lib.hid (fun A c W (h : Rd W A (ints fourL)) => threshold_any A fourL 4 c num den W h rfl (by omega))
      rw [hthr] at K1
      clear hk hlk hRy hat hrg2 hlt hg2 hs2 hthr I1 I3
      obtain ⟨B, hB⟩ : ∃ B, B = w2.heap.size := ⟨_, rfl⟩
      have S4 := Lib.hid ((Own.start w2).new' 23 #[.int .i64 num, .int .i64 den] hB)
      as_aux_lemma =>
      go_upto_region 6 with (fail)
      rw [← hB]
      clear hB hen
      generalize w2.alloc _ = W3 at *
      refine wp_region_table 193 [(46, .rd (fun A _ => .slice A 4 4) (ints fourL)), (47, .is (.agg #[.int .i64 num, .int .i64 den])), (48, .is (.tuple #[.int .i64 x, .int .i64 0])), (45, .is (.tuple #[.int .i64 x, .int .i64 0])), (49, .is (.int .i64 x)), (50, .is (.int .i64 0)), (3, .is (.int .i64 x)), (4, .is (.int .i64 0))] (S4.out) (by kernel_rfl) (by kernel_rfl) [46, 47, 48, 45, 49, 50, 3, 4] (by kernel_rfl) rfl (by kernel_rfl) ?_ ?_
      · refine ⟨StepT.of [] (by kernel_rfl) ?_, ?_⟩
        · intro v hO
          refine StepG.call 46 (by kernel_rfl) (by kernel_rfl) rfl (by simp) rfl ((four_any v).mono ?_)
          rintro e w9 ⟨A9, rfl, hb9, hr9⟩
          exact ⟨_, rfl, hb9, A9, 4, rfl, hr9⟩
        refine ⟨StepT.of [] (by kernel_rfl) ?_, ?_⟩
        · intro v hO
          obtain ⟨t0, t1, _⟩ := (hO.bx 0 rfl).c2
          have tl := (hO.bx 0 rfl).2.2
          exact StepG.val 47 (by kernel_rfl) (by go_simp) rfl (by simp) rfl (Below.refl _ _) rfl
        refine ⟨StepT.of [46, 47] (by kernel_rfl) ?_, ?_⟩
        · intro v hO x46 h46 x47 h47
          obtain ⟨A46, c46, rfl, r46⟩ := h46
          obtain rfl : x47 = (.agg #[.int .i64 num, .int .i64 den]) := h47
          exact StepG.call 48 (by kernel_rfl) (by kernel_rfl) rfl (by simp [Act.put]) rfl (call_ret (K1.out A46 4 v r46))
        refine ⟨StepT.of [48] (by kernel_rfl) ?_, ?_⟩
        · intro v hO x48 h48
          obtain rfl : x48 = (.tuple #[.int .i64 x, .int .i64 0]) := h48
          exact StepG.val 45 (by kernel_rfl) (by kernel_rfl) rfl (by simp [Act.put]) rfl (Below.refl _ _) rfl
        refine ⟨StepT.of [45] (by kernel_rfl) ?_, ?_⟩
        · intro v hO x45 h45
          obtain rfl : x45 = (.tuple #[.int .i64 x, .int .i64 0]) := h45
          exact StepG.val 49 (by kernel_rfl) (by kernel_rfl) rfl (by simp [Act.put]) rfl (Below.refl _ _) rfl
        refine ⟨StepT.of [45] (by kernel_rfl) ?_, ?_⟩
        · intro v hO x45 h45
          obtain rfl : x45 = (.tuple #[.int .i64 x, .int .i64 0]) := h45
          exact StepG.val 50 (by kernel_rfl) (by kernel_rfl) rfl (by simp [Act.put]) rfl (Below.refl _ _) rfl
        refine ⟨StepT.of [49] (by kernel_rfl) ?_, ?_⟩
        · intro v hO x49 h49
          obtain rfl : x49 = (.int .i64 x) := h49
          exact StepG.val 3 (by kernel_rfl) (by kernel_rfl) rfl (by simp [Act.put]) rfl (Below.refl _ _) rfl
        refine ⟨StepT.of [50] (by kernel_rfl) ?_, ?_⟩
        · intro v hO x50 h50
          obtain rfl : x50 = (.int .i64 0) := h50
          exact StepG.val 4 (by kernel_rfl) (by kernel_rfl) rfl (by simp [Act.put]) rfl (Below.refl _ _) rfl
        exact trivial
      · intro w5 hO x46 h46 x47 h47 x48 h48 x45 h45 x49 h49 x50 h50 x3 h3 x4 h4
        obtain ⟨A46, c46, rfl, r46⟩ := h46
        obtain rfl : x47 = (.agg #[.int .i64 num, .int .i64 den]) := h47
        obtain rfl : x48 = (.tuple #[.int .i64 x, .int .i64 0]) := h48
        obtain rfl : x45 = (.tuple #[.int .i64 x, .int .i64 0]) := h45
        obtain rfl : x49 = (.int .i64 x) := h49
        obtain rfl : x50 = (.int .i64 0) := h50
        obtain rfl : x3 = (.int .i64 x) := h3
        obtain rfl : x4 = (.int .i64 0) := h4
        have S5 := Lib.hid hO
        clear hO S4 r46
        unfold stepFor
        simp only [Act.put, List.setIfInBounds_toArray, List.set_cons_zero, List.set_cons_succ]
        go_wp2_with fail
        go_roundg cnt2
        case measure => exact HLT.out
        case rel => exact ⟨fun z => left z && !z.sameKey kl, HRG.out.kept (grown_of_below S5.out.bel) (by simp) (by simp), fun kl' h => I2.out kl' (by simp only [Bool.and_eq_true] at h; exact h.1), below_step HB2.out S5.out.bel⟩
end Go.Proofs.Ytnalbchggjepdaa
