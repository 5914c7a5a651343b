/- Rates: the walk of RatesCounts. No condition. -/
import Derived.Test.YtnalbchggjepdaaGd
import Derived.Test.YtnalbchggjepdaaXa
namespace Go.Proofs.Ytnalbchggjepdaa
open Go.RowKit Go.Shelf
attribute [local go_sem] Oper.semAt_some

def lowN (l : List Dbl) (g : Nat) : Nat := l.countP fun x => decide (x.a < (g : Int))
theorem low_step (ths : List Int) (l : List Dbl) (g : Nat) : lowN l (g + 1) = lowN l g + (cntR ths g 0 l + cntR ths g 2 l) := by
  unfold lowN cntR
  induction l with
  | nil => rfl
  | cons x l ih =>
    rw [List.countP_cons, List.countP_cons, List.countP_cons, List.countP_cons, ih]
    have h1 : selB ths g 0 x = (decide (x.a = (g : Int)) && !x.same) := by simp [selB]
    have h2 : selB ths g 2 x = (decide (x.a = (g : Int)) && x.same) := by simp [selB]
    rw [h1, h2]
    by_cases a1 : x.a < (g : Int)
    · have d1 : decide (x.a < (g : Int)) = true := decide_eq_true a1
      have d2 : decide (x.a < ((g + 1 : Nat) : Int)) = true := decide_eq_true (by omega)
      have d3 : decide (x.a = (g : Int)) = false := decide_eq_false (by omega)
      rw [d1, d2, d3, Bool.false_and, Bool.false_and, if_pos rfl, if_neg (by decide)]
      omega
    · have d1 : decide (x.a < (g : Int)) = false := decide_eq_false a1
      by_cases a3 : x.a = (g : Int)
      · have d2 : decide (x.a < ((g + 1 : Nat) : Int)) = true := decide_eq_true (by omega)
        have d3 : decide (x.a = (g : Int)) = true := decide_eq_true a3
        rw [d1, d2, d3, Bool.true_and, Bool.true_and, if_pos rfl, if_neg (by decide)]
        cases x.same
        · rw [if_pos (by decide), if_neg (by decide)]
          omega
        · rw [if_neg (by decide), if_pos rfl]
          omega
      · have d2 : decide (x.a < ((g + 1 : Nat) : Int)) = false := decide_eq_false (by omega)
        have d3 : decide (x.a = (g : Int)) = false := decide_eq_false a3
        rw [d1, d2, d3, Bool.false_and, Bool.false_and, if_neg (by decide)]
        omega
theorem low_zero {l : List Dbl} (h : okT l = true) : lowN l 0 = 0 := by
  unfold lowN
  rw [List.countP_eq_zero]
  intro x hx
  obtain ⟨k, hk, rfl⟩ := List.getElem_of_mem hx
  have := trl_group h hk
  simp only [decide_eq_true_eq]
  omega
theorem low_all {l : List Dbl} (h : okT l = true) : lowN l 8 = l.length := by
  unfold lowN
  rw [List.countP_eq_length]
  intro x hx
  obtain ⟨k, hk, rfl⟩ := List.getElem_of_mem hx
  have := trl_group h hk
  simp only [decide_eq_true_eq]
  omega
theorem low_le (l : List Dbl) (g : Nat) : lowN l g ≤ l.length := List.countP_le_length
theorem cnt_same (ths ths2 : List Int) (g : Nat) (l : List Dbl) : cntR ths2 g 0 l = cntR ths g 0 l ∧ cntR ths2 g 2 l = cntR ths g 2 l := by
  constructor <;> rfl
theorem cnt_part (ths : List Int) (g : Nat) (l : List Dbl) : cntR ths g 1 l ≤ cntR ths g 0 l ∧ cntR ths g 3 l ≤ cntR ths g 2 l := by
  constructor <;> refine List.countP_mono_left fun x _ h => ?_ <;> simp [selB] at h ⊢ <;> simp [h]
theorem cnt_rise {ths ths2 : List Int} {g : Nat} (h : ths.getD g 0 ≤ ths2.getD g 0) (l : List Dbl) : cntR ths g 1 l ≤ cntR ths2 g 1 l ∧ cntR ths2 g 3 l ≤ cntR ths g 3 l := by
  simp only [List.getD_eq_getElem?_getD] at h
  constructor <;> refine List.countP_mono_left fun x _ k => ?_ <;> simp [selB] at k ⊢ <;> (have k3 := k.2.2; exact ⟨k.1, k.2.1, by omega⟩)
theorem rep8 (t : Int) {g : Nat} (hg : g < 8) : (List.replicate 8 t).getD g 0 = t := by
  rw [List.getD_eq_getElem?_getD, List.getElem?_replicate, if_pos hg]
  rfl
theorem rep_snoc (t : Int) (i : Nat) : ints (List.replicate i t) ++ ints [t] = ints (List.replicate (i + 1) t) := by
  rw [List.replicate_succ']
  simp [ints]
set_option maxRecDepth 100000 in
set_option maxHeartbeats 8000000 in
theorem ratesCounts_walk (KA : AliveOk) (A : Option Addr) (l : List Dbl) (n c : Nat) (low high : Int) (w : World) (hr : Rd w A (flat encD l)) (hn : n = l.length) :
    Calls Try.prog 17 #[.slice A n c, .int .i64 low, .int .i64 high] w fun e w' => e = .returned (.bool true) ∧ Below w.heap.size w w' := by
  by_cases hbig : 200 < n
  · have hb : (200 : Int) < (n : Int) := by omega
    clear hr hn
    go_enter Try.func17, Try.ntmps17
    go_wp2_with fail
    refine (KA _).mono ?_
    rintro e w1 ⟨rfl, hb1⟩
    have S1 := Lib.hid ((Own.start w).ext hb1)
    clear hb1
    go_wp2_with fail
    go_ret
    exact ⟨rfl, S1.out.bel⟩
  have hb : ¬ (200 : Int) < (n : Int) := by omega
  have hn200 : n ≤ 200 := by omega
  have HR := Lib.hid hr
  have HN := Lib.hid hn
  obtain ⟨LS, hLS⟩ : ∃ x, x = List.replicate 8 low := ⟨_, rfl⟩
  obtain ⟨HS, hHS⟩ : ∃ x, x = List.replicate 8 high := ⟨_, rfl⟩
  have QL := Lib.hid hLS
  have QH := Lib.hid hHS
  have KE := Lib.hid (fun ths A2 c2 W (h : Below w.heap.size w W) (h2 : Rd W A2 (ints ths)) (h8 : 8 = ths.length) => errors_any A A2 l ths n c 8 c2 W (hr.below h) hn (by omega) h2 h8 (by omega))
  clear hr hn hbig hLS hHS
  go_enter Try.func17, Try.ntmps17
  go_wp2_with fail
  refine (KA _).mono ?_
  rintro e w1 ⟨rfl, hb1⟩
  have S1 := Lib.hid ((((Own.start w).ext hb1).nil 3 1).nil 3 1)
  clear hb1
  go_wp2_with fail
  go_loopg [8, 9, 25] 8 (fun q u8 u9 u25 wr => ∃ i : Nat, ∃ A8 c8 A9 c9, i ≤ 8 ∧ u25 = .int .i64 (i : Nat) ∧ u8 = .slice A8 i c8 ∧ u9 = .slice A9 i c9 ∧ Hid (i + q = 8 ∧ Own w wr [row 3 1 (.slice A8 i c8) i (ints (List.replicate i low)), row 3 1 (.slice A9 i c9) i (ints (List.replicate i high))]))
  case atStart => exact ⟨0, none, 0, none, 0, Nat.zero_le _, rfl, rfl, rfl, by omega, S1.out⟩
  case round =>
    obtain ⟨i, A8, c8, A9, c9, hi, rfl, rfl, rfl, hI⟩ := hrel
    have I1 := Lib.hid hI.out.1
    have I2 := Lib.hid hI.out.2
    clear hI S1
    by_cases hlt : i < 8
    · as_aux_lemma =>
      have hix : (i : Int) < 8 := by omega
      have I3 := Lib.hid (I2.out.ext (below_alloc wr (.cells #[.int .i64 low] 3)))
      have HN3 := Lib.hid (Rd.new wr #[.int .i64 low] 3)
      clear I2
      go_wp2_with (first
        | (at_builtin; (refine wpList_appP rfl (.tmp 27) (.tmp 29) 36 rfl st36 0 I3.out rfl rfl rfl (i + 1) (ints (List.replicate (i + 1) low)) ?_ (ints [low]) (by omega) (rep_snoc low i) HN3.out (by simp [ints]) (ints_one [low]) (by unfold maxLen; omega) (by omega); intro B8 d8 w9 hS9); have S9 := Lib.hid ((hS9.cast (qs := [row 3 1 (.slice B8 (i + 1) d8) (i + 1) (ints (List.replicate (i + 1) low)), row 3 1 (.slice A9 i c9) i (ints (List.replicate i high))]) rfl).ext (below_alloc w9 (.cells #[.int .i64 high] 3))); have HN9 := Lib.hid (Rd.new w9 #[.int .i64 high] 3); clear hS9 I3 HN3)
        | (at_builtin; (refine wpList_appP rfl (.tmp 31) (.tmp 33) 36 rfl st36 1 S9.out rfl rfl rfl (i + 1) (ints (List.replicate (i + 1) high)) ?_ (ints [high]) (by omega) (rep_snoc high i) HN9.out (by simp [ints]) (ints_one [high]) (by unfold maxLen; omega) (by omega); intro B9 d9 wT hT); have ST := Lib.hid (hT.cast (qs := [row 3 1 (.slice B8 (i + 1) d8) (i + 1) (ints (List.replicate (i + 1) low)), row 3 1 (.slice B9 (i + 1) d9) (i + 1) (ints (List.replicate (i + 1) high))]) rfl); clear hT S9 HN9))
      go_roundg (gk - 1)
      case measure => have := I1.out; omega
      case rel => exact ⟨i + 1, B8, d8, B9, d9, by omega, by go_num, rfl, rfl, by have := I1.out; omega, ST.out⟩
    obtain rfl : i = 8 := by omega
    have S2 := Lib.hid I2.out
    rw [← QL.out, ← QH.out] at S2
    clear I1 I2
    go_wp2_with fail
    refine (KE.out LS A8 c8 _ S2.out.bel (S2.out.rd 0 rfl) (by rw [QL.out]; rfl)).mono ?_
    rintro e w3 ⟨AX, cX, rfl, hOX⟩
    have S3 := Lib.hid ((S2.out.call hOX).cast (qs := [row 62 4 (.slice AX (errN l LS) cX) (errN l LS) (errC l LS), row 3 1 (.slice A8 8 c8) 8 (ints LS), row 3 1 (.slice A9 8 c9) 8 (ints HS)]) rfl)
    clear hOX S2
    go_wp2_with fail
    refine (KE.out HS A9 c9 _ S3.out.bel (S3.out.rd 2 rfl) (by rw [QH.out]; rfl)).mono ?_
    rintro e w4 ⟨AY, cY, rfl, hOY⟩
    have S4 := Lib.hid ((S3.out.call hOY).cast (qs := [row 62 4 (.slice AY (errN l HS) cY) (errN l HS) (errC l HS), row 62 4 (.slice AX (errN l LS) cX) (errN l LS) (errC l LS), row 3 1 (.slice A8 8 c8) 8 (ints LS), row 3 1 (.slice A9 8 c9) 8 (ints HS)]) rfl)
    clear hOY S3 KE
    by_cases hx : errF l LS = 0
    case neg =>
      generalize errF l LS = e1 at *
      have hx' : (e1 == 0) = false := by simpa using hx
      go_wp2_with fail
      go_ret
      exact ⟨rfl, S4.out.bel⟩
    by_cases hy : errF l HS = 0
    case neg =>
      rw [hx]
      generalize errF l HS = e2 at *
      have hy' : (e2 == 0) = false := by simpa using hy
      clear hx
      go_wp2_with fail
      go_ret
      exact ⟨rfl, S4.out.bel⟩
    have HX := Lib.hid (show errC l LS = cellsR LS l ∧ errN l LS = 8 by unfold errC errN; rw [hx]; exact ⟨rfl, rfl⟩)
    have HY := Lib.hid (show errC l HS = cellsR HS l ∧ errN l HS = 8 by unfold errC errN; rw [hy]; exact ⟨rfl, rfl⟩)
    have HOK := Lib.hid (trlE_ok (errF_ok hx).1).2.1
    rw [HX.out.1, HX.out.2, HY.out.1, HY.out.2] at S4
    rw [hx, hy, HX.out.2, HY.out.2]
    have S5 := Lib.hid (show Own w w4 [row 62 4 (.slice AY 8 cY) 8 (cellsR HS l), row 62 4 (.slice AX 8 cX) 8 (cellsR LS l)] from S4.out.sub [0, 1] (by decide) rfl)
    clear HX HY hx hy S4
    obtain ⟨gy, rfl⟩ := S5.out.rowAddr 0 rfl (by decide)
    obtain ⟨gx, rfl⟩ := S5.out.rowAddr 1 rfl (by decide)
    go_wp2_with fail
    go_loopg [14, 65] 8 (fun q u14 u65 wr => ∃ k : Nat, k ≤ 8 ∧ u65 = .int .i64 (k : Nat) ∧ u14 = .int .i64 (lowN l k : Nat) ∧ Hid (k + q = 8 ∧ Own w wr [row 62 4 (.slice (some ⟨gy, 0, none⟩) 8 cY) 8 (cellsR HS l), row 62 4 (.slice (some ⟨gx, 0, none⟩) 8 cX) 8 (cellsR LS l)]))
    case atStart => exact ⟨0, by omega, rfl, by rw [low_zero HOK.out]; rfl, by omega, S5.out⟩
    case round =>
      obtain ⟨k, hk, rfl, rfl, hI⟩ := hrel
      have J1 := Lib.hid hI.out.1
      have J2 := Lib.hid hI.out.2
      clear hI S5
      by_cases hlt : k < 8
      case neg => as_aux_lemma =>
        obtain rfl : k = 8 := by omega
        have HT := Lib.hid (show lowN l 8 = n by rw [low_all HOK.out, HN.out])
        rw [HT.out]
        go_wp2_with fail
        go_ret
        exact ⟨rfl, J2.out.bel⟩
      have hix : (k : Int) < 8 := by omega
      have HST := Lib.hid (low_step LS l k)
      have hll : lowN l k ≤ 200 := by have := low_le l k; have := HN.out; omega
      have hz := cnt_same LS HS k l
      have hp := cnt_part LS k l
      have hq := fun h => cnt_rise (ths := LS) (ths2 := HS) (g := k) (by rw [QL.out, QH.out, rep8 _ hlt, rep8 _ hlt]; exact h) l
      have hX0 : ∀ x : OwnOf w [row 62 4 (.slice (some ⟨gy, 0, none⟩) 8 cY) 8 (cellsR HS l), row 62 4 (.slice (some ⟨gx, 0, none⟩) 8 cX) 8 (cellsR LS l)], x.wld.cell? ⟨gx, k * 4, none⟩ = some (.int .i64 ((cntR LS k 0 l : Nat) : Int)) := fun x => x.own.rowAt (g := gx) 1 rfl (cellsR_at LS l hlt (j := 0) (by omega))
      have hX1 : ∀ x : OwnOf w [row 62 4 (.slice (some ⟨gy, 0, none⟩) 8 cY) 8 (cellsR HS l), row 62 4 (.slice (some ⟨gx, 0, none⟩) 8 cX) 8 (cellsR LS l)], x.wld.cell? ⟨gx, k * 4 + 1, none⟩ = some (.int .i64 ((cntR LS k 1 l : Nat) : Int)) := fun x => x.own.rowAt (g := gx) 1 rfl (cellsR_at LS l hlt (j := 1) (by omega))
      have hX2 : ∀ x : OwnOf w [row 62 4 (.slice (some ⟨gy, 0, none⟩) 8 cY) 8 (cellsR HS l), row 62 4 (.slice (some ⟨gx, 0, none⟩) 8 cX) 8 (cellsR LS l)], x.wld.cell? ⟨gx, k * 4 + 2, none⟩ = some (.int .i64 ((cntR LS k 2 l : Nat) : Int)) := fun x => x.own.rowAt (g := gx) 1 rfl (cellsR_at LS l hlt (j := 2) (by omega))
      have hX3 : ∀ x : OwnOf w [row 62 4 (.slice (some ⟨gy, 0, none⟩) 8 cY) 8 (cellsR HS l), row 62 4 (.slice (some ⟨gx, 0, none⟩) 8 cX) 8 (cellsR LS l)], x.wld.cell? ⟨gx, k * 4 + 3, none⟩ = some (.int .i64 ((cntR LS k 3 l : Nat) : Int)) := fun x => x.own.rowAt (g := gx) 1 rfl (cellsR_at LS l hlt (j := 3) (by omega))
      have hY0 : ∀ x : OwnOf w [row 62 4 (.slice (some ⟨gy, 0, none⟩) 8 cY) 8 (cellsR HS l), row 62 4 (.slice (some ⟨gx, 0, none⟩) 8 cX) 8 (cellsR LS l)], x.wld.cell? ⟨gy, k * 4, none⟩ = some (.int .i64 ((cntR HS k 0 l : Nat) : Int)) := fun x => x.own.rowAt (g := gy) 0 rfl (cellsR_at HS l hlt (j := 0) (by omega))
      have hY1 : ∀ x : OwnOf w [row 62 4 (.slice (some ⟨gy, 0, none⟩) 8 cY) 8 (cellsR HS l), row 62 4 (.slice (some ⟨gx, 0, none⟩) 8 cX) 8 (cellsR LS l)], x.wld.cell? ⟨gy, k * 4 + 1, none⟩ = some (.int .i64 ((cntR HS k 1 l : Nat) : Int)) := fun x => x.own.rowAt (g := gy) 0 rfl (cellsR_at HS l hlt (j := 1) (by omega))
      have hY2 : ∀ x : OwnOf w [row 62 4 (.slice (some ⟨gy, 0, none⟩) 8 cY) 8 (cellsR HS l), row 62 4 (.slice (some ⟨gx, 0, none⟩) 8 cX) 8 (cellsR LS l)], x.wld.cell? ⟨gy, k * 4 + 2, none⟩ = some (.int .i64 ((cntR HS k 2 l : Nat) : Int)) := fun x => x.own.rowAt (g := gy) 0 rfl (cellsR_at HS l hlt (j := 2) (by omega))
      have hY3 : ∀ x : OwnOf w [row 62 4 (.slice (some ⟨gy, 0, none⟩) 8 cY) 8 (cellsR HS l), row 62 4 (.slice (some ⟨gx, 0, none⟩) 8 cX) 8 (cellsR LS l)], x.wld.cell? ⟨gy, k * 4 + 3, none⟩ = some (.int .i64 ((cntR HS k 3 l : Nat) : Int)) := fun x => x.own.rowAt (g := gy) 0 rfl (cellsR_at HS l hlt (j := 3) (by omega))
      rw [hz.1] at hY0
      rw [hz.2] at hY2
      have b0 := cntR_le LS k 0 l
      have b2 := cntR_le LS k 2 l
      rw [← HN.out] at b0 b2
      clear hz
      generalize lowN l k = s at *
      obtain ⟨s', hs'⟩ : ∃ s', s' = lowN l (k + 1) := ⟨_, rfl⟩
      have HSP := Lib.hid hs'
      rw [← hs'] at HST
      clear hs'
      generalize cntR LS k 0 l = x0 at *
      generalize cntR LS k 1 l = x1 at *
      generalize cntR LS k 2 l = x2 at *
      generalize cntR LS k 3 l = x3 at *
      generalize cntR HS k 1 l = y1 at *
      generalize cntR HS k 3 l = y3 at *
      obtain ⟨hp1, hp2⟩ := hp
      have z0 : IntKind.i64.wrap ((x0 : Int) + (x2 : Int)) = (x0 : Int) + (x2 : Int) := IntWalk.i64_in _ (by omega)
      have z1 : IntKind.i64.wrap ((s : Int) + ((x0 : Int) + (x2 : Int))) = (s' : Int) := by rw [HST.out, show (s : Int) + ((x0 : Int) + (x2 : Int)) = ((s + (x0 + x2) : Nat) : Int) by omega]; exact IntWalk.i64_in _ (by omega)
      have z2 : ¬ (x0 : Int) < (x1 : Int) := by omega
      have z3 : ¬ (x2 : Int) < (x3 : Int) := by omega
      have z4 : ¬ (x1 : Int) < 0 := by omega
      have z5 : ¬ (x3 : Int) < 0 := by omega
      have hne : Nonempty (OwnOf w [row 62 4 (.slice (some ⟨gy, 0, none⟩) 8 cY) 8 (cellsR HS l), row 62 4 (.slice (some ⟨gx, 0, none⟩) 8 cX) 8 (cellsR LS l)]) := ⟨⟨_, J2.out⟩⟩
      go_upto_region 19 with (fail)
      refine wp_region_own J2.out (by kernel_rfl) (by kernel_rfl) ?_
      iterate 14 (go_big_quiet_step (fail))
      refine wpQuiet_nil ?_
      rintro w5 ⟨z, hzz⟩
      have J5 := Lib.hid (show Own w w5 [row 62 4 (.slice (some ⟨gy, 0, none⟩) 8 cY) 8 (cellsR HS l), row 62 4 (.slice (some ⟨gx, 0, none⟩) 8 cX) 8 (cellsR LS l)] by rw [hzz]; exact z.own)
      clear hzz z J2
      go_upto_region 20 with (fail)
      refine wp_region_own J5.out (by kernel_rfl) (by kernel_rfl) ?_
      simp only [List.append]
      iterate 66 (go_big_quiet_step (fail))
      refine wpQuiet_nil ?_
      rintro w6 ⟨z, hzz⟩
      have J3 := Lib.hid (show Own w w6 [row 62 4 (.slice (some ⟨gy, 0, none⟩) 8 cY) 8 (cellsR HS l), row 62 4 (.slice (some ⟨gx, 0, none⟩) 8 cX) 8 (cellsR LS l)] by rw [hzz]; exact z.own)
      clear hzz z J5
      by_cases hlh : low ≤ high
      · as_aux_lemma =>
        obtain ⟨r1, r2⟩ := hq hlh
        go_wp2_with fail
        have z6 : ¬ (y1 : Int) < (x1 : Int) := by omega
        have z7 : ¬ (x3 : Int) < (y3 : Int) := by omega
        refine wp_region_own J3.out (by kernel_rfl) (by kernel_rfl) ?_
        iterate 29 (go_big_quiet_step (fail))
        refine wpQuiet_nil ?_
        rintro w7 ⟨z, hzz⟩
        have J4 := Lib.hid (show Own w w7 [row 62 4 (.slice (some ⟨gy, 0, none⟩) 8 cY) 8 (cellsR HS l), row 62 4 (.slice (some ⟨gx, 0, none⟩) 8 cX) 8 (cellsR LS l)] by rw [hzz]; exact z.own)
        clear hzz z J3
        go_wp2_with fail
        go_roundg (gk - 1)
        case measure => have := J1.out; omega
        case rel => exact ⟨k + 1, by omega, by go_num, by rw [HSP.out], by have := J1.out; omega, J4.out⟩
      · as_aux_lemma =>
        clear hq
        have hlh2 : high < low := by omega
        go_wp2_with fail
        have hlh3 : ¬ low ≤ high := by omega
        refine wp_region_own J3.out (by kernel_rfl) (by kernel_rfl) ?_
        iterate 29 (go_big_quiet_step (fail))
        refine wpQuiet_nil ?_
        rintro w7 ⟨z, hzz⟩
        have J4 := Lib.hid (show Own w w7 [row 62 4 (.slice (some ⟨gy, 0, none⟩) 8 cY) 8 (cellsR HS l), row 62 4 (.slice (some ⟨gx, 0, none⟩) 8 cX) 8 (cellsR LS l)] by rw [hzz]; exact z.own)
        clear hzz z J3
        go_wp2_with fail
        go_roundg (gk - 1)
        case measure => have := J1.out; omega
        case rel => exact ⟨k + 1, by omega, by go_num, by rw [HSP.out], by have := J1.out; omega, J4.out⟩
end Go.Proofs.Ytnalbchggjepdaa
