/- Rates: what thresholds do with trials: the reference. No condition. -/
import Derived.Test.YtnalbchggjepdaaGj
namespace Go.Proofs.Ytnalbchggjepdaa
open Go.RowKit Go.Shelf
attribute [local go_sem] Oper.semAt_some

def setL4 (xs : List Value) (o : Nat) (a b c d : Value) : List Value := (((xs.set o a).set (o + 1) b).set (o + 2) c).set (o + 3) d
theorem cellsR_put4 {ths : List Int} {l : List Dbl} {k : Nat} (hk : k < l.length) {g : Nat} (hg : g < 8) (ha : l[k].a = (g : Int)) :
    setL4 (cellsR ths (l.take k)) (g * 4) (.int .i64 ((cntR ths g 0 (l.take (k + 1)) : Nat) : Int)) (.int .i64 ((cntR ths g 1 (l.take (k + 1)) : Nat) : Int)) (.int .i64 ((cntR ths g 2 (l.take (k + 1)) : Nat) : Int)) (.int .i64 ((cntR ths g 3 (l.take (k + 1)) : Nat) : Int)) = cellsR ths (l.take (k + 1)) := by
  apply cellsR_step hk (by simp [setL4, cellsR_len])
  intro g' j' hg' hj'
  rw [← cntR_take ths _ _ hk]
  unfold setL4
  by_cases e : g' = g
  · subst e
    rcases (show j' = 0 ∨ j' = 1 ∨ j' = 2 ∨ j' = 3 by omega) with rfl | rfl | rfl | rfl
    · rw [List.getElem?_set_ne (by omega), List.getElem?_set_ne (by omega), List.getElem?_set_ne (by omega)]
      simp only [Nat.add_zero]
      rw [List.getElem?_set_self (by rw [cellsR_len]; omega)]
    · rw [List.getElem?_set_ne (by omega), List.getElem?_set_ne (by omega), List.getElem?_set_self (by simp only [List.length_set]; rw [cellsR_len]; omega)]
    · rw [List.getElem?_set_ne (by omega), List.getElem?_set_self (by simp only [List.length_set]; rw [cellsR_len]; omega)]
    · rw [List.getElem?_set_self (by simp only [List.length_set]; rw [cellsR_len]; omega)]
  · rw [List.getElem?_set_ne (by omega), List.getElem?_set_ne (by omega), List.getElem?_set_ne (by omega), List.getElem?_set_ne (by omega), cellsR_at _ _ hg' hj', cntR_take ths _ _ hk]
    have : selB ths g' j' l[k] = false := by
      simp only [selB, Bool.and_eq_false_iff, decide_eq_false_iff_not]
      left; omega
    rw [this]; rfl
theorem limB_ok {ths : List Int} (h : limB ths = true) : ths.length = 8 ∧ frB (-1) 1000 ths = true := by
  unfold limB at h
  simpa [Bool.and_eq_true] using h
set_option maxRecDepth 100000 in
set_option maxHeartbeats 8000000 in
theorem refErrors_any (A A2 : Option Addr) (l : List Dbl) (ths : List Int) (n c n2 c2 : Nat) (w : World) (hr : Rd w A (flat encD l)) (hn : n = l.length) (hl : n ≤ 1000000) (hr2 : Rd w A2 (ints ths)) (hn2 : n2 = ths.length) (hl2 : n2 ≤ 1000000) :
    Calls Try.prog 37 #[.slice A n c, .slice A2 n2 c2] w fun e w' => ∃ A' c', e = .returned (.tuple #[.slice A' (errN l ths) c', .int .i64 (errF l ths)]) ∧ Own w w' [row 62 4 (.slice A' (errN l ths) c') (errN l ths) (errC l ths)] := by
  have HN := Lib.hid hn
  have HR := Lib.hid hr
  have HN2 := Lib.hid hn2
  have HR2 := Lib.hid hr2
  have K1 := Lib.hid (refTrials_any A l n c w hr hn hl)
  have K2 := Lib.hid (fun W (h : Below w.heap.size w W) => refLimits_any A2 ths n2 c2 W (hr2.below h) hn2)
  have hmk : ∀ v : World, (Instr.makeSlice 54 (.int .i64 8) (.int .i64 8)).run Try.prog v = .ok (.slice (some ⟨v.heap.size, 0, none⟩) 8 8) (v.alloc (.cells (madeCells #[.int .i64 0, .int .i64 0, .int .i64 0, .int .i64 0] 32) 62)) := by
    intro v
    obtain ⟨i, hi, hz⟩ := Option.map_eq_some_iff.1 (show (Try.prog.info? 62).map (fun i => (i.zero, i.size, i.bytes)) = some (some (.agg #[.int .i64 0, .int .i64 0, .int .i64 0, .int .i64 0]), 4, 32) by kernel_rfl)
    simp only [Prod.mk.injEq] at hz
    obtain ⟨hz, hs, hb⟩ := hz
    have hr := run_make (P := Try.prog) v 54 62 i _ Try.underlying54 hi hz .i64 .i64 8 8 (by omega) (by omega) (by rw [hb]; omega) (by omega)
    rw [hs] at hr
    exact hr
  by_cases h0 : trlE l = 0
  case neg => as_aux_lemma =>
    have HE := Lib.hid (show errF l ths = trlE l by unfold errF; rw [if_neg h0])
    have HC := Lib.hid (show errC l ths = [] ∧ errN l ths = 0 by unfold errC errN; rw [HE.out, if_neg h0, if_neg h0]; exact ⟨rfl, rfl⟩)
    rw [HE.out, HC.out.1, HC.out.2]
    generalize trlE l = v at *
    have h0' : (v == 0) = false := by simpa using h0
    clear hr hn hr2 hn2 h0 hmk
    go_enter Try.func37, Try.ntmps37
    go_wp2_with fail
    refine K1.out.mono ?_
    rintro e w1 ⟨rfl, hb1⟩
    have S1 := Lib.hid (((Own.start w).ext hb1).nil 62 4)
    clear hb1
    go_wp2_with fail
    go_ret2
    exact ⟨none, 0, rfl, S1.out⟩
  rw [h0] at K1
  obtain ⟨b1, b2, b3⟩ := trlE_ok h0
  cases h9 : limB ths
  · as_aux_lemma =>
    have HE := Lib.hid (show errF l ths = 2 by
      unfold errF
      rw [if_pos h0, if_neg]
      rintro ⟨k1, k2⟩
      rw [limB, decide_eq_true k1, k2] at h9
      cases h9)
    have HC := Lib.hid (show errC l ths = [] ∧ errN l ths = 0 by unfold errC errN; rw [HE.out]; exact ⟨rfl, rfl⟩)
    rw [HE.out, HC.out.1, HC.out.2]
    rw [h9] at K2
    clear hr hn hr2 hn2 h0 hmk b1 b2 b3 h9
    go_enter Try.func37, Try.ntmps37
    go_wp2_with fail
    refine K1.out.mono ?_
    rintro e w1 ⟨rfl, hb1⟩
    have S1 := Lib.hid ((Own.start w).ext hb1)
    clear hb1 K1
    go_wp2_with fail
    refine (K2.out _ S1.out.bel).mono ?_
    rintro e w2 ⟨rfl, hb2⟩
    have S2 := Lib.hid ((S1.out.ext hb2).nil 62 4)
    clear hb2 S1
    go_wp2_with fail
    go_ret2
    exact ⟨none, 0, rfl, S2.out⟩
  obtain ⟨l8, lfr⟩ := limB_ok h9
  have HE := Lib.hid (show errF l ths = 0 by unfold errF; rw [if_pos h0, if_pos ⟨l8, lfr⟩])
  have HC := Lib.hid (show errC l ths = cellsR ths l ∧ errN l ths = 8 by unfold errC errN; rw [HE.out]; exact ⟨rfl, rfl⟩)
  rw [HE.out, HC.out.1, HC.out.2]
  rw [h9] at K2
  have HOK := Lib.hid b2
  have hn200 : n ≤ 200 := by omega
  obtain rfl : n2 = 8 := by omega
  clear hr hn hr2 hn2 h0 b1 b2 b3 h9 HE HC l8 lfr
  go_enter Try.func37, Try.ntmps37
  go_wp2_with fail
  refine K1.out.mono ?_
  rintro e w1 ⟨rfl, hb1⟩
  have S1 := Lib.hid ((Own.start w).ext hb1)
  clear hb1 K1
  go_wp2_with fail
  refine (K2.out _ S1.out.bel).mono ?_
  rintro e w2 ⟨rfl, hb2⟩
  obtain ⟨B, hB⟩ : ∃ B, B = w2.heap.size := ⟨_, rfl⟩
  have S2 := Lib.hid ((((S1.out.ext hb2).new' 62 (madeCells #[.int .i64 0, .int .i64 0, .int .i64 0, .int .i64 0] 32) hB).asRow (size := 4) (n := 8) 0 rfl (by rw [← cellsR_zero ths, cellsR_len]) (by unfold maxLen; omega)).cast (qs := [row 62 4 (.slice (some ⟨B, 0, none⟩) 8 8) 8 (cellsR ths [])]) (by rw [cellsR_zero]; rfl))
  clear hb2 S1 K2
  go_wp2_with fail
  rw [← hB]
  clear hB hmk
  generalize w2.alloc _ = w3 at *
  go_loopg [8] n (fun q u8 wr => ∃ k : Nat, k ≤ n ∧ u8 = .int .i64 (k : Nat) ∧ Hid (k + q = n ∧ Own w wr [row 62 4 (.slice (some ⟨B, 0, none⟩) 8 8) 8 (cellsR ths (l.take k))]))
  case atStart => exact ⟨0, by omega, rfl, by omega, S2.out⟩
  case round =>
    obtain ⟨k, hk, rfl, hI⟩ := hrel
    have I1 := Lib.hid hI.out.1
    have I2 := Lib.hid hI.out.2
    clear hI S2
    by_cases hlt : k < n
    case neg => as_aux_lemma =>
      obtain rfl : n = k := by omega
      have hni : ¬ (n : Int) < (n : Int) := by omega
      have HT := Lib.hid (show l.take n = l by rw [List.take_of_length_le (by rw [← HN.out]; exact Nat.le_refl _)])
      rw [HT.out] at I2
      go_wp2_with fail
      go_ret2
      exact ⟨some ⟨B, 0, none⟩, 8, rfl, I2.out⟩
    have hil : k < l.length := by rw [← HN.out]; exact hlt
    have hix : (k : Int) < (n : Int) := by omega
    have z0 : IntKind.i64.wrap ((k : Int) + 1) = ((k + 1 : Nat) : Int) := by rw [show (k : Int) + 1 = ((k + 1 : Nat) : Int) by omega]; exact IntWalk.i64_in _ (by omega)
    have hgr := trl_group HOK.out hil
    obtain ⟨bb, off, rfl, -⟩ := (HR.out.below I2.out.bel).dbl hil
    have HTR := Lib.hid (fun W (h : Below w.heap.size w W) => (show bb < W.heap.size ∧ W.cell? ⟨bb, off + k * 3, none⟩ = some (.int .i64 l[k].a) ∧ W.cell? ⟨bb, off + k * 3 + 1, none⟩ = some (.int .i64 l[k].b) ∧ W.cell? ⟨bb, off + k * 3 + 2, none⟩ = some (.bool l[k].same) by
      obtain ⟨b1, o1, e1, q1, q2, q3, q4⟩ := (HR.out.below h).dbl hil
      injection e1 with e1
      injection e1 with e1 e2
      subst e1 e2
      exact ⟨q1, q2, q3, q4⟩))
    have HLE := Lib.hid (fun g j => (show cntR ths g j (l.take k) ≤ 1000000 by
      have := cntR_le ths g j (l.take k)
      rw [List.length_take] at this
      omega))
    have HPUT := Lib.hid (fun g (hg : g < 8) h => cellsR_put4 (ths := ths) hil hg h)
    have HTK := Lib.hid (fun g j => cntR_take ths g j hil)
    generalize l[k] = x at *
    obtain ⟨xa, xb, xs⟩ := x
    simp only at HTR hgr HPUT
    obtain ⟨g, rfl⟩ := Int.eq_ofNat_of_zero_le hgr.1.1
    have hg8 : g < 8 := by omega
    have hgl : g < ths.length := by rw [← HN2.out]; exact hg8
    obtain ⟨b2, off2, rfl, -, -⟩ := HR2.out.int hgl
    have HTC := Lib.hid (fun W (h : Below w.heap.size w W) => (show W.cell? ⟨b2, off2 + g, none⟩ = some (.int .i64 (ths.getD g 0)) ∧ b2 < W.heap.size by
      obtain ⟨b1, o1, e1, k1, k2⟩ := (HR2.out.below h).int hgl
      injection e1 with e1
      injection e1 with e1 e2
      subst e1 e2
      rw [List.getD_eq_getElem?_getD, List.getElem?_eq_getElem hgl]
      exact ⟨k1, k2⟩))
    have HSEL := Lib.hid (⟨fun h j hj => selB_ft h g j hj, fun h j hj => selB_ff h g j hj, fun h j hj => selB_tt h g j hj, fun h j hj => selB_tf h g j hj⟩ : (xb ≤ ths.getD g 0 → ∀ j, j < 4 → selB ths g j ⟨g, xb, false⟩ = decide (g = g ∧ (j = 0 ∨ j = 1))) ∧ (¬ xb ≤ ths.getD g 0 → ∀ j, j < 4 → selB ths g j ⟨g, xb, false⟩ = decide (g = g ∧ j = 0)) ∧ (xb ≤ ths.getD g 0 → ∀ j, j < 4 → selB ths g j ⟨g, xb, true⟩ = decide (g = g ∧ j = 2)) ∧ (¬ xb ≤ ths.getD g 0 → ∀ j, j < 4 → selB ths g j ⟨g, xb, true⟩ = decide (g = g ∧ (j = 2 ∨ j = 3))))
    generalize ht : ths.getD g 0 = t at *
    have hgi : (g : Int) < 8 := by omega
    obtain ⟨q0, hq0⟩ : ∃ q, q = cntR ths g 0 (l.take k) := ⟨_, rfl⟩
    have hb0 : q0 ≤ 1000000 := by rw [hq0]; exact HLE.out g 0
    have HC0 := Lib.hid (show (cellsR ths (l.take k))[g * 4 + 0]? = some (.int .i64 ((q0 : Nat) : Int)) by rw [hq0]; exact cellsR_at ths (l.take k) hg8 (j := 0) (by omega))
    have zq0 : IntKind.i64.wrap ((q0 : Int) + 1) = ((q0 + 1 : Nat) : Int) := by rw [show (q0 : Int) + 1 = ((q0 + 1 : Nat) : Int) by omega]; exact IntWalk.i64_in _ (by omega)
    have HK0 := Lib.hid (HTK.out g 0)
    rw [← hq0] at HK0
    clear hq0
    obtain ⟨q1, hq1⟩ : ∃ q, q = cntR ths g 1 (l.take k) := ⟨_, rfl⟩
    have hb1 : q1 ≤ 1000000 := by rw [hq1]; exact HLE.out g 1
    have HC1 := Lib.hid (show (cellsR ths (l.take k))[g * 4 + 1]? = some (.int .i64 ((q1 : Nat) : Int)) by rw [hq1]; exact cellsR_at ths (l.take k) hg8 (j := 1) (by omega))
    have zq1 : IntKind.i64.wrap ((q1 : Int) + 1) = ((q1 + 1 : Nat) : Int) := by rw [show (q1 : Int) + 1 = ((q1 + 1 : Nat) : Int) by omega]; exact IntWalk.i64_in _ (by omega)
    have HK1 := Lib.hid (HTK.out g 1)
    rw [← hq1] at HK1
    clear hq1
    obtain ⟨q2, hq2⟩ : ∃ q, q = cntR ths g 2 (l.take k) := ⟨_, rfl⟩
    have hb2 : q2 ≤ 1000000 := by rw [hq2]; exact HLE.out g 2
    have HC2 := Lib.hid (show (cellsR ths (l.take k))[g * 4 + 2]? = some (.int .i64 ((q2 : Nat) : Int)) by rw [hq2]; exact cellsR_at ths (l.take k) hg8 (j := 2) (by omega))
    have zq2 : IntKind.i64.wrap ((q2 : Int) + 1) = ((q2 + 1 : Nat) : Int) := by rw [show (q2 : Int) + 1 = ((q2 + 1 : Nat) : Int) by omega]; exact IntWalk.i64_in _ (by omega)
    have HK2 := Lib.hid (HTK.out g 2)
    rw [← hq2] at HK2
    clear hq2
    obtain ⟨q3, hq3⟩ : ∃ q, q = cntR ths g 3 (l.take k) := ⟨_, rfl⟩
    have hb3 : q3 ≤ 1000000 := by rw [hq3]; exact HLE.out g 3
    have HC3 := Lib.hid (show (cellsR ths (l.take k))[g * 4 + 3]? = some (.int .i64 ((q3 : Nat) : Int)) by rw [hq3]; exact cellsR_at ths (l.take k) hg8 (j := 3) (by omega))
    have zq3 : IntKind.i64.wrap ((q3 : Int) + 1) = ((q3 + 1 : Nat) : Int) := by rw [show (q3 : Int) + 1 = ((q3 + 1 : Nat) : Int) by omega]; exact IntWalk.i64_in _ (by omega)
    have HK3 := Lib.hid (HTK.out g 3)
    rw [← hq3] at HK3
    clear hq3
    have HP := Lib.hid (HPUT.out g hg8 rfl)
    clear ht hgr hgl hil HPUT
    obtain ⟨e9, f0, f1, f2⟩ := HTR.out wr I2.out.bel
    have r0 : wr.cell? ⟨B, g * 4, none⟩ = some (.int .i64 ((q0 : Nat) : Int)) := I2.out.rowAt (g := B) 0 rfl HC0.out
    have r1 := I2.out.rowAt (g := B) 0 rfl HC1.out
    have r2 := I2.out.rowAt (g := B) 0 rfl HC2.out
    have r3 := I2.out.rowAt (g := B) 0 rfl HC3.out
    have rl := (I2.out.rowLt (g := B) 0 rfl).1
    obtain ⟨B9, hB9⟩ : ∃ B, B = wr.heap.size := ⟨_, rfl⟩
    go_upto_region 11 with (fail)
    have S5 := Lib.hid ((I2.out.new' 62 #[.int .i64 (q0 : Nat), .int .i64 (q1 : Nat), .int .i64 (q2 : Nat), .int .i64 (q3 : Nat)] hB9).cast (qs := [box B9 62 [.int .i64 (q0 : Nat), .int .i64 (q1 : Nat), .int .i64 (q2 : Nat), .int .i64 (q3 : Nat)], row 62 4 (.slice (some ⟨B, 0, none⟩) 8 8) 8 (cellsR ths (l.take k))]) rfl)
    rw [← hB9]
    clear hB9 I2 r0 r1 r2 r3 rl e9 f0 f1 f2
    generalize wr.alloc _ = W5 at *
    have fb0 := fun x : OwnOf w [box B9 62 [.int .i64 (q0 : Nat), .int .i64 (q1 : Nat), .int .i64 (q2 : Nat), .int .i64 (q3 : Nat)], row 62 4 (.slice (some ⟨B, 0, none⟩) 8 8) 8 (cellsR ths (l.take k))] => (HTR.out x.wld x.own.bel).1
    have fb1 := fun x : OwnOf w [box B9 62 [.int .i64 (q0 : Nat), .int .i64 (q1 : Nat), .int .i64 (q2 : Nat), .int .i64 (q3 : Nat)], row 62 4 (.slice (some ⟨B, 0, none⟩) 8 8) 8 (cellsR ths (l.take k))] => (HTR.out x.wld x.own.bel).2.1
    have fb2 := fun x : OwnOf w [box B9 62 [.int .i64 (q0 : Nat), .int .i64 (q1 : Nat), .int .i64 (q2 : Nat), .int .i64 (q3 : Nat)], row 62 4 (.slice (some ⟨B, 0, none⟩) 8 8) 8 (cellsR ths (l.take k))] => (HTR.out x.wld x.own.bel).2.2.1
    have ft0 := fun x : OwnOf w [box B9 62 [.int .i64 (q0 : Nat), .int .i64 (q1 : Nat), .int .i64 (q2 : Nat), .int .i64 (q3 : Nat)], row 62 4 (.slice (some ⟨B, 0, none⟩) 8 8) 8 (cellsR ths (l.take k))] => (HTC.out x.wld x.own.bel).1
    have ft1 := fun x : OwnOf w [box B9 62 [.int .i64 (q0 : Nat), .int .i64 (q1 : Nat), .int .i64 (q2 : Nat), .int .i64 (q3 : Nat)], row 62 4 (.slice (some ⟨B, 0, none⟩) 8 8) 8 (cellsR ths (l.take k))] => (HTC.out x.wld x.own.bel).2
    have hne : Nonempty (OwnOf w [box B9 62 [.int .i64 (q0 : Nat), .int .i64 (q1 : Nat), .int .i64 (q2 : Nat), .int .i64 (q3 : Nat)], row 62 4 (.slice (some ⟨B, 0, none⟩) 8 8) 8 (cellsR ths (l.take k))]) := ⟨⟨_, S5.out⟩⟩
    refine wp_region_own S5.out (by kernel_rfl) (by kernel_rfl) ?_
    iterate 15 (go_big_quiet_step (fail))
    refine wpQuiet_nil ?_
    rintro w6 ⟨z, hz⟩
    have S6 := Lib.hid (show Own w w6 [box B9 62 [.int .i64 (q0 : Nat), .int .i64 (q1 : Nat), .int .i64 (q2 : Nat), .int .i64 (q3 : Nat)], row 62 4 (.slice (some ⟨B, 0, none⟩) 8 8) 8 (cellsR ths (l.take k))] by rw [hz]; exact z.own)
    clear hz z S5 fb0 fb1 fb2 ft0 ft1 hne
    cases xs
    · by_cases hle : xb ≤ t
      · have hle2 : ¬ t < xb := by omega
        obtain ⟨e9, f0, f1, f2⟩ := HTR.out w6 S6.out.bel
        obtain ⟨d0, d1, d2, d3, df⟩ := (S6.out.bx 0 rfl).c4
        have dl := (S6.out.bx 0 rfl).2.2
        go_upto_region 17 with (fail)
        have S7 := Lib.hid (show Own w (w6.setCell ⟨B9, 0, none⟩ (.int .i64 ((q0 : Int) + 1))) [box B9 62 [.int .i64 ((q0 + 1 : Nat) : Int), .int .i64 (q1 : Nat), .int .i64 (q2 : Nat), .int .i64 (q3 : Nat)], row 62 4 (.slice (some ⟨B, 0, none⟩) 8 8) 8 (cellsR ths (l.take k))] from (S6.out.set 0 rfl 0 (.int .i64 ((q0 + 1 : Nat) : Int))).cast rfl)
        clear e9 f0 f1 f2 d0 d1 d2 d3 df dl S6
        generalize w6.setCell _ _ = w7 at *
        obtain ⟨e9, f0, f1, f2⟩ := HTR.out w7 S7.out.bel
        obtain ⟨d0, d1, d2, d3, df⟩ := (S7.out.bx 0 rfl).c4
        have dl := (S7.out.bx 0 rfl).2.2
        go_upto_region 19 with (fail)
        have S8 := Lib.hid (show Own w (w7.setCell ⟨B9, 1, none⟩ (.int .i64 ((q1 : Int) + 1))) [box B9 62 [.int .i64 ((q0 + 1 : Nat) : Int), .int .i64 ((q1 + 1 : Nat) : Int), .int .i64 (q2 : Nat), .int .i64 (q3 : Nat)], row 62 4 (.slice (some ⟨B, 0, none⟩) 8 8) 8 (cellsR ths (l.take k))] from (S7.out.set 0 rfl 1 (.int .i64 ((q1 + 1 : Nat) : Int))).cast rfl)
        clear e9 f0 f1 f2 d0 d1 d2 d3 df dl S7
        generalize w7.setCell _ _ = w8 at *
        obtain ⟨e9, f0, f1, f2⟩ := HTR.out w8 S8.out.bel
        obtain ⟨d0, d1, d2, d3, df⟩ := (S8.out.bx 0 rfl).c4
        have dl := (S8.out.bx 0 rfl).2.2
        have r0 : w8.cell? ⟨B, g * 4, none⟩ = some (.int .i64 ((q0 : Nat) : Int)) := S8.out.rowAt (g := B) 1 rfl HC0.out
        have r1 := S8.out.rowAt (g := B) 1 rfl HC1.out
        have r2 := S8.out.rowAt (g := B) 1 rfl HC2.out
        have r3 := S8.out.rowAt (g := B) 1 rfl HC3.out
        obtain ⟨rl, rf⟩ := S8.out.rowLt (g := B) 1 rfl
        have S9 := Lib.hid (show Own w ((((w8.setCell ⟨B, g * 4, none⟩ (.int .i64 ((q0 : Int) + 1))).setCell ⟨B, g * 4 + 1, none⟩ (.int .i64 ((q1 : Int) + 1))).setCell ⟨B, g * 4 + 2, none⟩ (.int .i64 (q2 : Nat))).setCell ⟨B, g * 4 + 3, none⟩ (.int .i64 (q3 : Nat))).drew [box B9 62 [.int .i64 ((q0 + 1 : Nat) : Int), .int .i64 ((q1 + 1 : Nat) : Int), .int .i64 (q2 : Nat), .int .i64 (q3 : Nat)], row 62 4 (.slice (some ⟨B, 0, none⟩) 8 8) 8 (setL4 (cellsR ths (l.take k)) (g * 4) (.int .i64 ((q0 : Int) + 1)) (.int .i64 ((q1 : Int) + 1)) (.int .i64 (q2 : Nat)) (.int .i64 (q3 : Nat)))] from ((((S8.out.setRow 1 rfl (g * 4) (.int .i64 ((q0 : Int) + 1))).setRow 1 rfl (g * 4 + 1) (.int .i64 ((q1 : Int) + 1))).setRow 1 rfl (g * 4 + 2) (.int .i64 (q2 : Nat))).setRow 1 rfl (g * 4 + 3) (.int .i64 (q3 : Nat))).ext (Below.refl _ _).drew)
        have HQ := Lib.hid (show setL4 (cellsR ths (l.take k)) (g * 4) (.int .i64 ((q0 : Int) + 1)) (.int .i64 ((q1 : Int) + 1)) (.int .i64 (q2 : Nat)) (.int .i64 (q3 : Nat)) = cellsR ths (l.take (k + 1)) by
          rw [← HP.out, HK0.out, HK1.out, HK2.out, HK3.out, HSEL.out.1 hle 0 (by omega), HSEL.out.1 hle 1 (by omega), HSEL.out.1 hle 2 (by omega), HSEL.out.1 hle 3 (by omega)]
          simp)
        have HH := Lib.hid (show ((((w8.setCell ⟨B, g * 4, none⟩ (.int .i64 ((q0 : Int) + 1))).setCell ⟨B, g * 4 + 1, none⟩ (.int .i64 ((q1 : Int) + 1))).setCell ⟨B, g * 4 + 2, none⟩ (.int .i64 (q2 : Nat))).setCell ⟨B, g * 4 + 3, none⟩ (.int .i64 (q3 : Nat))).drew.cell? ⟨bb, off + k * 3, none⟩ = some (.int .i64 (g : Nat)) ∧ ((((w8.setCell ⟨B, g * 4, none⟩ (.int .i64 ((q0 : Int) + 1))).setCell ⟨B, g * 4 + 1, none⟩ (.int .i64 ((q1 : Int) + 1))).setCell ⟨B, g * 4 + 2, none⟩ (.int .i64 (q2 : Nat))).setCell ⟨B, g * 4 + 3, none⟩ (.int .i64 (q3 : Nat))).drew.cell? ⟨B9, 0, none⟩ = some (.int .i64 ((q0 + 1 : Nat) : Int)) ∧ ((((w8.setCell ⟨B, g * 4, none⟩ (.int .i64 ((q0 : Int) + 1))).setCell ⟨B, g * 4 + 1, none⟩ (.int .i64 ((q1 : Int) + 1))).setCell ⟨B, g * 4 + 2, none⟩ (.int .i64 (q2 : Nat))).setCell ⟨B, g * 4 + 3, none⟩ (.int .i64 (q3 : Nat))).drew.cell? ⟨B9, 1, none⟩ = some (.int .i64 ((q1 + 1 : Nat) : Int)) ∧ ((((w8.setCell ⟨B, g * 4, none⟩ (.int .i64 ((q0 : Int) + 1))).setCell ⟨B, g * 4 + 1, none⟩ (.int .i64 ((q1 : Int) + 1))).setCell ⟨B, g * 4 + 2, none⟩ (.int .i64 (q2 : Nat))).setCell ⟨B, g * 4 + 3, none⟩ (.int .i64 (q3 : Nat))).drew.cell? ⟨B9, 2, none⟩ = some (.int .i64 (q2 : Nat)) ∧ ((((w8.setCell ⟨B, g * 4, none⟩ (.int .i64 ((q0 : Int) + 1))).setCell ⟨B, g * 4 + 1, none⟩ (.int .i64 ((q1 : Int) + 1))).setCell ⟨B, g * 4 + 2, none⟩ (.int .i64 (q2 : Nat))).setCell ⟨B, g * 4 + 3, none⟩ (.int .i64 (q3 : Nat))).drew.cell? ⟨B9, 3, none⟩ = some (.int .i64 (q3 : Nat)) from ⟨(HTR.out _ S9.out.bel).2.1, (S9.out.bx 0 rfl).1 0 _ rfl, (S9.out.bx 0 rfl).1 1 _ rfl, (S9.out.bx 0 rfl).1 2 _ rfl, (S9.out.bx 0 rfl).1 3 _ rfl⟩)
        go_region_held3 (fun w' => w'.cell? ⟨bb, off + k * 3, none⟩ = some (.int .i64 (g : Nat)) ∧ w'.cell? ⟨B9, 0, none⟩ = some (.int .i64 ((q0 + 1 : Nat) : Int)) ∧ w'.cell? ⟨B9, 1, none⟩ = some (.int .i64 ((q1 + 1 : Nat) : Int)) ∧ w'.cell? ⟨B9, 2, none⟩ = some (.int .i64 (q2 : Nat)) ∧ w'.cell? ⟨B9, 3, none⟩ = some (.int .i64 (q3 : Nat))) (first | with_reducible exact HH.out | go_keep) (fail)
        clear HH
        rw [HQ.out] at S9
        clear e9 f0 f1 f2 d0 d1 d2 d3 df dl r0 r1 r2 r3 rl rf S8
        generalize World.drew _ = wT at *
        go_wp2_with fail
        go_roundg (gk - 1)
        case measure => have := I1.out; omega
        case rel => exact ⟨k + 1, by omega, by go_num, by have := I1.out; omega, S9.out.tail⟩
      · have hle2 : t < xb := by omega
        obtain ⟨e9, f0, f1, f2⟩ := HTR.out w6 S6.out.bel
        obtain ⟨d0, d1, d2, d3, df⟩ := (S6.out.bx 0 rfl).c4
        have dl := (S6.out.bx 0 rfl).2.2
        go_upto_region 19 with (fail)
        have S7 := Lib.hid (show Own w (w6.setCell ⟨B9, 0, none⟩ (.int .i64 ((q0 : Int) + 1))) [box B9 62 [.int .i64 ((q0 + 1 : Nat) : Int), .int .i64 (q1 : Nat), .int .i64 (q2 : Nat), .int .i64 (q3 : Nat)], row 62 4 (.slice (some ⟨B, 0, none⟩) 8 8) 8 (cellsR ths (l.take k))] from (S6.out.set 0 rfl 0 (.int .i64 ((q0 + 1 : Nat) : Int))).cast rfl)
        clear e9 f0 f1 f2 d0 d1 d2 d3 df dl S6
        generalize w6.setCell _ _ = w7 at *
        obtain ⟨e9, f0, f1, f2⟩ := HTR.out w7 S7.out.bel
        obtain ⟨d0, d1, d2, d3, df⟩ := (S7.out.bx 0 rfl).c4
        have dl := (S7.out.bx 0 rfl).2.2
        have r0 : w7.cell? ⟨B, g * 4, none⟩ = some (.int .i64 ((q0 : Nat) : Int)) := S7.out.rowAt (g := B) 1 rfl HC0.out
        have r1 := S7.out.rowAt (g := B) 1 rfl HC1.out
        have r2 := S7.out.rowAt (g := B) 1 rfl HC2.out
        have r3 := S7.out.rowAt (g := B) 1 rfl HC3.out
        obtain ⟨rl, rf⟩ := S7.out.rowLt (g := B) 1 rfl
        have S9 := Lib.hid (show Own w ((((w7.setCell ⟨B, g * 4, none⟩ (.int .i64 ((q0 : Int) + 1))).setCell ⟨B, g * 4 + 1, none⟩ (.int .i64 (q1 : Nat))).setCell ⟨B, g * 4 + 2, none⟩ (.int .i64 (q2 : Nat))).setCell ⟨B, g * 4 + 3, none⟩ (.int .i64 (q3 : Nat))).drew [box B9 62 [.int .i64 ((q0 + 1 : Nat) : Int), .int .i64 (q1 : Nat), .int .i64 (q2 : Nat), .int .i64 (q3 : Nat)], row 62 4 (.slice (some ⟨B, 0, none⟩) 8 8) 8 (setL4 (cellsR ths (l.take k)) (g * 4) (.int .i64 ((q0 : Int) + 1)) (.int .i64 (q1 : Nat)) (.int .i64 (q2 : Nat)) (.int .i64 (q3 : Nat)))] from ((((S7.out.setRow 1 rfl (g * 4) (.int .i64 ((q0 : Int) + 1))).setRow 1 rfl (g * 4 + 1) (.int .i64 (q1 : Nat))).setRow 1 rfl (g * 4 + 2) (.int .i64 (q2 : Nat))).setRow 1 rfl (g * 4 + 3) (.int .i64 (q3 : Nat))).ext (Below.refl _ _).drew)
        have HQ := Lib.hid (show setL4 (cellsR ths (l.take k)) (g * 4) (.int .i64 ((q0 : Int) + 1)) (.int .i64 (q1 : Nat)) (.int .i64 (q2 : Nat)) (.int .i64 (q3 : Nat)) = cellsR ths (l.take (k + 1)) by
          rw [← HP.out, HK0.out, HK1.out, HK2.out, HK3.out, HSEL.out.2.1 hle 0 (by omega), HSEL.out.2.1 hle 1 (by omega), HSEL.out.2.1 hle 2 (by omega), HSEL.out.2.1 hle 3 (by omega)]
          simp)
        have HH := Lib.hid (show ((((w7.setCell ⟨B, g * 4, none⟩ (.int .i64 ((q0 : Int) + 1))).setCell ⟨B, g * 4 + 1, none⟩ (.int .i64 (q1 : Nat))).setCell ⟨B, g * 4 + 2, none⟩ (.int .i64 (q2 : Nat))).setCell ⟨B, g * 4 + 3, none⟩ (.int .i64 (q3 : Nat))).drew.cell? ⟨bb, off + k * 3, none⟩ = some (.int .i64 (g : Nat)) ∧ ((((w7.setCell ⟨B, g * 4, none⟩ (.int .i64 ((q0 : Int) + 1))).setCell ⟨B, g * 4 + 1, none⟩ (.int .i64 (q1 : Nat))).setCell ⟨B, g * 4 + 2, none⟩ (.int .i64 (q2 : Nat))).setCell ⟨B, g * 4 + 3, none⟩ (.int .i64 (q3 : Nat))).drew.cell? ⟨B9, 0, none⟩ = some (.int .i64 ((q0 + 1 : Nat) : Int)) ∧ ((((w7.setCell ⟨B, g * 4, none⟩ (.int .i64 ((q0 : Int) + 1))).setCell ⟨B, g * 4 + 1, none⟩ (.int .i64 (q1 : Nat))).setCell ⟨B, g * 4 + 2, none⟩ (.int .i64 (q2 : Nat))).setCell ⟨B, g * 4 + 3, none⟩ (.int .i64 (q3 : Nat))).drew.cell? ⟨B9, 1, none⟩ = some (.int .i64 (q1 : Nat)) ∧ ((((w7.setCell ⟨B, g * 4, none⟩ (.int .i64 ((q0 : Int) + 1))).setCell ⟨B, g * 4 + 1, none⟩ (.int .i64 (q1 : Nat))).setCell ⟨B, g * 4 + 2, none⟩ (.int .i64 (q2 : Nat))).setCell ⟨B, g * 4 + 3, none⟩ (.int .i64 (q3 : Nat))).drew.cell? ⟨B9, 2, none⟩ = some (.int .i64 (q2 : Nat)) ∧ ((((w7.setCell ⟨B, g * 4, none⟩ (.int .i64 ((q0 : Int) + 1))).setCell ⟨B, g * 4 + 1, none⟩ (.int .i64 (q1 : Nat))).setCell ⟨B, g * 4 + 2, none⟩ (.int .i64 (q2 : Nat))).setCell ⟨B, g * 4 + 3, none⟩ (.int .i64 (q3 : Nat))).drew.cell? ⟨B9, 3, none⟩ = some (.int .i64 (q3 : Nat)) from ⟨(HTR.out _ S9.out.bel).2.1, (S9.out.bx 0 rfl).1 0 _ rfl, (S9.out.bx 0 rfl).1 1 _ rfl, (S9.out.bx 0 rfl).1 2 _ rfl, (S9.out.bx 0 rfl).1 3 _ rfl⟩)
        go_region_held3 (fun w' => w'.cell? ⟨bb, off + k * 3, none⟩ = some (.int .i64 (g : Nat)) ∧ w'.cell? ⟨B9, 0, none⟩ = some (.int .i64 ((q0 + 1 : Nat) : Int)) ∧ w'.cell? ⟨B9, 1, none⟩ = some (.int .i64 (q1 : Nat)) ∧ w'.cell? ⟨B9, 2, none⟩ = some (.int .i64 (q2 : Nat)) ∧ w'.cell? ⟨B9, 3, none⟩ = some (.int .i64 (q3 : Nat))) (first | with_reducible exact HH.out | go_keep) (fail)
        clear HH
        rw [HQ.out] at S9
        clear e9 f0 f1 f2 d0 d1 d2 d3 df dl r0 r1 r2 r3 rl rf S7
        generalize World.drew _ = wT at *
        go_wp2_with fail
        go_roundg (gk - 1)
        case measure => have := I1.out; omega
        case rel => exact ⟨k + 1, by omega, by go_num, by have := I1.out; omega, S9.out.tail⟩
    · by_cases hle : xb ≤ t
      · have hle2 : ¬ t < xb := by omega
        obtain ⟨e9, f0, f1, f2⟩ := HTR.out w6 S6.out.bel
        obtain ⟨d0, d1, d2, d3, df⟩ := (S6.out.bx 0 rfl).c4
        have dl := (S6.out.bx 0 rfl).2.2
        go_upto_region 19 with (fail)
        have S7 := Lib.hid (show Own w (w6.setCell ⟨B9, 2, none⟩ (.int .i64 ((q2 : Int) + 1))) [box B9 62 [.int .i64 (q0 : Nat), .int .i64 (q1 : Nat), .int .i64 ((q2 + 1 : Nat) : Int), .int .i64 (q3 : Nat)], row 62 4 (.slice (some ⟨B, 0, none⟩) 8 8) 8 (cellsR ths (l.take k))] from (S6.out.set 0 rfl 2 (.int .i64 ((q2 + 1 : Nat) : Int))).cast rfl)
        clear e9 f0 f1 f2 d0 d1 d2 d3 df dl S6
        generalize w6.setCell _ _ = w7 at *
        obtain ⟨e9, f0, f1, f2⟩ := HTR.out w7 S7.out.bel
        obtain ⟨d0, d1, d2, d3, df⟩ := (S7.out.bx 0 rfl).c4
        have dl := (S7.out.bx 0 rfl).2.2
        have r0 : w7.cell? ⟨B, g * 4, none⟩ = some (.int .i64 ((q0 : Nat) : Int)) := S7.out.rowAt (g := B) 1 rfl HC0.out
        have r1 := S7.out.rowAt (g := B) 1 rfl HC1.out
        have r2 := S7.out.rowAt (g := B) 1 rfl HC2.out
        have r3 := S7.out.rowAt (g := B) 1 rfl HC3.out
        obtain ⟨rl, rf⟩ := S7.out.rowLt (g := B) 1 rfl
        have S9 := Lib.hid (show Own w ((((w7.setCell ⟨B, g * 4, none⟩ (.int .i64 (q0 : Nat))).setCell ⟨B, g * 4 + 1, none⟩ (.int .i64 (q1 : Nat))).setCell ⟨B, g * 4 + 2, none⟩ (.int .i64 ((q2 : Int) + 1))).setCell ⟨B, g * 4 + 3, none⟩ (.int .i64 (q3 : Nat))).drew [box B9 62 [.int .i64 (q0 : Nat), .int .i64 (q1 : Nat), .int .i64 ((q2 + 1 : Nat) : Int), .int .i64 (q3 : Nat)], row 62 4 (.slice (some ⟨B, 0, none⟩) 8 8) 8 (setL4 (cellsR ths (l.take k)) (g * 4) (.int .i64 (q0 : Nat)) (.int .i64 (q1 : Nat)) (.int .i64 ((q2 : Int) + 1)) (.int .i64 (q3 : Nat)))] from ((((S7.out.setRow 1 rfl (g * 4) (.int .i64 (q0 : Nat))).setRow 1 rfl (g * 4 + 1) (.int .i64 (q1 : Nat))).setRow 1 rfl (g * 4 + 2) (.int .i64 ((q2 : Int) + 1))).setRow 1 rfl (g * 4 + 3) (.int .i64 (q3 : Nat))).ext (Below.refl _ _).drew)
        have HQ := Lib.hid (show setL4 (cellsR ths (l.take k)) (g * 4) (.int .i64 (q0 : Nat)) (.int .i64 (q1 : Nat)) (.int .i64 ((q2 : Int) + 1)) (.int .i64 (q3 : Nat)) = cellsR ths (l.take (k + 1)) by
          rw [← HP.out, HK0.out, HK1.out, HK2.out, HK3.out, HSEL.out.2.2.1 hle 0 (by omega), HSEL.out.2.2.1 hle 1 (by omega), HSEL.out.2.2.1 hle 2 (by omega), HSEL.out.2.2.1 hle 3 (by omega)]
          simp)
        have HH := Lib.hid (show ((((w7.setCell ⟨B, g * 4, none⟩ (.int .i64 (q0 : Nat))).setCell ⟨B, g * 4 + 1, none⟩ (.int .i64 (q1 : Nat))).setCell ⟨B, g * 4 + 2, none⟩ (.int .i64 ((q2 : Int) + 1))).setCell ⟨B, g * 4 + 3, none⟩ (.int .i64 (q3 : Nat))).drew.cell? ⟨bb, off + k * 3, none⟩ = some (.int .i64 (g : Nat)) ∧ ((((w7.setCell ⟨B, g * 4, none⟩ (.int .i64 (q0 : Nat))).setCell ⟨B, g * 4 + 1, none⟩ (.int .i64 (q1 : Nat))).setCell ⟨B, g * 4 + 2, none⟩ (.int .i64 ((q2 : Int) + 1))).setCell ⟨B, g * 4 + 3, none⟩ (.int .i64 (q3 : Nat))).drew.cell? ⟨B9, 0, none⟩ = some (.int .i64 (q0 : Nat)) ∧ ((((w7.setCell ⟨B, g * 4, none⟩ (.int .i64 (q0 : Nat))).setCell ⟨B, g * 4 + 1, none⟩ (.int .i64 (q1 : Nat))).setCell ⟨B, g * 4 + 2, none⟩ (.int .i64 ((q2 : Int) + 1))).setCell ⟨B, g * 4 + 3, none⟩ (.int .i64 (q3 : Nat))).drew.cell? ⟨B9, 1, none⟩ = some (.int .i64 (q1 : Nat)) ∧ ((((w7.setCell ⟨B, g * 4, none⟩ (.int .i64 (q0 : Nat))).setCell ⟨B, g * 4 + 1, none⟩ (.int .i64 (q1 : Nat))).setCell ⟨B, g * 4 + 2, none⟩ (.int .i64 ((q2 : Int) + 1))).setCell ⟨B, g * 4 + 3, none⟩ (.int .i64 (q3 : Nat))).drew.cell? ⟨B9, 2, none⟩ = some (.int .i64 ((q2 + 1 : Nat) : Int)) ∧ ((((w7.setCell ⟨B, g * 4, none⟩ (.int .i64 (q0 : Nat))).setCell ⟨B, g * 4 + 1, none⟩ (.int .i64 (q1 : Nat))).setCell ⟨B, g * 4 + 2, none⟩ (.int .i64 ((q2 : Int) + 1))).setCell ⟨B, g * 4 + 3, none⟩ (.int .i64 (q3 : Nat))).drew.cell? ⟨B9, 3, none⟩ = some (.int .i64 (q3 : Nat)) from ⟨(HTR.out _ S9.out.bel).2.1, (S9.out.bx 0 rfl).1 0 _ rfl, (S9.out.bx 0 rfl).1 1 _ rfl, (S9.out.bx 0 rfl).1 2 _ rfl, (S9.out.bx 0 rfl).1 3 _ rfl⟩)
        go_region_held3 (fun w' => w'.cell? ⟨bb, off + k * 3, none⟩ = some (.int .i64 (g : Nat)) ∧ w'.cell? ⟨B9, 0, none⟩ = some (.int .i64 (q0 : Nat)) ∧ w'.cell? ⟨B9, 1, none⟩ = some (.int .i64 (q1 : Nat)) ∧ w'.cell? ⟨B9, 2, none⟩ = some (.int .i64 ((q2 + 1 : Nat) : Int)) ∧ w'.cell? ⟨B9, 3, none⟩ = some (.int .i64 (q3 : Nat))) (first | with_reducible exact HH.out | go_keep) (fail)
        clear HH
        rw [HQ.out] at S9
        clear e9 f0 f1 f2 d0 d1 d2 d3 df dl r0 r1 r2 r3 rl rf S7
        generalize World.drew _ = wT at *
        go_wp2_with fail
        go_roundg (gk - 1)
        case measure => have := I1.out; omega
        case rel => exact ⟨k + 1, by omega, by go_num, by have := I1.out; omega, S9.out.tail⟩
      · have hle2 : t < xb := by omega
        obtain ⟨e9, f0, f1, f2⟩ := HTR.out w6 S6.out.bel
        obtain ⟨d0, d1, d2, d3, df⟩ := (S6.out.bx 0 rfl).c4
        have dl := (S6.out.bx 0 rfl).2.2
        go_upto_region 14 with (fail)
        have S7 := Lib.hid (show Own w (w6.setCell ⟨B9, 2, none⟩ (.int .i64 ((q2 : Int) + 1))) [box B9 62 [.int .i64 (q0 : Nat), .int .i64 (q1 : Nat), .int .i64 ((q2 + 1 : Nat) : Int), .int .i64 (q3 : Nat)], row 62 4 (.slice (some ⟨B, 0, none⟩) 8 8) 8 (cellsR ths (l.take k))] from (S6.out.set 0 rfl 2 (.int .i64 ((q2 + 1 : Nat) : Int))).cast rfl)
        clear e9 f0 f1 f2 d0 d1 d2 d3 df dl S6
        generalize w6.setCell _ _ = w7 at *
        obtain ⟨e9, f0, f1, f2⟩ := HTR.out w7 S7.out.bel
        obtain ⟨d0, d1, d2, d3, df⟩ := (S7.out.bx 0 rfl).c4
        have dl := (S7.out.bx 0 rfl).2.2
        go_upto_region 19 with (fail)
        have S8 := Lib.hid (show Own w (w7.setCell ⟨B9, 3, none⟩ (.int .i64 ((q3 : Int) + 1))) [box B9 62 [.int .i64 (q0 : Nat), .int .i64 (q1 : Nat), .int .i64 ((q2 + 1 : Nat) : Int), .int .i64 ((q3 + 1 : Nat) : Int)], row 62 4 (.slice (some ⟨B, 0, none⟩) 8 8) 8 (cellsR ths (l.take k))] from (S7.out.set 0 rfl 3 (.int .i64 ((q3 + 1 : Nat) : Int))).cast rfl)
        clear e9 f0 f1 f2 d0 d1 d2 d3 df dl S7
        generalize w7.setCell _ _ = w8 at *
        obtain ⟨e9, f0, f1, f2⟩ := HTR.out w8 S8.out.bel
        obtain ⟨d0, d1, d2, d3, df⟩ := (S8.out.bx 0 rfl).c4
        have dl := (S8.out.bx 0 rfl).2.2
        have r0 : w8.cell? ⟨B, g * 4, none⟩ = some (.int .i64 ((q0 : Nat) : Int)) := S8.out.rowAt (g := B) 1 rfl HC0.out
        have r1 := S8.out.rowAt (g := B) 1 rfl HC1.out
        have r2 := S8.out.rowAt (g := B) 1 rfl HC2.out
        have r3 := S8.out.rowAt (g := B) 1 rfl HC3.out
        obtain ⟨rl, rf⟩ := S8.out.rowLt (g := B) 1 rfl
        have S9 := Lib.hid (show Own w ((((w8.setCell ⟨B, g * 4, none⟩ (.int .i64 (q0 : Nat))).setCell ⟨B, g * 4 + 1, none⟩ (.int .i64 (q1 : Nat))).setCell ⟨B, g * 4 + 2, none⟩ (.int .i64 ((q2 : Int) + 1))).setCell ⟨B, g * 4 + 3, none⟩ (.int .i64 ((q3 : Int) + 1))).drew [box B9 62 [.int .i64 (q0 : Nat), .int .i64 (q1 : Nat), .int .i64 ((q2 + 1 : Nat) : Int), .int .i64 ((q3 + 1 : Nat) : Int)], row 62 4 (.slice (some ⟨B, 0, none⟩) 8 8) 8 (setL4 (cellsR ths (l.take k)) (g * 4) (.int .i64 (q0 : Nat)) (.int .i64 (q1 : Nat)) (.int .i64 ((q2 : Int) + 1)) (.int .i64 ((q3 : Int) + 1)))] from ((((S8.out.setRow 1 rfl (g * 4) (.int .i64 (q0 : Nat))).setRow 1 rfl (g * 4 + 1) (.int .i64 (q1 : Nat))).setRow 1 rfl (g * 4 + 2) (.int .i64 ((q2 : Int) + 1))).setRow 1 rfl (g * 4 + 3) (.int .i64 ((q3 : Int) + 1))).ext (Below.refl _ _).drew)
        have HQ := Lib.hid (show setL4 (cellsR ths (l.take k)) (g * 4) (.int .i64 (q0 : Nat)) (.int .i64 (q1 : Nat)) (.int .i64 ((q2 : Int) + 1)) (.int .i64 ((q3 : Int) + 1)) = cellsR ths (l.take (k + 1)) by
          rw [← HP.out, HK0.out, HK1.out, HK2.out, HK3.out, HSEL.out.2.2.2 hle 0 (by omega), HSEL.out.2.2.2 hle 1 (by omega), HSEL.out.2.2.2 hle 2 (by omega), HSEL.out.2.2.2 hle 3 (by omega)]
          simp)
        have HH := Lib.hid (show ((((w8.setCell ⟨B, g * 4, none⟩ (.int .i64 (q0 : Nat))).setCell ⟨B, g * 4 + 1, none⟩ (.int .i64 (q1 : Nat))).setCell ⟨B, g * 4 + 2, none⟩ (.int .i64 ((q2 : Int) + 1))).setCell ⟨B, g * 4 + 3, none⟩ (.int .i64 ((q3 : Int) + 1))).drew.cell? ⟨bb, off + k * 3, none⟩ = some (.int .i64 (g : Nat)) ∧ ((((w8.setCell ⟨B, g * 4, none⟩ (.int .i64 (q0 : Nat))).setCell ⟨B, g * 4 + 1, none⟩ (.int .i64 (q1 : Nat))).setCell ⟨B, g * 4 + 2, none⟩ (.int .i64 ((q2 : Int) + 1))).setCell ⟨B, g * 4 + 3, none⟩ (.int .i64 ((q3 : Int) + 1))).drew.cell? ⟨B9, 0, none⟩ = some (.int .i64 (q0 : Nat)) ∧ ((((w8.setCell ⟨B, g * 4, none⟩ (.int .i64 (q0 : Nat))).setCell ⟨B, g * 4 + 1, none⟩ (.int .i64 (q1 : Nat))).setCell ⟨B, g * 4 + 2, none⟩ (.int .i64 ((q2 : Int) + 1))).setCell ⟨B, g * 4 + 3, none⟩ (.int .i64 ((q3 : Int) + 1))).drew.cell? ⟨B9, 1, none⟩ = some (.int .i64 (q1 : Nat)) ∧ ((((w8.setCell ⟨B, g * 4, none⟩ (.int .i64 (q0 : Nat))).setCell ⟨B, g * 4 + 1, none⟩ (.int .i64 (q1 : Nat))).setCell ⟨B, g * 4 + 2, none⟩ (.int .i64 ((q2 : Int) + 1))).setCell ⟨B, g * 4 + 3, none⟩ (.int .i64 ((q3 : Int) + 1))).drew.cell? ⟨B9, 2, none⟩ = some (.int .i64 ((q2 + 1 : Nat) : Int)) ∧ ((((w8.setCell ⟨B, g * 4, none⟩ (.int .i64 (q0 : Nat))).setCell ⟨B, g * 4 + 1, none⟩ (.int .i64 (q1 : Nat))).setCell ⟨B, g * 4 + 2, none⟩ (.int .i64 ((q2 : Int) + 1))).setCell ⟨B, g * 4 + 3, none⟩ (.int .i64 ((q3 : Int) + 1))).drew.cell? ⟨B9, 3, none⟩ = some (.int .i64 ((q3 + 1 : Nat) : Int)) from ⟨(HTR.out _ S9.out.bel).2.1, (S9.out.bx 0 rfl).1 0 _ rfl, (S9.out.bx 0 rfl).1 1 _ rfl, (S9.out.bx 0 rfl).1 2 _ rfl, (S9.out.bx 0 rfl).1 3 _ rfl⟩)
        go_region_held3 (fun w' => w'.cell? ⟨bb, off + k * 3, none⟩ = some (.int .i64 (g : Nat)) ∧ w'.cell? ⟨B9, 0, none⟩ = some (.int .i64 (q0 : Nat)) ∧ w'.cell? ⟨B9, 1, none⟩ = some (.int .i64 (q1 : Nat)) ∧ w'.cell? ⟨B9, 2, none⟩ = some (.int .i64 ((q2 + 1 : Nat) : Int)) ∧ w'.cell? ⟨B9, 3, none⟩ = some (.int .i64 ((q3 + 1 : Nat) : Int))) (first | with_reducible exact HH.out | go_keep) (fail)
        clear HH
        rw [HQ.out] at S9
        clear e9 f0 f1 f2 d0 d1 d2 d3 df dl r0 r1 r2 r3 rl rf S8
        generalize World.drew _ = wT at *
        go_wp2_with fail
        go_roundg (gk - 1)
        case measure => have := I1.out; omega
        case rel => exact ⟨k + 1, by omega, by go_num, by have := I1.out; omega, S9.out.tail⟩
end Go.Proofs.Ytnalbchggjepdaa
