/- Rates: what thresholds do with trials: the program. No condition. -/
import Derived.Test.YtnalbchggjepdaaGc
import Derived.Deep.OwnRows
namespace Go.Proofs.Ytnalbchggjepdaa
open Go.RowKit Go.Shelf
attribute [local go_sem] Oper.semAt_some

/-- Whether a trial counts in a field of a group's rate. -/
def selB (ths : List Int) (g j : Nat) (x : Dbl) : Bool := decide (x.a = (g : Int)) &&
  (if j = 0 then !x.same else if j = 1 then !x.same && decide (x.b ≤ ths.getD g 0) else if j = 2 then x.same else x.same && !decide (x.b ≤ ths.getD g 0))
def cntR (ths : List Int) (g j : Nat) (l : List Dbl) : Nat := l.countP (selB ths g j)
def cellsR (ths : List Int) (l : List Dbl) : List Value := (List.range 32).map fun i => Value.int .i64 ((cntR ths (i / 4) (i % 4) l : Nat) : Int)
theorem cellsR_len (ths : List Int) (l : List Dbl) : (cellsR ths l).length = 32 := by simp [cellsR]
theorem cellsR_at (ths : List Int) (l : List Dbl) {g j : Nat} (hg : g < 8) (hj : j < 4) : (cellsR ths l)[g * 4 + j]? = some (.int .i64 ((cntR ths g j l : Nat) : Int)) := by
  have h1 : (g * 4 + j) / 4 = g := by omega
  have h2 : (g * 4 + j) % 4 = j := by omega
  have h3 : g * 4 + j < 32 := by omega
  simp [cellsR, h1, h2, h3]
theorem cntR_take (ths : List Int) (g j : Nat) {l : List Dbl} {k : Nat} (hk : k < l.length) : cntR ths g j (l.take (k + 1)) = cntR ths g j (l.take k) + if selB ths g j l[k] = true then 1 else 0 := by
  unfold cntR
  rw [List.take_succ_eq_append_getElem hk, List.countP_append, List.countP_singleton]
theorem cntR_le (ths : List Int) (g j : Nat) (l : List Dbl) : cntR ths g j l ≤ l.length := List.countP_le_length
theorem cellsR_step {ths : List Int} {l : List Dbl} {k : Nat} (hk : k < l.length) {cs : List Value} (hc : cs.length = 32) (h : ∀ g j, g < 8 → j < 4 → cs[g * 4 + j]? = some (.int .i64 ((cntR ths g j (l.take k) + (if selB ths g j l[k] = true then 1 else 0) : Nat) : Int))) : cs = cellsR ths (l.take (k + 1)) := by
  apply List.ext_getElem?
  intro i
  by_cases hi : i < 32
  · have e : i = i / 4 * 4 + i % 4 := by omega
    rw [e, h _ _ (by omega) (by omega), cellsR_at _ _ (by omega) (by omega), cntR_take ths _ _ hk]
  · rw [List.getElem?_eq_none (by omega), List.getElem?_eq_none (by rw [cellsR_len]; omega)]
theorem cellsR_put1 {ths : List Int} {l : List Dbl} {k : Nat} (hk : k < l.length) {g j : Nat} (hg : g < 8) (hj : j < 4) (h : ∀ g' j', g' < 8 → j' < 4 → selB ths g' j' l[k] = decide (g' = g ∧ j' = j)) :
    (cellsR ths (l.take k)).set (g * 4 + j) (.int .i64 ((cntR ths g j (l.take k) + 1 : Nat) : Int)) = cellsR ths (l.take (k + 1)) := by
  apply cellsR_step hk (by rw [List.length_set, cellsR_len])
  intro g' j' hg' hj'
  rw [h g' j' hg' hj', List.getElem?_set, cellsR_len]
  by_cases e : g' = g ∧ j' = j
  · obtain ⟨rfl, rfl⟩ := e
    rw [if_pos rfl, if_pos (by omega)]
    simp
  · rw [if_neg (by omega), cellsR_at _ _ hg' hj']
    simp [e]
theorem cellsR_put2 {ths : List Int} {l : List Dbl} {k : Nat} (hk : k < l.length) {g j j2 : Nat} (hg : g < 8) (hj : j < 4) (hj2 : j2 < 4) (hne : j ≠ j2) (h : ∀ g' j', g' < 8 → j' < 4 → selB ths g' j' l[k] = decide (g' = g ∧ (j' = j ∨ j' = j2))) :
    ((cellsR ths (l.take k)).set (g * 4 + j) (.int .i64 ((cntR ths g j (l.take k) + 1 : Nat) : Int))).set (g * 4 + j2) (.int .i64 ((cntR ths g j2 (l.take k) + 1 : Nat) : Int)) = cellsR ths (l.take (k + 1)) := by
  apply cellsR_step hk (by rw [List.length_set, List.length_set, cellsR_len])
  intro g' j' hg' hj'
  rw [h g' j' hg' hj', List.getElem?_set, List.length_set, cellsR_len]
  by_cases e : g' = g ∧ j' = j2
  · obtain ⟨rfl, rfl⟩ := e
    rw [if_pos rfl, if_pos (by omega)]
    simp
  · rw [if_neg (by omega), List.getElem?_set, cellsR_len]
    by_cases e2 : g' = g ∧ j' = j
    · obtain ⟨rfl, rfl⟩ := e2
      rw [if_pos rfl, if_pos (by omega)]
      simp
    · rw [if_neg (by omega), cellsR_at _ _ hg' hj']
      have : ¬ (g' = g ∧ (j' = j ∨ j' = j2)) := by omega
      simp [this]
theorem selB_ft {ths : List Int} {g : Nat} {xb : Int} (h : xb ≤ ths.getD g 0) (g' j' : Nat) (hj' : j' < 4) : selB ths g' j' ⟨g, xb, false⟩ = decide (g' = g ∧ (j' = 0 ∨ j' = 1)) := by
  by_cases e : g' = g
  · subst e
    rcases (show j' = 0 ∨ j' = 1 ∨ j' = 2 ∨ j' = 3 by omega) with rfl | rfl | rfl | rfl <;> simp [selB] <;> simpa using h
  · have : ¬ (g : Int) = (g' : Int) := by omega
    simp [selB, e, this]
theorem selB_ff {ths : List Int} {g : Nat} {xb : Int} (h : ¬ xb ≤ ths.getD g 0) (g' j' : Nat) (hj' : j' < 4) : selB ths g' j' ⟨g, xb, false⟩ = decide (g' = g ∧ j' = 0) := by
  by_cases e : g' = g
  · subst e
    rcases (show j' = 0 ∨ j' = 1 ∨ j' = 2 ∨ j' = 3 by omega) with rfl | rfl | rfl | rfl <;> simp [selB] <;> simpa using h
  · have : ¬ (g : Int) = (g' : Int) := by omega
    simp [selB, e, this]
theorem selB_tt {ths : List Int} {g : Nat} {xb : Int} (h : xb ≤ ths.getD g 0) (g' j' : Nat) (hj' : j' < 4) : selB ths g' j' ⟨g, xb, true⟩ = decide (g' = g ∧ j' = 2) := by
  by_cases e : g' = g
  · subst e
    rcases (show j' = 0 ∨ j' = 1 ∨ j' = 2 ∨ j' = 3 by omega) with rfl | rfl | rfl | rfl <;> simp [selB] <;> simpa using h
  · have : ¬ (g : Int) = (g' : Int) := by omega
    simp [selB, e, this]
theorem selB_tf {ths : List Int} {g : Nat} {xb : Int} (h : ¬ xb ≤ ths.getD g 0) (g' j' : Nat) (hj' : j' < 4) : selB ths g' j' ⟨g, xb, true⟩ = decide (g' = g ∧ (j' = 2 ∨ j' = 3)) := by
  by_cases e : g' = g
  · subst e
    rcases (show j' = 0 ∨ j' = 1 ∨ j' = 2 ∨ j' = 3 by omega) with rfl | rfl | rfl | rfl <;> simp [selB] <;> simpa using h
  · have : ¬ (g : Int) = (g' : Int) := by omega
    simp [selB, e, this]
theorem cellsR_zero (ths : List Int) : cellsR ths [] = (madeCells #[.int .i64 0, .int .i64 0, .int .i64 0, .int .i64 0] 32).toList := by
  have : cellsR ths [] = (List.range 32).map fun _ => Value.int .i64 0 := by simp [cellsR, cntR]
  exact this.trans (by first | kernel_rfl | rfl | simp [madeCells])
/-- The number of the error of trials and thresholds, or 0. -/
def errF (l : List Dbl) (ths : List Int) : Int := if trlE l = 0 then if ths.length = 8 ∧ frB (-1) 1000 ths = true then 0 else 2 else trlE l
def errC (l : List Dbl) (ths : List Int) : List Value := if errF l ths = 0 then cellsR ths l else []
def errN (l : List Dbl) (ths : List Int) : Nat := if errF l ths = 0 then 8 else 0
theorem errF_ok {l : List Dbl} {ths : List Int} (h : errF l ths = 0) : trlE l = 0 ∧ ths.length = 8 ∧ frB (-1) 1000 ths = true := by
  unfold errF at h
  split at h
  · split at h
    · rename_i h1 h2; exact ⟨h1, h2.1, h2.2⟩
    · cases h
  · contradiction
theorem trl_group {l : List Dbl} (h : okT l = true) {k : Nat} (hk : k < l.length) : (0 ≤ l[k].a ∧ l[k].a ≤ 7) ∧ 0 ≤ l[k].b ∧ l[k].b ≤ 1000 := by
  have := List.all_eq_true.1 h l[k] (List.getElem_mem hk)
  simp only [trB, inB, Bool.and_eq_true, decide_eq_true_eq] at this
  omega
set_option maxRecDepth 100000 in
set_option maxHeartbeats 8000000 in
theorem errors_any (A A2 : Option Addr) (l : List Dbl) (ths : List Int) (n c n2 c2 : Nat) (w : World) (hr : Rd w A (flat encD l)) (hn : n = l.length) (hl : n ≤ 1000000) (hr2 : Rd w A2 (ints ths)) (hn2 : n2 = ths.length) (hl2 : n2 ≤ 1000000) :
    Calls Try.prog 36 #[.slice A n c, .slice A2 n2 c2] w fun e w' => ∃ A' c', e = .returned (.tuple #[.slice A' (errN l ths) c', .int .i64 (errF l ths)]) ∧ Own w w' [row 62 4 (.slice A' (errN l ths) c') (errN l ths) (errC l ths)] := by
  have HN := Lib.hid hn
  have HR := Lib.hid hr
  have HN2 := Lib.hid hn2
  have HR2 := Lib.hid hr2
  have K1 := Lib.hid (checkTrials_any A l n c w hr hn hl)
  have hmk : ∀ v : World, (Instr.makeSlice 54 (.int .i64 8) (.int .i64 8)).run Try.prog v = .ok (.slice (some ⟨v.heap.size, 0, none⟩) 8 8) (v.alloc (.cells (madeCells #[.int .i64 0, .int .i64 0, .int .i64 0, .int .i64 0] 32) 62)) := by
    intro v
    obtain ⟨i, hi, hz⟩ := Option.map_eq_some_iff.1 (show (Try.prog.info? 62).map (fun i => (i.zero, i.size, i.bytes)) = some (some (.agg #[.int .i64 0, .int .i64 0, .int .i64 0, .int .i64 0]), 4, 32) by kernel_rfl)
    simp only [Prod.mk.injEq] at hz
    obtain ⟨hz, hs, hb⟩ := hz
    have hr := run_make (P := Try.prog) v 54 62 i _ Try.underlying54 hi hz .i64 .i64 8 8 (by omega) (by omega) (by rw [hb]; omega) (by omega)
    rw [hs] at hr
    exact hr
  by_cases h0 : trlE l = 0
  case neg =>
    have HE := Lib.hid (show errF l ths = trlE l by unfold errF; rw [if_neg h0])
    have HC := Lib.hid (show errC l ths = [] ∧ errN l ths = 0 by unfold errC errN; rw [HE.out, if_neg h0, if_neg h0]; exact ⟨rfl, rfl⟩)
    rw [HE.out, HC.out.1, HC.out.2]
    generalize trlE l = v at *
    have h0' : (v == 0) = false := by simpa using h0
    clear hr hn hr2 hn2 h0 hmk
    go_enter Try.func36, Try.ntmps36
    go_wp2_with fail
    refine K1.out.mono ?_
    rintro e w1 ⟨rfl, hb1⟩
    have S1 := Lib.hid (((Own.start w).ext hb1).nil 62 4)
    clear hb1
    go_wp2_with fail
    go_ret2
    exact ⟨none, 0, rfl, S1.out⟩
  rw [h0] at K1
  obtain ⟨b1, b2, b3⟩ := trlE_ok h0
  by_cases h8 : n2 = 8
  case neg =>
    have HE := Lib.hid (show errF l ths = 2 by unfold errF; rw [if_pos h0, if_neg (by omega)])
    have HC := Lib.hid (show errC l ths = [] ∧ errN l ths = 0 by unfold errC errN; rw [HE.out]; exact ⟨rfl, rfl⟩)
    rw [HE.out, HC.out.1, HC.out.2]
    have h8' : ¬ (n2 : Int) = 8 := by omega
    have h8'' : ((n2 : Int) != 8) = true := by simpa using h8'
    clear hr hn hr2 hn2 h0 hmk b1 b2 b3 h8
    go_enter Try.func36, Try.ntmps36
    go_wp2_with fail
    refine K1.out.mono ?_
    rintro e w1 ⟨rfl, hb1⟩
    have S1 := Lib.hid (((Own.start w).ext hb1).nil 62 4)
    clear hb1
    go_wp2_with fail
    go_ret2
    exact ⟨none, 0, rfl, S1.out⟩
  subst h8
  have KF := Lib.hid (fun W (h : Below w.heap.size w W) => from_any (-1) 1000 A2 ths 8 c2 W (hr2.below h) hn2 (by omega))
  cases h9 : frB (-1) 1000 ths
  · have HE := Lib.hid (show errF l ths = 2 by unfold errF; rw [if_pos h0, if_neg (by rw [h9]; simp)])
    have HC := Lib.hid (show errC l ths = [] ∧ errN l ths = 0 by unfold errC errN; rw [HE.out]; exact ⟨rfl, rfl⟩)
    rw [HE.out, HC.out.1, HC.out.2]
    rw [h9] at KF
    clear hr hn hr2 hn2 h0 hmk b1 b2 b3 h9
    go_enter Try.func36, Try.ntmps36
    go_wp2_with fail
    refine K1.out.mono ?_
    rintro e w1 ⟨rfl, hb1⟩
    have S1 := Lib.hid ((Own.start w).ext hb1)
    clear hb1 K1
    go_wp2_with fail
    refine (KF.out _ S1.out.bel).mono ?_
    rintro e w2 ⟨rfl, hb2⟩
    have S2 := Lib.hid ((S1.out.ext hb2).nil 62 4)
    clear hb2 S1
    go_wp2_with fail
    go_ret2
    exact ⟨none, 0, rfl, S2.out⟩
  have HE := Lib.hid (show errF l ths = 0 by unfold errF; rw [if_pos h0, if_pos ⟨hn2.symm, h9⟩])
  have HC := Lib.hid (show errC l ths = cellsR ths l ∧ errN l ths = 8 by unfold errC errN; rw [HE.out]; exact ⟨rfl, rfl⟩)
  rw [HE.out, HC.out.1, HC.out.2]
  rw [h9] at KF
  have HOK := Lib.hid b2
  have hn200 : n ≤ 200 := by omega
  clear hr hn hr2 hn2 h0 b1 b2 b3 h9 HE HC
  go_enter Try.func36, Try.ntmps36
  go_wp2_with fail
  refine K1.out.mono ?_
  rintro e w1 ⟨rfl, hb1⟩
  have S1 := Lib.hid ((Own.start w).ext hb1)
  clear hb1 K1
  go_wp2_with fail
  refine (KF.out _ S1.out.bel).mono ?_
  rintro e w2 ⟨rfl, hb2⟩
  obtain ⟨B, hB⟩ : ∃ B, B = w2.heap.size := ⟨_, rfl⟩
  have S2 := Lib.hid ((((S1.out.ext hb2).new' 62 (madeCells #[.int .i64 0, .int .i64 0, .int .i64 0, .int .i64 0] 32) hB).asRow (size := 4) (n := 8) 0 rfl (by rw [← cellsR_zero ths, cellsR_len]) (by unfold maxLen; omega)).cast (qs := [row 62 4 (.slice (some ⟨B, 0, none⟩) 8 8) 8 (cellsR ths [])]) (by rw [cellsR_zero]; rfl))
  clear hb2 S1 KF
  go_wp2_with fail
  rw [← hB]
  clear hB hmk
  generalize w2.alloc _ = w3 at *
  go_loopg [30] n (fun q u30 wr => ∃ k : Nat, k ≤ n ∧ u30 = .int .i64 (k : Nat) ∧ Hid (k + q = n ∧ Own w wr [row 62 4 (.slice (some ⟨B, 0, none⟩) 8 8) 8 (cellsR ths (l.take k))]))
  case atStart => exact ⟨0, by omega, rfl, by omega, S2.out⟩
  case round =>
    obtain ⟨k, hk, rfl, hI⟩ := hrel
    have I1 := Lib.hid hI.out.1
    have I2 := Lib.hid hI.out.2
    clear hI S2
    by_cases hlt : k < n
    case neg => as_aux_lemma =>
      obtain rfl : n = k := by omega
      have hni : ¬ (n : Int) < (n : Int) := by omega
      have HT := Lib.hid (show l.take n = l by rw [List.take_of_length_le (by rw [← HN.out]; exact Nat.le_refl _)])
      rw [HT.out] at I2
      go_wp2_with fail
      go_ret2
      exact ⟨some ⟨B, 0, none⟩, 8, rfl, I2.out⟩
    have hil : k < l.length := by rw [← HN.out]; exact hlt
    have hix : (k : Int) < (n : Int) := by omega
    have z0 : IntKind.i64.wrap ((k : Int) + 1) = ((k + 1 : Nat) : Int) := by rw [show (k : Int) + 1 = ((k + 1 : Nat) : Int) by omega]; exact IntWalk.i64_in _ (by omega)
    obtain ⟨bb, off, rfl, hbs, c0, c1, c2'⟩ := (HR.out.below I2.out.bel).dbl hil
    have hgr := trl_group HOK.out hil
    have HS1 := Lib.hid (fun g j (hg : g < 8) (hj : j < 4) h => cellsR_put1 (ths := ths) hil hg hj h)
    have HS2 := Lib.hid (fun g j j2 (hg : g < 8) (hj : j < 4) (hj2 : j2 < 4) (hne : j ≠ j2) h => cellsR_put2 (ths := ths) hil hg hj hj2 hne h)
    have HLE := Lib.hid (fun g j => (show cntR ths g j (l.take k) ≤ 1000000 by
      have := cntR_le ths g j (l.take k)
      rw [List.length_take] at this
      omega))
    generalize l[k] = x at *
    obtain ⟨xa, xb, xs⟩ := x
    simp only at c0 c1 c2' hgr HS1 HS2
    obtain ⟨g, rfl⟩ := Int.eq_ofNat_of_zero_le hgr.1.1
    have hg8 : g < 8 := by omega
    have hgl : g < ths.length := by rw [← HN2.out]; exact hg8
    obtain ⟨b2, off2, rfl, -, -⟩ := HR2.out.int hgl
    have HTC := Lib.hid (fun W (h : Below w.heap.size w W) => (show W.cell? ⟨b2, off2 + g, none⟩ = some (.int .i64 (ths.getD g 0)) ∧ b2 < W.heap.size by
      obtain ⟨b1, o1, e1, k1, k2⟩ := (HR2.out.below h).int hgl
      injection e1 with e1
      injection e1 with e1 e2
      subst e1 e2
      rw [List.getD_eq_getElem?_getD, List.getElem?_eq_getElem hgl]
      exact ⟨k1, k2⟩))
    generalize ht : ths.getD g 0 = t at *
    have HTT := Lib.hid ht
    have hgi : (g : Int) < 8 := by omega
    obtain ⟨q0, hq0⟩ : ∃ q, q = cntR ths g 0 (l.take k) := ⟨_, rfl⟩
    have HQ0 := Lib.hid hq0
    have hb0 : q0 ≤ 1000000 := by rw [hq0]; exact HLE.out g 0
    have HC0 := Lib.hid (show (cellsR ths (l.take k))[g * 4 + 0]? = some (.int .i64 ((q0 : Nat) : Int)) by rw [hq0]; exact cellsR_at ths (l.take k) hg8 (j := 0) (by omega))
    have zq0 : IntKind.i64.wrap ((q0 : Int) + 1) = ((q0 + 1 : Nat) : Int) := by rw [show (q0 : Int) + 1 = ((q0 + 1 : Nat) : Int) by omega]; exact IntWalk.i64_in _ (by omega)
    clear hq0
    obtain ⟨q1, hq1⟩ : ∃ q, q = cntR ths g 1 (l.take k) := ⟨_, rfl⟩
    have HQ1 := Lib.hid hq1
    have hb1 : q1 ≤ 1000000 := by rw [hq1]; exact HLE.out g 1
    have HC1 := Lib.hid (show (cellsR ths (l.take k))[g * 4 + 1]? = some (.int .i64 ((q1 : Nat) : Int)) by rw [hq1]; exact cellsR_at ths (l.take k) hg8 (j := 1) (by omega))
    have zq1 : IntKind.i64.wrap ((q1 : Int) + 1) = ((q1 + 1 : Nat) : Int) := by rw [show (q1 : Int) + 1 = ((q1 + 1 : Nat) : Int) by omega]; exact IntWalk.i64_in _ (by omega)
    clear hq1
    obtain ⟨q2, hq2⟩ : ∃ q, q = cntR ths g 2 (l.take k) := ⟨_, rfl⟩
    have HQ2 := Lib.hid hq2
    have hb2 : q2 ≤ 1000000 := by rw [hq2]; exact HLE.out g 2
    have HC2 := Lib.hid (show (cellsR ths (l.take k))[g * 4 + 2]? = some (.int .i64 ((q2 : Nat) : Int)) by rw [hq2]; exact cellsR_at ths (l.take k) hg8 (j := 2) (by omega))
    have zq2 : IntKind.i64.wrap ((q2 : Int) + 1) = ((q2 + 1 : Nat) : Int) := by rw [show (q2 : Int) + 1 = ((q2 + 1 : Nat) : Int) by omega]; exact IntWalk.i64_in _ (by omega)
    clear hq2
    obtain ⟨q3, hq3⟩ : ∃ q, q = cntR ths g 3 (l.take k) := ⟨_, rfl⟩
    have HQ3 := Lib.hid hq3
    have hb3 : q3 ≤ 1000000 := by rw [hq3]; exact HLE.out g 3
    have HC3 := Lib.hid (show (cellsR ths (l.take k))[g * 4 + 3]? = some (.int .i64 ((q3 : Nat) : Int)) by rw [hq3]; exact cellsR_at ths (l.take k) hg8 (j := 3) (by omega))
    have zq3 : IntKind.i64.wrap ((q3 : Int) + 1) = ((q3 + 1 : Nat) : Int) := by rw [show (q3 : Int) + 1 = ((q3 + 1 : Nat) : Int) by omega]; exact IntWalk.i64_in _ (by omega)
    clear hq3
    clear ht hgr hgl hil
    have I4 := Lib.hid (I2.out.new' 64 #[.int .i64 (g : Nat), .int .i64 xb, .bool xs] (B := wr.heap.size) rfl)
    go_upto_region 10 with (fail)
    clear c0 c1 c2' hbs I2
    obtain ⟨B5, hB5⟩ : ∃ B5, B5 = wr.heap.size := ⟨_, rfl⟩
    have S5 := Lib.hid (I4.out.cast (qs := [box wr.heap.size 64 [.int .i64 (g : Nat), .int .i64 xb, .bool xs], row 62 4 (.slice (some ⟨B, 0, none⟩) 8 8) 8 (cellsR ths (l.take k))]) rfl)
    rw [← hB5] at S5
    rw [← hB5]
    clear I4 hB5
    generalize wr.alloc _ = W5 at *
    have d0 := (S5.out.bx 0 rfl).1 0 _ rfl
    have dl := (S5.out.bx 0 rfl).2.2
    have dB := (S5.out.rowLt (g := B) 1 rfl).1
    go_upto_region 11 with (fail)
    clear d0 dl dB
    have fb0 := fun x : OwnOf w [box B5 64 [.int .i64 (g : Nat), .int .i64 xb, .bool xs], row 62 4 (.slice (some ⟨B, 0, none⟩) 8 8) 8 (cellsR ths (l.take k))] => (x.bx 0 rfl).1 0 _ rfl
    have fb1 := fun x : OwnOf w [box B5 64 [.int .i64 (g : Nat), .int .i64 xb, .bool xs], row 62 4 (.slice (some ⟨B, 0, none⟩) 8 8) 8 (cellsR ths (l.take k))] => (x.bx 0 rfl).1 1 _ rfl
    have ft0 := fun x : OwnOf w [box B5 64 [.int .i64 (g : Nat), .int .i64 xb, .bool xs], row 62 4 (.slice (some ⟨B, 0, none⟩) 8 8) 8 (cellsR ths (l.take k))] => (HTC.out x.wld x.own.bel).1
    have ft1 := fun x : OwnOf w [box B5 64 [.int .i64 (g : Nat), .int .i64 xb, .bool xs], row 62 4 (.slice (some ⟨B, 0, none⟩) 8 8) 8 (cellsR ths (l.take k))] => (HTC.out x.wld x.own.bel).2
    have hne : Nonempty (OwnOf w [box B5 64 [.int .i64 (g : Nat), .int .i64 xb, .bool xs], row 62 4 (.slice (some ⟨B, 0, none⟩) 8 8) 8 (cellsR ths (l.take k))]) := ⟨⟨_, S5.out⟩⟩
    cases xs
    · by_cases hle : xb ≤ t
      · as_aux_lemma =>
        have hle2 : ¬ t < xb := by omega
        go_wp2_with fail
        refine wp_region_own S5.out (by kernel_rfl) (by kernel_rfl) ?_
        iterate 8 (go_big_quiet_step (fail))
        refine wpQuiet_nil ?_
        rintro w6 ⟨z, hz⟩
        have S6 := Lib.hid (show Own w w6 [box B5 64 [.int .i64 (g : Nat), .int .i64 xb, .bool false], row 62 4 (.slice (some ⟨B, 0, none⟩) 8 8) 8 (cellsR ths (l.take k))] by rw [hz]; exact z.own)
        clear hz z S5
        go_wp2_with fail
        refine wp_region_own S6.out (by kernel_rfl) (by kernel_rfl) ?_
        iterate 9 (go_big_quiet_step (fail))
        refine wpQuiet_nil ?_
        rintro w7 ⟨z, hz⟩
        have S7 := Lib.hid (show Own w w7 [box B5 64 [.int .i64 (g : Nat), .int .i64 xb, .bool false], row 62 4 (.slice (some ⟨B, 0, none⟩) 8 8) 8 (cellsR ths (l.take k))] by rw [hz]; exact z.own)
        clear hz z S6
        have tb := (S7.out.bx 0 rfl).1 2 _ rfl
        have tl := (S7.out.bx 0 rfl).2.2
        go_upto_region 15 with (fail)
        clear tb tl
        have S8 := Lib.hid S7.out
        generalize w7 = w8 at *
        clear S7
        clear fb0 fb1 ft0 ft1 hne
        have u0 : w8.cell? ⟨B, g * 4, none⟩ = some (.int .i64 ((q0 : Nat) : Int)) := S8.out.rowAt (g := B) 1 rfl (HC0.out)
        obtain ⟨ul, uf⟩ := S8.out.rowLt (g := B) 1 rfl
        go_upto_region 16 with (fail)
        have S9 := Lib.hid (show Own w (w8.setCell ⟨B, g * 4, none⟩ (.int .i64 ((q0 : Int) + 1))) [box B5 64 [.int .i64 (g : Nat), .int .i64 xb, .bool false], row 62 4 (.slice (some ⟨B, 0, none⟩) 8 8) 8 ((cellsR ths (l.take k)).set (g * 4 + 0) (.int .i64 ((q0 + 1 : Nat) : Int)))] from (S8.out.setRow 1 rfl (g * 4 + 0) (.int .i64 ((q0 + 1 : Nat) : Int))).cast rfl)
        clear u0 ul uf S8
        generalize w8.setCell _ _ = w9 at *
        have u0 := S9.out.rowAt (g := B) 1 rfl (u := .int .i64 ((q1 : Nat) : Int)) (j := g * 4 + 1) (by rw [List.getElem?_set_ne (by omega)]; exact HC1.out)
        obtain ⟨ul, uf⟩ := S9.out.rowLt (g := B) 1 rfl
        go_upto_region 18 with (fail)
        have S10 := Lib.hid (show Own w (w9.setCell ⟨B, g * 4 + 1, none⟩ (.int .i64 ((q1 : Int) + 1))) [box B5 64 [.int .i64 (g : Nat), .int .i64 xb, .bool false], row 62 4 (.slice (some ⟨B, 0, none⟩) 8 8) 8 (((cellsR ths (l.take k)).set (g * 4 + 0) (.int .i64 ((q0 + 1 : Nat) : Int))).set (g * 4 + 1) (.int .i64 ((q1 + 1 : Nat) : Int)))] from (S9.out.setRow 1 rfl (g * 4 + 1) (.int .i64 ((q1 + 1 : Nat) : Int))).cast rfl)
        clear u0 ul uf S9
        generalize w9.setCell _ _ = w10 at *
        have HZ := Lib.hid (HS2.out g 0 1 hg8 (by omega) (by omega) (by omega) (fun g' j' _ h => selB_ft (by rw [HTT.out]; omega) g' j' h))
        rw [← HQ0.out, ← HQ1.out] at HZ
        rw [HZ.out] at S10
        go_wp2_with fail
        go_roundg (gk - 1)
        case measure => have := I1.out; omega
        case rel => exact ⟨k + 1, by omega, by go_num, by have := I1.out; omega, S10.out.tail⟩
      · as_aux_lemma =>
        have hle2 : t < xb := by omega
        go_wp2_with fail
        refine wp_region_own S5.out (by kernel_rfl) (by kernel_rfl) ?_
        iterate 8 (go_big_quiet_step (fail))
        refine wpQuiet_nil ?_
        rintro w6 ⟨z, hz⟩
        have S6 := Lib.hid (show Own w w6 [box B5 64 [.int .i64 (g : Nat), .int .i64 xb, .bool false], row 62 4 (.slice (some ⟨B, 0, none⟩) 8 8) 8 (cellsR ths (l.take k))] by rw [hz]; exact z.own)
        clear hz z S5
        go_wp2_with fail
        refine wp_region_own S6.out (by kernel_rfl) (by kernel_rfl) ?_
        iterate 9 (go_big_quiet_step (fail))
        refine wpQuiet_nil ?_
        rintro w7 ⟨z, hz⟩
        have S7 := Lib.hid (show Own w w7 [box B5 64 [.int .i64 (g : Nat), .int .i64 xb, .bool false], row 62 4 (.slice (some ⟨B, 0, none⟩) 8 8) 8 (cellsR ths (l.take k))] by rw [hz]; exact z.own)
        clear hz z S6
        have tb := (S7.out.bx 0 rfl).1 2 _ rfl
        have tl := (S7.out.bx 0 rfl).2.2
        go_upto_region 15 with (fail)
        clear tb tl
        have S8 := Lib.hid S7.out
        generalize w7 = w8 at *
        clear S7
        clear fb0 fb1 ft0 ft1 hne
        have u0 : w8.cell? ⟨B, g * 4, none⟩ = some (.int .i64 ((q0 : Nat) : Int)) := S8.out.rowAt (g := B) 1 rfl (HC0.out)
        obtain ⟨ul, uf⟩ := S8.out.rowLt (g := B) 1 rfl
        go_upto_region 18 with (fail)
        have S9 := Lib.hid (show Own w (w8.setCell ⟨B, g * 4, none⟩ (.int .i64 ((q0 : Int) + 1))) [box B5 64 [.int .i64 (g : Nat), .int .i64 xb, .bool false], row 62 4 (.slice (some ⟨B, 0, none⟩) 8 8) 8 ((cellsR ths (l.take k)).set (g * 4 + 0) (.int .i64 ((q0 + 1 : Nat) : Int)))] from (S8.out.setRow 1 rfl (g * 4 + 0) (.int .i64 ((q0 + 1 : Nat) : Int))).cast rfl)
        clear u0 ul uf S8
        generalize w8.setCell _ _ = w9 at *
        have HZ := Lib.hid (HS1.out g 0 hg8 (by omega) (fun g' j' _ h => selB_ff (by rw [HTT.out]; omega) g' j' h))
        rw [← HQ0.out] at HZ
        rw [HZ.out] at S9
        go_wp2_with fail
        go_roundg (gk - 1)
        case measure => have := I1.out; omega
        case rel => exact ⟨k + 1, by omega, by go_num, by have := I1.out; omega, S9.out.tail⟩
    · by_cases hle : xb ≤ t
      · as_aux_lemma =>
        have hle2 : ¬ t < xb := by omega
        go_wp2_with fail
        refine wp_region_own S5.out (by kernel_rfl) (by kernel_rfl) ?_
        iterate 8 (go_big_quiet_step (fail))
        refine wpQuiet_nil ?_
        rintro w6 ⟨z, hz⟩
        have S6 := Lib.hid (show Own w w6 [box B5 64 [.int .i64 (g : Nat), .int .i64 xb, .bool true], row 62 4 (.slice (some ⟨B, 0, none⟩) 8 8) 8 (cellsR ths (l.take k))] by rw [hz]; exact z.own)
        clear hz z S5
        go_wp2_with fail
        refine wp_region_own S6.out (by kernel_rfl) (by kernel_rfl) ?_
        iterate 9 (go_big_quiet_step (fail))
        refine wpQuiet_nil ?_
        rintro w7 ⟨z, hz⟩
        have S7 := Lib.hid (show Own w w7 [box B5 64 [.int .i64 (g : Nat), .int .i64 xb, .bool true], row 62 4 (.slice (some ⟨B, 0, none⟩) 8 8) 8 (cellsR ths (l.take k))] by rw [hz]; exact z.own)
        clear hz z S6
        have tb := (S7.out.bx 0 rfl).1 2 _ rfl
        have tl := (S7.out.bx 0 rfl).2.2
        go_upto_region 14 with (fail)
        clear tb tl
        refine wp_region_own S7.out (by kernel_rfl) (by kernel_rfl) ?_
        iterate 11 (go_big_quiet_step (fail))
        refine wpQuiet_nil ?_
        rintro w8 ⟨z, hz⟩
        have S8 := Lib.hid (show Own w w8 [box B5 64 [.int .i64 (g : Nat), .int .i64 xb, .bool true], row 62 4 (.slice (some ⟨B, 0, none⟩) 8 8) 8 (cellsR ths (l.take k))] by rw [hz]; exact z.own)
        clear hz z S7
        clear fb0 fb1 ft0 ft1 hne
        have u0 := S8.out.rowAt (g := B) 1 rfl (HC2.out)
        obtain ⟨ul, uf⟩ := S8.out.rowLt (g := B) 1 rfl
        go_upto_region 18 with (fail)
        have S9 := Lib.hid (show Own w (w8.setCell ⟨B, g * 4 + 2, none⟩ (.int .i64 ((q2 : Int) + 1))) [box B5 64 [.int .i64 (g : Nat), .int .i64 xb, .bool true], row 62 4 (.slice (some ⟨B, 0, none⟩) 8 8) 8 ((cellsR ths (l.take k)).set (g * 4 + 2) (.int .i64 ((q2 + 1 : Nat) : Int)))] from (S8.out.setRow 1 rfl (g * 4 + 2) (.int .i64 ((q2 + 1 : Nat) : Int))).cast rfl)
        clear u0 ul uf S8
        generalize w8.setCell _ _ = w9 at *
        have HZ := Lib.hid (HS1.out g 2 hg8 (by omega) (fun g' j' _ h => selB_tt (by rw [HTT.out]; omega) g' j' h))
        rw [← HQ2.out] at HZ
        rw [HZ.out] at S9
        go_wp2_with fail
        go_roundg (gk - 1)
        case measure => have := I1.out; omega
        case rel => exact ⟨k + 1, by omega, by go_num, by have := I1.out; omega, S9.out.tail⟩
      · as_aux_lemma =>
        have hle2 : t < xb := by omega
        go_wp2_with fail
        refine wp_region_own S5.out (by kernel_rfl) (by kernel_rfl) ?_
        iterate 8 (go_big_quiet_step (fail))
        refine wpQuiet_nil ?_
        rintro w6 ⟨z, hz⟩
        have S6 := Lib.hid (show Own w w6 [box B5 64 [.int .i64 (g : Nat), .int .i64 xb, .bool true], row 62 4 (.slice (some ⟨B, 0, none⟩) 8 8) 8 (cellsR ths (l.take k))] by rw [hz]; exact z.own)
        clear hz z S5
        go_wp2_with fail
        refine wp_region_own S6.out (by kernel_rfl) (by kernel_rfl) ?_
        iterate 9 (go_big_quiet_step (fail))
        refine wpQuiet_nil ?_
        rintro w7 ⟨z, hz⟩
        have S7 := Lib.hid (show Own w w7 [box B5 64 [.int .i64 (g : Nat), .int .i64 xb, .bool true], row 62 4 (.slice (some ⟨B, 0, none⟩) 8 8) 8 (cellsR ths (l.take k))] by rw [hz]; exact z.own)
        clear hz z S6
        have tb := (S7.out.bx 0 rfl).1 2 _ rfl
        have tl := (S7.out.bx 0 rfl).2.2
        go_upto_region 14 with (fail)
        clear tb tl
        refine wp_region_own S7.out (by kernel_rfl) (by kernel_rfl) ?_
        iterate 11 (go_big_quiet_step (fail))
        refine wpQuiet_nil ?_
        rintro w8 ⟨z, hz⟩
        have S8 := Lib.hid (show Own w w8 [box B5 64 [.int .i64 (g : Nat), .int .i64 xb, .bool true], row 62 4 (.slice (some ⟨B, 0, none⟩) 8 8) 8 (cellsR ths (l.take k))] by rw [hz]; exact z.own)
        clear hz z S7
        rw [show (!decide (xb ≤ t)) = true by simp; omega]
        clear fb0 fb1 ft0 ft1 hne
        have u0 := S8.out.rowAt (g := B) 1 rfl (HC2.out)
        obtain ⟨ul, uf⟩ := S8.out.rowLt (g := B) 1 rfl
        go_upto_region 16 with (fail)
        have S9 := Lib.hid (show Own w (w8.setCell ⟨B, g * 4 + 2, none⟩ (.int .i64 ((q2 : Int) + 1))) [box B5 64 [.int .i64 (g : Nat), .int .i64 xb, .bool true], row 62 4 (.slice (some ⟨B, 0, none⟩) 8 8) 8 ((cellsR ths (l.take k)).set (g * 4 + 2) (.int .i64 ((q2 + 1 : Nat) : Int)))] from (S8.out.setRow 1 rfl (g * 4 + 2) (.int .i64 ((q2 + 1 : Nat) : Int))).cast rfl)
        clear u0 ul uf S8
        generalize w8.setCell _ _ = w9 at *
        have u0 := S9.out.rowAt (g := B) 1 rfl (u := .int .i64 ((q3 : Nat) : Int)) (j := g * 4 + 3) (by rw [List.getElem?_set_ne (by omega)]; exact HC3.out)
        obtain ⟨ul, uf⟩ := S9.out.rowLt (g := B) 1 rfl
        go_upto_region 18 with (fail)
        have S10 := Lib.hid (show Own w (w9.setCell ⟨B, g * 4 + 3, none⟩ (.int .i64 ((q3 : Int) + 1))) [box B5 64 [.int .i64 (g : Nat), .int .i64 xb, .bool true], row 62 4 (.slice (some ⟨B, 0, none⟩) 8 8) 8 (((cellsR ths (l.take k)).set (g * 4 + 2) (.int .i64 ((q2 + 1 : Nat) : Int))).set (g * 4 + 3) (.int .i64 ((q3 + 1 : Nat) : Int)))] from (S9.out.setRow 1 rfl (g * 4 + 3) (.int .i64 ((q3 + 1 : Nat) : Int))).cast rfl)
        clear u0 ul uf S9
        generalize w9.setCell _ _ = w10 at *
        have HZ := Lib.hid (HS2.out g 2 3 hg8 (by omega) (by omega) (by omega) (fun g' j' _ h => selB_tf (by rw [HTT.out]; omega) g' j' h))
        rw [← HQ2.out, ← HQ3.out] at HZ
        rw [HZ.out] at S10
        go_wp2_with fail
        go_roundg (gk - 1)
        case measure => have := I1.out; omega
        case rel => exact ⟨k + 1, by omega, by go_num, by have := I1.out; omega, S10.out.tail⟩
end Go.Proofs.Ytnalbchggjepdaa
