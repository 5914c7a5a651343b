/- Words: a round of the sort, in variables. Plain Lean. No condition. -/
import Derived.Test.YtnienfgaidccpaaDoorRa
import Derived.Sort.AssemblyPlain
import Derived.Sort.Walk13a
namespace Go.Proofs.YtnienfgaidccpaaDoor
open Go.RowKit Go.Shelf

abbrev bel (x y : Nat) (d : Array Nat) : Prop := Sort.Below ltN x y d
abbrev tst (x p : Nat) (d : Array Nat) : Bool := decide (x > 0) && !ltN d[x - 1]! d[p]!
structure Rdv (d : Array Nat) (x y l : Nat) (wb wp : Bool) (D1 D2 D3 : Array Nat) (LM PV P0 : Nat) (H0 HT : Sort.Hint) (PB : Bool) : Prop where
  wt : wb = true → D1 = d ∧ LM = l
  wf : wb = false → D1 = Sort.breakPatterns d x y ∧ LM = l - 1
  s1 : D1.size = d.size
  ch : Sort.choosePivot ltN D1 x y = (P0, H0)
  p0 : x ≤ P0 ∧ P0 < y
  dec : H0 = .decreasing → D2 = Sort.reverseRange D1 x y ∧ PV = (y - 1) - (P0 - x) ∧ HT = .increasing
  ndec : H0 ≠ .decreasing → D2 = D1 ∧ PV = P0 ∧ HT = H0
  s2 : D2.size = d.size
  pv : x ≤ PV ∧ PV < y
  piy : (wb && wp && decide (HT = .increasing)) = true → Sort.partialInsertionSort ltN D2 x y = (D3, PB)
  pin : (wb && wp && decide (HT = .increasing)) = false → D3 = D2 ∧ PB = false
  s3 : D3.size = d.size
  lm : LM ≤ l
  done : PB = true → Sort.pdq ltN d x y l wb wp = D3
  eq : PB = false → tst x PV D3 = true → ∀ mid d4, Sort.partitionEqual ltN D3 x y PV = (mid, d4) → x < mid ∧ mid ≤ y ∧ d4.size = d.size ∧ bel mid y d4 ∧ Sort.pdq ltN d x y l wb wp = Sort.pdq ltN d4 mid y LM wb wp
  pt : PB = false → tst x PV D3 = false → ∀ mid ap d4, Sort.partition ltN D3 x y PV = (mid, ap, d4) → x ≤ mid ∧ mid < y ∧ d4.size = d.size ∧ bel x mid d4 ∧ bel (mid + 1) y d4 ∧
    (mid - x < y - mid → ∀ d5, d5 = Sort.pdq ltN d4 x mid LM true true → d5.size = d.size ∧ bel (mid + 1) y d5 ∧ Sort.pdq ltN d x y l wb wp = Sort.pdq ltN d5 (mid + 1) y LM (decide ((y - x) / 8 ≤ mid - x)) ap) ∧
    (¬ mid - x < y - mid → ∀ d5, d5 = Sort.pdq ltN d4 (mid + 1) y LM true true → d5.size = d.size ∧ bel x mid d5 ∧ Sort.pdq ltN d x y l wb wp = Sort.pdq ltN d5 x mid LM (decide ((y - x) / 8 ≤ y - mid)) ap)
theorem rdv_is (d : Array Nat) (x y l : Nat) (wb wp : Bool) (h12 : ¬ y - x ≤ 12) (hl : ¬ l = 0) (hy : y ≤ d.size) (hB : bel x y d) :
    ∃ D1 D2 D3 LM PV P0 H0 HT PB, Rdv d x y l wb wp D1 D2 D3 LM PV P0 H0 HT PB := by
  have F := Sort.rd_facts (lt := ltN) (d := d) (a := x) (b := y) (limit := l) (wb := wb) (wp := wp) swoN Sort.partialInsertionSort_holds Sort.reverseRange_holds (by omega) hy hB
  have hl2 := Sort.rd_lim_le (lt := ltN) (d := d) (a := x) (b := y) (limit := l) (wb := wb) (wp := wp)
  have e1 : wb = true → (Sort.rd ltN d x y l wb wp).d1 = d ∧ (Sort.rd ltN d x y l wb wp).lim = l := fun h => by subst h; exact Sort.rd_true
  have e2 : wb = false → (Sort.rd ltN d x y l wb wp).d1 = Sort.breakPatterns d x y ∧ (Sort.rd ltN d x y l wb wp).lim = l - 1 := fun h => by subst h; exact Sort.rd_false
  have e3 := Sort.rd_c (lt := ltN) (d := d) (a := x) (b := y) (limit := l) (wb := wb) (wp := wp)
  have e4 := Sort.rd_dec (lt := ltN) (d := d) (a := x) (b := y) (limit := l) (wb := wb) (wp := wp)
  have e5 := Sort.rd_not (lt := ltN) (d := d) (a := x) (b := y) (limit := l) (wb := wb) (wp := wp)
  have e6 := Sort.rd_pi_yes (lt := ltN) (d := d) (a := x) (b := y) (limit := l) (wb := wb) (wp := wp)
  have e7 := Sort.rd_pi_no (lt := ltN) (d := d) (a := x) (b := y) (limit := l) (wb := wb) (wp := wp)
  have f1 := Sort.pdq_done (lt := ltN) (d := d) (a := x) (b := y) (limit := l) (wb := wb) (wp := wp) h12 hl
  have f2 := Sort.pdq_eq (lt := ltN) (d := d) (a := x) (b := y) (limit := l) (wb := wb) (wp := wp) h12 hl
  have f3 := Sort.pdq_left (lt := ltN) (d := d) (a := x) (b := y) (limit := l) (wb := wb) (wp := wp) h12 hl
  have f4 := Sort.pdq_right (lt := ltN) (d := d) (a := x) (b := y) (limit := l) (wb := wb) (wp := wp) h12 hl
  generalize Sort.rd ltN d x y l wb wp = X at *
  obtain ⟨D1, LM, C, D2, PV, HT, PI⟩ := X
  obtain ⟨P0, H0⟩ := C
  obtain ⟨D3, PB⟩ := PI
  dsimp only at *
  obtain ⟨s1, -, c1, s2, -, pv, s3, B3⟩ := F
  refine ⟨D1, D2, D3, LM, PV, P0, H0, HT, PB, ?_⟩
  refine { wt := e1, wf := e2, s1 := s1, ch := e3.symm, p0 := c1, dec := e4, ndec := e5, s2 := s2, pv := pv, piy := fun h => (e6 h).symm, pin := fun h => ?_, s3 := s3, lm := hl2, done := f1, eq := ?_, pt := ?_ }
  · have := e7 h
    simpa using this
  · intro hp ht mid d4 hx
    have ht' := ht
    simp only [Bool.and_eq_true, decide_eq_true_eq, Bool.not_eq_true'] at ht'
    obtain ⟨r1, r2, r3, r4, _⟩ := Sort.round_eq swoN (Sort.partitionEqual_holds ltN) ht'.1 pv.1 pv.2 (by rw [s3]; exact hy) B3 ht'.2 hx
    refine ⟨r1, r2, by rw [r3, s3], r4, ?_⟩
    have := f2 hp ht (by rw [hx]; exact ⟨r1, r2⟩)
    rw [this, hx]
  · intro hp ht mid ap d4 hx
    obtain ⟨r1, r2, r3, r4, r5, r6, r7⟩ := Sort.round_part swoN (Sort.partition_holds ltN) pv.1 pv.2 (by rw [s3]; exact hy) B3 hx
    refine ⟨r1, r2, by rw [r3, s3], r4, r5, ?_, ?_⟩
    · intro hlt d5 h5
      obtain ⟨pL, sL⟩ := Sort.pdq_sorts ltN swoN d4 x mid LM true true r1 (by rw [r3, s3]; omega) r4
      subst h5
      refine ⟨by rw [pL.1, r3, s3], (r6 _ pL sL).1, ?_⟩
      have := f3 hp ht (by rw [hx]; exact ⟨r1, r2⟩) (by rw [hx]; exact hlt)
      rw [this, hx]
    · intro hlt d5 h5
      obtain ⟨pL, sL⟩ := Sort.pdq_sorts ltN swoN d4 (mid + 1) y LM true true (by omega) (by rw [r3, s3]; exact hy) r5
      subst h5
      refine ⟨by rw [pL.1, r3, s3], (r7 _ pL sL).1, ?_⟩
      have := f4 hp ht (by rw [hx]; exact ⟨r1, r2⟩) (by rw [hx]; exact hlt)
      rw [this, hx]
end Go.Proofs.YtnienfgaidccpaaDoor
