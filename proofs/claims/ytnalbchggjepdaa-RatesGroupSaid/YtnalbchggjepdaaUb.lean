/- Rates: sorted numbers in new memory. No condition. -/
import Derived.Test.YtnalbchggjepdaaUa
import Derived.Test.YtnalbchggjepdaaSl
import Derived.Sort.OwnSortedInts
namespace Go.Proofs.Ytnalbchggjepdaa
open Go.RowKit Go.Shelf
attribute [local go_sem] Oper.semAt_some

def srtI (l : List Int) : List Int := l.mergeSort fun x y => decide (x ≤ y)
theorem srtI_len (l : List Int) : (srtI l).length = l.length := by simp [srtI]
/-- slices.Sort of a row of the call's own. -/
theorem sortI_own {w0 w : World} {ps : List Piece} {g n c : Nat} {l : List Int} (h : Own w0 w (row 3 1 (.slice (some ⟨g, 0, none⟩) n c) n (ints l) :: ps)) (hn : n = l.length) (h62 : n < 4611686018427387904) :
    Calls Try.prog 82 #[.slice (some ⟨g, 0, none⟩) n c] w fun e w' => e = .returned (.tuple #[]) ∧ Own w0 w' (row 3 1 (.slice (some ⟨g, 0, none⟩) n c) n (ints (srtI l)) :: ps) := by
  subst hn
  obtain ⟨h1, h2⟩ := (show w.ownsRow 0 3 1 (.slice (some ⟨g, 0, none⟩) l.length c) l.length (ints l) from h.get 0 rfl)
  rcases h2 with ⟨h2, _⟩ | ⟨g', cap, cur, hv, _, hh, h3, h5, h6, h4⟩
  · cases h2
  · injection hv with hv1 hv2 hv3
    injection hv1 with hv1
    injection hv1 with hv1
    subst hv1; subst hv3
    refine (Try.slices_Sort_int g 0 c l w (holds_of_blockI hh (by simpa [ints] using h4)) (Array.getElem?_eq_some_iff.1 hh).1 h62).mono ?_
    rintro e w' ⟨rfl, k, os, rfl⟩
    refine ⟨rfl, h.change 0 rfl (q := row 3 1 (.slice (some ⟨g, 0, none⟩) l.length c) l.length (ints (srtI l))) ?_ (fun b e => .inl e) (grownBy_sortedI _)⟩
    exact ownsRow_sortedI (ss := l) (ts := srtI l) (base := 0) (by simp [srtI]) (Nat.zero_le _) hh h3 h5 h6
theorem sortI_none (w : World) : Calls Try.prog 82 #[.slice none 0 0] w fun e w' => e = .returned (.tuple #[]) ∧ w = w' := by
  refine (Try.slices_Sort_int_none none 0 w).mono ?_
  rintro e w' ⟨rfl, rfl⟩
  exact ⟨rfl, rfl⟩
/-- Any row of the call's own, a nil one too. -/
theorem sortI_any {w0 w : World} {ps : List Piece} {A : Option Addr} {n c : Nat} {l : List Int} (h : Own w0 w (row 3 1 (.slice A n c) n (ints l) :: ps)) (hn : n = l.length) (h62 : n < 4611686018427387904) :
    Calls Try.prog 82 #[.slice A n c] w fun e w' => e = .returned (.tuple #[]) ∧ Own w0 w' (row 3 1 (.slice A n c) n (ints (srtI l)) :: ps) := by
  obtain ⟨h1, h2⟩ := (show w.ownsRow 0 3 1 (.slice A n c) n (ints l) from h.get 0 rfl)
  rcases h2 with ⟨h2, h3⟩ | ⟨g', cap, cur, hv, _⟩
  · injection h2 with a1 a2 a3
    subst a1 a2 a3
    obtain rfl : l = [] := List.length_eq_zero_iff.1 hn.symm
    refine (sortI_none w).mono ?_
    rintro e w' ⟨rfl, rfl⟩
    exact ⟨rfl, by simpa [srtI] using h⟩
  · injection hv with hv1 hv2 hv3
    subst hv1
    exact sortI_own h hn h62
set_option maxRecDepth 100000 in
theorem collect_any (Bt Bd : Nat) (A : Option Addr) (l : List Int) (nn c : Nat) (w : World) (hnn : nn = l.length) (hnb : nn ≤ 1000000)
    (hr : Rd w A (ints l)) (hA : ∀ b off, A = some ⟨b, off, none⟩ → ints l = [] ∨ b = Bd) (hBt : Bt < w.heap.size) (hBd : Bd < w.heap.size)
    (c0 : w.cell? ⟨Bt, 0, none⟩ = some (.slice A nn c)) :
    Calls Try.prog 88 #[.func (.func 89) #[] #[.pointer (some ⟨Bt, 0, none⟩)]] w fun e w' => ∃ A' c', e = .returned (.slice A' nn c') ∧ Own w w' [row 3 1 (.slice A' nn c') nn (ints l)] := by
  have K := Lib.hid (appendSeq_any Bt Bd A l nn c w hnn hnb hr hA hBt hBd c0)
  clear hnn hr hA hBt hBd c0
  go_enter Try.func88, Try.ntmps88
  go_wp2_with fail
  refine K.out.mono ?_
  rintro e w5 ⟨A', c', rfl, hO5⟩
  replace hO5 := Lib.hid hO5
  go_wp2_with fail
  go_ret
  exact ⟨A', c', rfl, hO5.out⟩
set_option maxRecDepth 100000 in
/-- slices.Sorted of the values of a slice. -/
theorem sorted_any (Bt Bd : Nat) (A : Option Addr) (l : List Int) (nn c : Nat) (w : World) (hnn : nn = l.length) (hnb : nn ≤ 1000000)
    (hr : Rd w A (ints l)) (hA : ∀ b off, A = some ⟨b, off, none⟩ → ints l = [] ∨ b = Bd) (hBt : Bt < w.heap.size) (hBd : Bd < w.heap.size)
    (c0 : w.cell? ⟨Bt, 0, none⟩ = some (.slice A nn c)) :
    Calls Try.prog 78 #[.func (.func 89) #[] #[.pointer (some ⟨Bt, 0, none⟩)]] w fun e w' => ∃ A' c', e = .returned (.slice A' nn c') ∧ Own w w' [row 3 1 (.slice A' nn c') nn (ints (srtI l))] := by
  have K := Lib.hid (collect_any Bt Bd A l nn c w hnn hnb hr hA hBt hBd c0)
  have HN := Lib.hid hnn
  clear hnn hr hA hBt hBd c0
  go_enter Try.func78, Try.ntmps78
  go_wp2_with fail
  refine K.out.mono ?_
  rintro e w5 ⟨A', c', rfl, hO5⟩
  replace hO5 := Lib.hid hO5
  have K2 := Lib.hid (sortI_any hO5.out HN.out (by omega))
  go_wp2_with fail
  refine K2.out.mono ?_
  rintro e w6 ⟨rfl, hO6⟩
  replace hO6 := Lib.hid hO6
  go_wp2_with fail
  go_ret
  exact ⟨A', c', rfl, hO6.out⟩
/-- The threshold of a valid list for a valid share. -/
def limF (l : List Int) (num den : Int) : Int :=
  if num * ((l.length : Int) + 1) / den = 0 then -1 else if (l.length : Int) < num * ((l.length : Int) + 1) / den then 1000 else (srtI l).getD (num * ((l.length : Int) + 1) / den - 1).toNat 0 - 1
set_option maxRecDepth 100000 in
set_option maxHeartbeats 2000000 in
theorem limit_any (A : Option Addr) (l : List Int) (n c : Nat) (num den : Int) (w : World) (hr : Rd w A (ints l)) (hn : n = l.length) (hnb : n ≤ 1000) (hl : frB 0 1000 l = true)
    (hnum : 0 ≤ num ∧ num ≤ den) (hden : 1 ≤ den ∧ den ≤ 1000) :
    Calls Try.prog 58 #[.slice A n c, .agg #[.int .i64 num, .int .i64 den]] w fun e w' => e = .returned (.int .i64 (limF l num den)) ∧ Below w.heap.size w w' := by
  obtain ⟨r, hrr⟩ : ∃ r, r = num * ((n : Int) + 1) / den := ⟨_, rfl⟩
  have p1 : num * ((n : Int) + 1) ≤ den * ((n : Int) + 1) := Int.mul_le_mul_of_nonneg_right hnum.2 (by omega)
  have p2 : den * ((n : Int) + 1) ≤ 1000 * ((n : Int) + 1) := Int.mul_le_mul_of_nonneg_right hden.2 (by omega)
  have p0 : 0 ≤ num * ((n : Int) + 1) := Int.mul_nonneg hnum.1 (by omega)
  have r0 : 0 ≤ r := by rw [hrr]; exact Int.ediv_nonneg p0 (by omega)
  have r1 : r ≤ (n : Int) + 1 := by
    rw [hrr]
    exact Int.le_trans (Int.ediv_le_ediv (by omega) p1) (by rw [Int.mul_ediv_cancel_left _ (by omega)]; omega)
  have z1 : IntKind.i64.wrap ((n : Int) + 1) = (n : Int) + 1 := IntWalk.i64_in _ (by omega)
  have z2 : IntKind.i64.wrap (num * ((n : Int) + 1)) = num * ((n : Int) + 1) := IntWalk.i64_in _ (by omega)
  have z3 : (num * ((n : Int) + 1)).tdiv den = r := by rw [Int.tdiv_eq_ediv_of_nonneg p0, hrr]
  have z4 : IntKind.i64.wrap r = r := IntWalk.i64_in _ (by omega)
  have z5 : ¬ den = 0 := by omega
  have HL := Lib.hid (show limF l num den = if r = 0 then -1 else if (n : Int) < r then 1000 else (srtI l).getD (r - 1).toNat 0 - 1 by unfold limF; rw [hrr, hn])
  have S0 := Lib.hid ((Own.start w).new' 23 #[.int .i64 num, .int .i64 den] (B := w.heap.size) rfl)
  have HN := Lib.hid hn
  have HR := Lib.hid hr
  have HF := Lib.hid hl
  clear hn hr hl hrr hnum hden p1 p2 p0
  by_cases e0 : r = 0
  · subst e0
    rw [if_pos rfl] at HL
    go_enter Try.func58, Try.ntmps58
    go_wp2_with fail
    go_ret
    exact ⟨by rw [HL.out]; rfl, S0.out.bel⟩
  have e0' : (r == 0) = false := by simpa using e0
  by_cases e1 : (n : Int) < r
  · rw [if_neg e0, if_pos e1] at HL
    go_enter Try.func58, Try.ntmps58
    go_wp2_with fail
    go_ret
    exact ⟨by rw [HL.out]; rfl, S0.out.bel⟩
  rw [if_neg e0, if_neg e1] at HL
  obtain ⟨k, hk⟩ : ∃ k : Nat, r = (k : Int) + 1 := ⟨(r - 1).toNat, by omega⟩
  subst hk
  have hkn : k < (srtI l).length := by rw [srtI_len, ← HN.out]; omega
  have HV := Lib.hid (show limF l num den = (srtI l)[k] - 1 by
    rw [HL.out, show ((k : Int) + 1 - 1).toNat = k by omega, List.getD_eq_getElem?_getD, List.getElem?_eq_getElem hkn]; rfl)
  have HB := Lib.hid (show 0 ≤ (srtI l)[k] ∧ (srtI l)[k] ≤ 1000 by
    have h1 : (srtI l)[k] ∈ l := (List.mergeSort_perm l _).mem_iff.1 (List.getElem_mem hkn)
    have h2 := List.all_eq_true.1 HF.out _ h1
    simpa [inB] using h2)
  have hix : k < n := by omega
  have z6 : IntKind.i64.wrap ((k : Int) + 1 - 1) = (k : Int) := by rw [show (k : Int) + 1 - 1 = (k : Int) by omega]; exact IntWalk.i64_in _ (by omega)
  have HX := Lib.hid (ints_get hkn)
  generalize (srtI l)[k] = v at *
  obtain ⟨v0, v1⟩ := HB.out
  have z7 : IntKind.i64.wrap (v - 1) = v - 1 := IntWalk.i64_in _ (by omega)
  clear hkn HL HF
  have h0n : 0 < l.length := by rw [← HN.out]; omega
  obtain ⟨b0, off, rfl, hb0, _⟩ := HR.out.at_ (ints_get h0n)
  have HB0 := Lib.hid hb0
  clear h0n hb0
  go_enter Try.func58, Try.ntmps58
  go_wp2_with fail
  refine (values_any _ _ _ _).mono ?_
  rintro e w4 ⟨rfl, hw4⟩
  have L4 := Lib.hid (S0.out.new' 36 #[.slice (some ⟨b0, off, none⟩) n c] (B := w.heap.size + 1) (by simp))
  rw [hw4] at L4
  clear hw4
  have K := Lib.hid (sorted_any (w.heap.size + 1) b0 (some ⟨b0, off, none⟩) l n c w4 HN.out (by omega) (HR.out.below L4.out.bel) (fun b o e => .inr (by injection e with e; injection e with e _; exact e.symm)) (L4.out.bx 0 rfl).2.2 (by have := HB0.out; have := L4.out.bel.size; omega) ((L4.out.bx 0 rfl).1 0 _ rfl))
  have hX : (w.alloc (.cells #[.int .i64 num, .int .i64 den] 23)).heap.size = w.heap.size + 1 := by simp
  rw [hX]
  go_wp2_with fail
  refine K.out.mono ?_
  rintro e w5 ⟨A', c', rfl, hO5⟩
  have S5 := Lib.hid (L4.out.call hO5)
  obtain ⟨g, rfl⟩ := hO5.rowAddr 0 rfl (by omega)
  have q0 := S5.out.rowAt 0 rfl HX.out
  have q1 := (S5.out.rowLt 0 rfl).1
  clear hO5 L4 S0 K
  go_wp2_with fail
  go_ret
  exact ⟨by rw [HV.out]; rfl, S5.out.bel⟩
end Go.Proofs.Ytnalbchggjepdaa
