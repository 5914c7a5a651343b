/- Ridge: the values of RidgeExamples, and its callees there. No condition. -/
import Derived.Test.YtjelnbfnoliocaaSf
import Derived.Test.YtjelnbfnoliocaaBj
namespace Go.Proofs.Ytjelnbfnoliocaa
open Go.RowKit Go.Shelf

def pq1 : List Bool := [true, false, true, false, false, false, true, false, true]
def pq2 : List Bool := [false, true, true, false]
def pq3 : List Bool := [true, true, true, true]
def pq4 : List Bool := [false, false, true, true]
def pq5 : List Bool := [true]
def pq6 : List Bool := [false, true, false, true, false, true, false, true, false]
def pq7 : List Bool := [true, true, true, true, true, true, true, true, true]
def pq8 : List Bool := [false, false, false, true, true, true, false, false, false]
def pq9 : List Bool := [true, true, false, false, true, false, false, false, true]
def pq10 : List Bool := [false, false, false, false, true, true, false, false, false]
def pq11 : List Bool := [true, false, true, false, true, false, true, false, true]
theorem v_ridges_pq1 : ridgesF 3 3 pq1 = 4 := by
  rw [ridgesF, compsF_eq 3 3 pq1 true false 25 (fun i => [0, 0, 0, 0, 0, 0, 6, 0, 8, 0, 0, 0, 0, 0, 0, 0, 16, 0, 18, 0, 0, 0, 0, 0, 0].getD i 0) (fun i => [0, 0, 0, 0, 0, 0, 0, 0, 0, 0, 0, 0, 0, 0, 0, 0, 0, 0, 0, 0, 0, 0, 0, 0, 0].getD i 0) (fun i => [0, 0, 0, 0, 0, 0, 0, 0, 0, 0, 0, 0, 0, 0, 0, 0, 0, 0, 0, 0, 0, 0, 0, 0, 0].getD i 0) (by decide +kernel) rfl]
  decide +kernel
theorem v_lakes_pq1 : lakesF 3 3 pq1 = 0 := by
  rw [lakesF, compsF_eq 3 3 pq1 false true 25 (fun i => [0, 0, 0, 0, 0, 0, 0, 0, 0, 0, 0, 0, 0, 0, 0, 0, 0, 0, 0, 0, 0, 0, 0, 0, 0].getD i 0) (fun i => [0, 1, 2, 3, 4, 1, 0, 3, 0, 5, 2, 3, 4, 5, 6, 3, 0, 5, 0, 7, 4, 5, 6, 7, 8].getD i 0) (fun i => [0, 0, 1, 2, 3, 0, 0, 2, 0, 4, 5, 10, 7, 12, 9, 10, 0, 12, 0, 14, 15, 20, 17, 22, 19].getD i 0) (by decide +kernel) rfl]
  decide +kernel
theorem v_ridges_pq2 : ridgesF 2 2 pq2 = 1 := by
  rw [ridgesF, compsF_eq 2 2 pq2 true false 16 (fun i => [0, 0, 0, 0, 0, 0, 6, 0, 0, 6, 0, 0, 0, 0, 0, 0].getD i 0) (fun i => [0, 0, 0, 0, 0, 0, 0, 0, 0, 1, 0, 0, 0, 0, 0, 0].getD i 0) (fun i => [0, 0, 0, 0, 0, 0, 0, 0, 0, 6, 0, 0, 0, 0, 0, 0].getD i 0) (by decide +kernel) rfl]
  decide +kernel
theorem v_lakes_pq2 : lakesF 2 2 pq2 = 0 := by
  rw [lakesF, compsF_eq 2 2 pq2 false true 16 (fun i => [0, 0, 0, 0, 0, 0, 0, 0, 0, 0, 0, 0, 0, 0, 0, 0].getD i 0) (fun i => [0, 1, 2, 3, 1, 2, 0, 4, 2, 0, 6, 5, 3, 4, 5, 6].getD i 0) (fun i => [0, 0, 1, 2, 0, 1, 0, 3, 4, 0, 11, 7, 8, 12, 13, 11].getD i 0) (by decide +kernel) rfl]
  decide +kernel
theorem v_thin_pq3 : thinF 2 2 pq3 = pq4 := by decide +kernel
theorem v_thin_pq5 : thinF 1 1 pq5 = pq5 := by decide +kernel
theorem v_thin_p5 : thinF 3 3 p5 = pq6 := by decide +kernel
theorem v_turns_pq7 : turnsN (nbF 3 3 pq7 1 1) 4 = 0 := by decide +kernel
theorem v_turns_pq1 : turnsN (nbF 3 3 pq1 1 1) 4 = 4 := by decide +kernel
theorem v_turns_pq8 : turnsN (nbF 3 3 pq8 1 1) 4 = 2 := by decide +kernel
theorem v_turns_pq9 : turnsN (nbF 3 3 pq9 1 1) 4 = 2 := by decide +kernel
theorem v_cross_pq10 : crossN (nbF 3 3 pq10 1 1) 8 = 1 := by decide +kernel
theorem v_cross_pq11 : crossN (nbF 3 3 pq11 1 1) 8 = 4 := by decide +kernel
theorem v_min2 : minI 5 3 p2 2 15 = [] := by decide +kernel
theorem pc_of (rows : List ByteArray) (W H n : Nat) (l : List Bool) (h0 : 0 < rows.length) (hH : H = rows.length) (hW : W = rows[0].size) (hl : hashL rows = l) (hn : n = l.length) (hw : ∀ s ∈ rows, s.size ≤ 20) (hb : n ≤ 400) (hh : H ≤ 20)
    (A : Option Addr) (c : Nat) (w : World) (hr : Rd w A (strs rows)) : Calls Try.prog 50 #[.slice A H c] w fun e w' => ∃ A' c', e = .returned (.agg #[.int .i64 (W : Int), .int .i64 (H : Int), .slice A' n c']) ∧ Own w w' [row 4 1 (.slice A' n c') n (bools l)] := by
  subst hl; subst hW; subst hn
  exact picture_any rows A H c w hr hH h0 hw hb hh
theorem pc_pq1 (w : World) : Calls Try.prog 50 #[.slice (some ⟨w.heap.size, 0, none⟩) 3 3] (w.alloc (.cells #[.string { data := #[35, 46, 35] }, .string { data := #[46, 46, 46] }, .string { data := #[35, 46, 35] }] 9)) fun e w' => ∃ A' c', e = .returned (.agg #[.int .i64 3, .int .i64 3, .slice A' 9 c']) ∧ Own (w.alloc (.cells #[.string { data := #[35, 46, 35] }, .string { data := #[46, 46, 46] }, .string { data := #[35, 46, 35] }] 9)) w' [row 4 1 (.slice A' 9 c') 9 (bools pq1)] :=
  pc_of [{ data := #[35, 46, 35] }, { data := #[46, 46, 46] }, { data := #[35, 46, 35] }] 3 3 9 pq1 (by decide) rfl rfl (by decide +kernel) rfl (by decide +kernel) (by decide) (by decide) _ _ _ (Rd.new w #[.string { data := #[35, 46, 35] }, .string { data := #[46, 46, 46] }, .string { data := #[35, 46, 35] }] 9)
theorem pc_pq2 (w : World) : Calls Try.prog 50 #[.slice (some ⟨w.heap.size, 0, none⟩) 2 2] (w.alloc (.cells #[.string { data := #[46, 35] }, .string { data := #[35, 46] }] 9)) fun e w' => ∃ A' c', e = .returned (.agg #[.int .i64 2, .int .i64 2, .slice A' 4 c']) ∧ Own (w.alloc (.cells #[.string { data := #[46, 35] }, .string { data := #[35, 46] }] 9)) w' [row 4 1 (.slice A' 4 c') 4 (bools pq2)] :=
  pc_of [{ data := #[46, 35] }, { data := #[35, 46] }] 2 2 4 pq2 (by decide) rfl rfl (by decide +kernel) rfl (by decide +kernel) (by decide) (by decide) _ _ _ (Rd.new w #[.string { data := #[46, 35] }, .string { data := #[35, 46] }] 9)
theorem pc_pq3 (w : World) : Calls Try.prog 50 #[.slice (some ⟨w.heap.size, 0, none⟩) 2 2] (w.alloc (.cells #[.string { data := #[35, 35] }, .string { data := #[35, 35] }] 9)) fun e w' => ∃ A' c', e = .returned (.agg #[.int .i64 2, .int .i64 2, .slice A' 4 c']) ∧ Own (w.alloc (.cells #[.string { data := #[35, 35] }, .string { data := #[35, 35] }] 9)) w' [row 4 1 (.slice A' 4 c') 4 (bools pq3)] :=
  pc_of [{ data := #[35, 35] }, { data := #[35, 35] }] 2 2 4 pq3 (by decide) rfl rfl (by decide +kernel) rfl (by decide +kernel) (by decide) (by decide) _ _ _ (Rd.new w #[.string { data := #[35, 35] }, .string { data := #[35, 35] }] 9)
theorem pc_pq4 (w : World) : Calls Try.prog 50 #[.slice (some ⟨w.heap.size, 0, none⟩) 2 2] (w.alloc (.cells #[.string { data := #[46, 46] }, .string { data := #[35, 35] }] 9)) fun e w' => ∃ A' c', e = .returned (.agg #[.int .i64 2, .int .i64 2, .slice A' 4 c']) ∧ Own (w.alloc (.cells #[.string { data := #[46, 46] }, .string { data := #[35, 35] }] 9)) w' [row 4 1 (.slice A' 4 c') 4 (bools pq4)] :=
  pc_of [{ data := #[46, 46] }, { data := #[35, 35] }] 2 2 4 pq4 (by decide) rfl rfl (by decide +kernel) rfl (by decide +kernel) (by decide) (by decide) _ _ _ (Rd.new w #[.string { data := #[46, 46] }, .string { data := #[35, 35] }] 9)
theorem pc_pq5 (w : World) : Calls Try.prog 50 #[.slice (some ⟨w.heap.size, 0, none⟩) 1 1] (w.alloc (.cells #[.string { data := #[35] }] 9)) fun e w' => ∃ A' c', e = .returned (.agg #[.int .i64 1, .int .i64 1, .slice A' 1 c']) ∧ Own (w.alloc (.cells #[.string { data := #[35] }] 9)) w' [row 4 1 (.slice A' 1 c') 1 (bools pq5)] :=
  pc_of [{ data := #[35] }] 1 1 1 pq5 (by decide) rfl rfl (by decide +kernel) rfl (by decide +kernel) (by decide) (by decide) _ _ _ (Rd.new w #[.string { data := #[35] }] 9)
theorem pc_pq6 (w : World) : Calls Try.prog 50 #[.slice (some ⟨w.heap.size, 0, none⟩) 3 3] (w.alloc (.cells #[.string { data := #[46, 35, 46] }, .string { data := #[35, 46, 35] }, .string { data := #[46, 35, 46] }] 9)) fun e w' => ∃ A' c', e = .returned (.agg #[.int .i64 3, .int .i64 3, .slice A' 9 c']) ∧ Own (w.alloc (.cells #[.string { data := #[46, 35, 46] }, .string { data := #[35, 46, 35] }, .string { data := #[46, 35, 46] }] 9)) w' [row 4 1 (.slice A' 9 c') 9 (bools pq6)] :=
  pc_of [{ data := #[46, 35, 46] }, { data := #[35, 46, 35] }, { data := #[46, 35, 46] }] 3 3 9 pq6 (by decide) rfl rfl (by decide +kernel) rfl (by decide +kernel) (by decide) (by decide) _ _ _ (Rd.new w #[.string { data := #[46, 35, 46] }, .string { data := #[35, 46, 35] }, .string { data := #[46, 35, 46] }] 9)
theorem pc_pq7 (w : World) : Calls Try.prog 50 #[.slice (some ⟨w.heap.size, 0, none⟩) 3 3] (w.alloc (.cells #[.string { data := #[35, 35, 35] }, .string { data := #[35, 35, 35] }, .string { data := #[35, 35, 35] }] 9)) fun e w' => ∃ A' c', e = .returned (.agg #[.int .i64 3, .int .i64 3, .slice A' 9 c']) ∧ Own (w.alloc (.cells #[.string { data := #[35, 35, 35] }, .string { data := #[35, 35, 35] }, .string { data := #[35, 35, 35] }] 9)) w' [row 4 1 (.slice A' 9 c') 9 (bools pq7)] :=
  pc_of [{ data := #[35, 35, 35] }, { data := #[35, 35, 35] }, { data := #[35, 35, 35] }] 3 3 9 pq7 (by decide) rfl rfl (by decide +kernel) rfl (by decide +kernel) (by decide) (by decide) _ _ _ (Rd.new w #[.string { data := #[35, 35, 35] }, .string { data := #[35, 35, 35] }, .string { data := #[35, 35, 35] }] 9)
theorem pc_pq8 (w : World) : Calls Try.prog 50 #[.slice (some ⟨w.heap.size, 0, none⟩) 3 3] (w.alloc (.cells #[.string { data := #[46, 46, 46] }, .string { data := #[35, 35, 35] }, .string { data := #[46, 46, 46] }] 9)) fun e w' => ∃ A' c', e = .returned (.agg #[.int .i64 3, .int .i64 3, .slice A' 9 c']) ∧ Own (w.alloc (.cells #[.string { data := #[46, 46, 46] }, .string { data := #[35, 35, 35] }, .string { data := #[46, 46, 46] }] 9)) w' [row 4 1 (.slice A' 9 c') 9 (bools pq8)] :=
  pc_of [{ data := #[46, 46, 46] }, { data := #[35, 35, 35] }, { data := #[46, 46, 46] }] 3 3 9 pq8 (by decide) rfl rfl (by decide +kernel) rfl (by decide +kernel) (by decide) (by decide) _ _ _ (Rd.new w #[.string { data := #[46, 46, 46] }, .string { data := #[35, 35, 35] }, .string { data := #[46, 46, 46] }] 9)
theorem pc_pq9 (w : World) : Calls Try.prog 50 #[.slice (some ⟨w.heap.size, 0, none⟩) 3 3] (w.alloc (.cells #[.string { data := #[35, 35, 46] }, .string { data := #[46, 35, 46] }, .string { data := #[46, 46, 35] }] 9)) fun e w' => ∃ A' c', e = .returned (.agg #[.int .i64 3, .int .i64 3, .slice A' 9 c']) ∧ Own (w.alloc (.cells #[.string { data := #[35, 35, 46] }, .string { data := #[46, 35, 46] }, .string { data := #[46, 46, 35] }] 9)) w' [row 4 1 (.slice A' 9 c') 9 (bools pq9)] :=
  pc_of [{ data := #[35, 35, 46] }, { data := #[46, 35, 46] }, { data := #[46, 46, 35] }] 3 3 9 pq9 (by decide) rfl rfl (by decide +kernel) rfl (by decide +kernel) (by decide) (by decide) _ _ _ (Rd.new w #[.string { data := #[35, 35, 46] }, .string { data := #[46, 35, 46] }, .string { data := #[46, 46, 35] }] 9)
theorem pc_pq10 (w : World) : Calls Try.prog 50 #[.slice (some ⟨w.heap.size, 0, none⟩) 3 3] (w.alloc (.cells #[.string { data := #[46, 46, 46] }, .string { data := #[46, 35, 35] }, .string { data := #[46, 46, 46] }] 9)) fun e w' => ∃ A' c', e = .returned (.agg #[.int .i64 3, .int .i64 3, .slice A' 9 c']) ∧ Own (w.alloc (.cells #[.string { data := #[46, 46, 46] }, .string { data := #[46, 35, 35] }, .string { data := #[46, 46, 46] }] 9)) w' [row 4 1 (.slice A' 9 c') 9 (bools pq10)] :=
  pc_of [{ data := #[46, 46, 46] }, { data := #[46, 35, 35] }, { data := #[46, 46, 46] }] 3 3 9 pq10 (by decide) rfl rfl (by decide +kernel) rfl (by decide +kernel) (by decide) (by decide) _ _ _ (Rd.new w #[.string { data := #[46, 46, 46] }, .string { data := #[46, 35, 35] }, .string { data := #[46, 46, 46] }] 9)
theorem pc_pq11 (w : World) : Calls Try.prog 50 #[.slice (some ⟨w.heap.size, 0, none⟩) 3 3] (w.alloc (.cells #[.string { data := #[35, 46, 35] }, .string { data := #[46, 35, 46] }, .string { data := #[35, 46, 35] }] 9)) fun e w' => ∃ A' c', e = .returned (.agg #[.int .i64 3, .int .i64 3, .slice A' 9 c']) ∧ Own (w.alloc (.cells #[.string { data := #[35, 46, 35] }, .string { data := #[46, 35, 46] }, .string { data := #[35, 46, 35] }] 9)) w' [row 4 1 (.slice A' 9 c') 9 (bools pq11)] :=
  pc_of [{ data := #[35, 46, 35] }, { data := #[46, 35, 46] }, { data := #[35, 46, 35] }] 3 3 9 pq11 (by decide) rfl rfl (by decide +kernel) rfl (by decide +kernel) (by decide) (by decide) _ _ _ (Rd.new w #[.string { data := #[35, 46, 35] }, .string { data := #[46, 35, 46] }, .string { data := #[35, 46, 35] }] 9)
theorem pc_p5 (w : World) : Calls Try.prog 50 #[.slice (some ⟨w.heap.size, 0, none⟩) 3 3] (w.alloc (.cells #[.string { data := #[35, 35, 35] }, .string { data := #[35, 46, 35] }, .string { data := #[35, 35, 35] }] 9)) fun e w' => ∃ A' c', e = .returned (.agg #[.int .i64 3, .int .i64 3, .slice A' 9 c']) ∧ Own (w.alloc (.cells #[.string { data := #[35, 35, 35] }, .string { data := #[35, 46, 35] }, .string { data := #[35, 35, 35] }] 9)) w' [row 4 1 (.slice A' 9 c') 9 (bools p5)] :=
  pc_of [{ data := #[35, 35, 35] }, { data := #[35, 46, 35] }, { data := #[35, 35, 35] }] 3 3 9 p5 (by decide) rfl rfl (by decide +kernel) rfl (by decide +kernel) (by decide) (by decide) _ _ _ (Rd.new w #[.string { data := #[35, 35, 35] }, .string { data := #[35, 46, 35] }, .string { data := #[35, 35, 35] }] 9)
theorem pc_p2 (w : World) : Calls Try.prog 50 #[.slice (some ⟨w.heap.size, 0, none⟩) 3 3] (w.alloc (.cells #[.string { data := #[46, 46, 46, 46, 46] }, .string { data := #[46, 35, 35, 35, 46] }, .string { data := #[46, 46, 46, 46, 46] }] 9)) fun e w' => ∃ A' c', e = .returned (.agg #[.int .i64 5, .int .i64 3, .slice A' 15 c']) ∧ Own (w.alloc (.cells #[.string { data := #[46, 46, 46, 46, 46] }, .string { data := #[46, 35, 35, 35, 46] }, .string { data := #[46, 46, 46, 46, 46] }] 9)) w' [row 4 1 (.slice A' 15 c') 15 (bools p2)] :=
  pc_of [{ data := #[46, 46, 46, 46, 46] }, { data := #[46, 35, 35, 35, 46] }, { data := #[46, 46, 46, 46, 46] }] 5 3 15 p2 (by decide) rfl rfl (by decide +kernel) rfl (by decide +kernel) (by decide) (by decide) _ _ _ (Rd.new w #[.string { data := #[46, 46, 46, 46, 46] }, .string { data := #[46, 35, 35, 35, 46] }, .string { data := #[46, 46, 46, 46, 46] }] 9)
theorem tu_pq7 (A : Option Addr) (c : Nat) (w : World) (hr : Rd w A (bools pq7)) :
    Calls Try.prog 33 #[.agg #[.int .i64 3, .int .i64 3, .slice A 9 c], .int .i64 1, .int .i64 1] w fun e w' => e = .returned (.tuple #[.int .i64 0, .int .i64 0]) ∧ Below w.heap.size w w' := by
  have h := Turns_any 3 3 1 1 A pq7 9 c w hr rfl
  rw [show askedF 3 3 9 1 1 = 0 by decide +kernel, if_pos rfl, v_turns_pq7] at h
  exact h
theorem tu_pq1 (A : Option Addr) (c : Nat) (w : World) (hr : Rd w A (bools pq1)) :
    Calls Try.prog 33 #[.agg #[.int .i64 3, .int .i64 3, .slice A 9 c], .int .i64 1, .int .i64 1] w fun e w' => e = .returned (.tuple #[.int .i64 4, .int .i64 0]) ∧ Below w.heap.size w w' := by
  have h := Turns_any 3 3 1 1 A pq1 9 c w hr rfl
  rw [show askedF 3 3 9 1 1 = 0 by decide +kernel, if_pos rfl, v_turns_pq1] at h
  exact h
theorem tu_pq8 (A : Option Addr) (c : Nat) (w : World) (hr : Rd w A (bools pq8)) :
    Calls Try.prog 33 #[.agg #[.int .i64 3, .int .i64 3, .slice A 9 c], .int .i64 1, .int .i64 1] w fun e w' => e = .returned (.tuple #[.int .i64 2, .int .i64 0]) ∧ Below w.heap.size w w' := by
  have h := Turns_any 3 3 1 1 A pq8 9 c w hr rfl
  rw [show askedF 3 3 9 1 1 = 0 by decide +kernel, if_pos rfl, v_turns_pq8] at h
  exact h
theorem tu_pq9 (A : Option Addr) (c : Nat) (w : World) (hr : Rd w A (bools pq9)) :
    Calls Try.prog 33 #[.agg #[.int .i64 3, .int .i64 3, .slice A 9 c], .int .i64 1, .int .i64 1] w fun e w' => e = .returned (.tuple #[.int .i64 2, .int .i64 0]) ∧ Below w.heap.size w w' := by
  have h := Turns_any 3 3 1 1 A pq9 9 c w hr rfl
  rw [show askedF 3 3 9 1 1 = 0 by decide +kernel, if_pos rfl, v_turns_pq9] at h
  exact h
theorem cr_pq10 (A : Option Addr) (c : Nat) (w : World) (hr : Rd w A (bools pq10)) :
    Calls Try.prog 35 #[.agg #[.int .i64 3, .int .i64 3, .slice A 9 c], .int .i64 1, .int .i64 1] w fun e w' => e = .returned (.tuple #[.int .i64 1, .int .i64 0]) ∧ Below w.heap.size w w' := by
  have h := Crossings_any 3 3 1 1 A pq10 9 c w hr rfl
  rw [show askedF 3 3 9 1 1 = 0 by decide +kernel, if_pos rfl, v_cross_pq10] at h
  exact h
theorem cr_pq11 (A : Option Addr) (c : Nat) (w : World) (hr : Rd w A (bools pq11)) :
    Calls Try.prog 35 #[.agg #[.int .i64 3, .int .i64 3, .slice A 9 c], .int .i64 1, .int .i64 1] w fun e w' => e = .returned (.tuple #[.int .i64 4, .int .i64 0]) ∧ Below w.heap.size w w' := by
  have h := Crossings_any 3 3 1 1 A pq11 9 c w hr rfl
  rw [show askedF 3 3 9 1 1 = 0 by decide +kernel, if_pos rfl, v_cross_pq11] at h
  exact h
theorem sure1_ex (P A A' : Option Addr) (np n n' : Nat) (w : World) (hp : Rd w P (u8s [99, 100, 101])) (hr : Rd w A (u8s [0, 50, 100])) (hr' : Rd w A' (u8s [200, 150, 102])) :
    Calls Try.prog 23 #[.agg #[.int .i64 3, .int .i64 1, .slice P 3 np], .agg #[.int .i64 3, .int .i64 1, .slice A 3 n, .slice A' 3 n'], .int .i64 1] w fun e w' => ∃ B c, e = .returned (.tuple #[.slice B 3 c, .int .i64 0]) ∧ Rd w' B (bools [false, false, false]) ∧ Below w.heap.size w w' := by
  refine (sure_any 3 1 3 1 1 P A A' [99, 100, 101] [0, 50, 100] [200, 150, 102] 3 np 3 n 3 n' w hp hr hr' rfl rfl rfl (by unfold U8; simp) (by unfold U8; simp) (by unfold U8; simp) 0 (by decide)).mono ?_
  rintro e w' ⟨B, c, he, ho, hb⟩
  exact ⟨B, c, he, ho.rd, hb⟩
theorem qual_ex (P A A' : Option Addr) (np n n' : Nat) (w : World) (hp : Rd w P (u8s [99, 100, 101])) (hr : Rd w A (u8s [0, 50, 100])) (hr' : Rd w A' (u8s [200, 150, 102])) :
    Calls Try.prog 26 #[.agg #[.int .i64 3, .int .i64 1, .slice P 3 np], .agg #[.int .i64 3, .int .i64 1, .slice A 3 n, .slice A' 3 n'], .int .i64 0] w fun e w' => e = .returned (.tuple #[.int .i64 33, .int .i64 0]) ∧ Below w.heap.size w w' := by
  have h := quality_any 3 1 3 1 0 P A A' [99, 100, 101] [0, 50, 100] [200, 150, 102] 3 np 3 n 3 n' w hp hr hr' rfl rfl rfl (by unfold U8; simp) (by unfold U8; simp) (by unfold U8; simp) 0 (by decide)
  rw [show sureE 0 0 = 0 by decide, show qualR 0 (sureL 0 0 [99, 100, 101] [0, 50, 100] [200, 150, 102]) = 33 by decide +kernel] at h
  exact h
theorem bad_ex (sW : Int) (s0 : Int) (P A A' : Option Addr) (np n n' : Nat) (w : World) (hp : Rd w P (u8s [99, 100, 101])) (hr : Rd w A (u8s [0, 50, 100])) (hr' : Rd w A' (u8s [200, 150, 100])) (hs : seenF sW 1 3 3 1 [0, 50, 100] [200, 150, 100] = s0) (h0 : s0 ≠ 0) :
    Calls Try.prog 20 #[.agg #[.int .i64 sW, .int .i64 1, .slice P 3 np], .agg #[.int .i64 3, .int .i64 1, .slice A 3 n, .slice A' 3 n']] w fun e w' => ∃ B c, e = .returned (.tuple #[.agg #[.int .i64 0, .int .i64 0, .slice B 0 c], .int .i64 s0]) ∧ Below w.heap.size w w' := by
  refine (binary_any sW 1 3 1 P A A' [99, 100, 101] [0, 50, 100] [200, 150, 100] 3 np 3 n 3 n' w hp hr hr' rfl rfl rfl (by unfold U8; simp) (by unfold U8; simp) (by unfold U8; simp) s0 hs).mono ?_
  rintro e w' ⟨B, c, he, ho, hb⟩
  rw [binW, binW, binL, if_neg h0, if_neg h0, if_neg h0] at he
  exact ⟨B, c, he, hb⟩
theorem min2_ex (A : Option Addr) (c : Nat) (w : World) (hr : Rd w A (bools p2)) :
    Calls Try.prog 39 #[.agg #[.int .i64 5, .int .i64 3, .slice A 15 c], .int .i64 2] w fun e w' => ∃ B c', e = .returned (.tuple #[.slice B 0 c', .int .i64 0]) ∧ Below w.heap.size w w' := by
  have h := min_ok 5 3 2 A p2 15 c w (by decide) (by decide) hr rfl
  rw [v_min2] at h
  refine h.mono ?_
  rintro e w' ⟨B, c', he, hO⟩
  exact ⟨B, c', he, hO.bel⟩
theorem ha_pq1 (A : Option Addr) (c : Nat) (w : World) (hr : Rd w A (bools pq1)) : Calls Try.prog 51 #[.agg #[.int .i64 3, .int .i64 3, .slice A 9 c], .int .i64 4, .int .i64 0] w fun e w' => e = .returned (.bool true) ∧ Below w.heap.size w w' :=
  has_yes 3 3 4 0 A pq1 9 c w hr rfl (by decide) (by rw [partsA, if_pos (by decide), v_ridges_pq1]) (by rw [partsB, if_pos (by decide), v_lakes_pq1])
theorem ha_pq2 (A : Option Addr) (c : Nat) (w : World) (hr : Rd w A (bools pq2)) : Calls Try.prog 51 #[.agg #[.int .i64 2, .int .i64 2, .slice A 4 c], .int .i64 1, .int .i64 0] w fun e w' => e = .returned (.bool true) ∧ Below w.heap.size w w' :=
  has_yes 2 2 1 0 A pq2 4 c w hr rfl (by decide) (by rw [partsA, if_pos (by decide), v_ridges_pq2]) (by rw [partsB, if_pos (by decide), v_lakes_pq2])
end Go.Proofs.Ytjelnbfnoliocaa
