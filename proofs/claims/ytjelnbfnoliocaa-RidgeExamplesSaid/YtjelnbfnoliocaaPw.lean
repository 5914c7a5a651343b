/- Ridge: the pixels that a pass looks at; Clone. No condition. -/
import Derived.Test.YtjelnbfnoliocaaPv
import Derived.Test.YtjelnbfnoliocaaPq
namespace Go.Proofs.Ytjelnbfnoliocaa
open Go.RowKit

/-- The pixels that a pass wants, by their numbers. -/
def wantI (W H : Int) (l : List Bool) (d k : Nat) : List Nat := (pixI l k).filter fun i => !nbI W H l i d
def takeAll (W H : Int) (T : List Bool) (J : List Nat) : List Bool := J.foldl (fun T i => takeIf (simpleB W H T i) T i) T
theorem takeAll_snoc (W H : Int) (T : List Bool) (J : List Nat) (i : Nat) : takeAll W H T (J ++ [i]) = takeIf (simpleB W H (takeAll W H T J) i) (takeAll W H T J) i := by simp [takeAll, List.foldl_append]
theorem takeAll_len (W H : Int) (T : List Bool) : ∀ J : List Nat, (takeAll W H T J).length = T.length := by
  intro J
  induction J generalizing T with
  | nil => rfl
  | cons i J ih =>
    show (takeAll W H (takeIf (simpleB W H T i) T i) J).length = _
    rw [ih, takeIf_len]
theorem passN_take (W H : Int) (l : List Bool) (d k : Nat) : passN W H l d k = takeAll W H l (wantI W H l d k) := by
  induction k with
  | zero => rfl
  | succ k ih =>
    cases hg : l.getD k false
    · have hw : wantB W H l d k = false := by unfold wantB; rw [hg]; rfl
      rw [passN, wantI, pixI_no hg, hw]
      exact ih
    · rw [passN, wantI, pixI_yes hg, List.filter_append, List.filter_cons, List.filter_nil]
      cases hb : nbI W H l k d
      · have hw : wantB W H l d k = true := by unfold wantB; rw [hg, hb]; rfl
        rw [hw]
        simp only [Bool.not_false, if_true, Bool.true_and]
        rw [takeAll_snoc]
        unfold wantI at ih
        rw [ih]
      · have hw : wantB W H l d k = false := by unfold wantB; rw [hg, hb]; rfl
        rw [hw]
        simp only [Bool.not_true, Bool.false_eq_true, if_false, List.append_nil, Bool.false_and, takeIf]
        exact ih
theorem wantI_mem {W H : Int} {l : List Bool} {d i : Nat} (h : i ∈ wantI W H l d l.length) : i < l.length := by
  unfold wantI pixI at h
  have := (List.mem_filter.1 (List.mem_filter.1 h).1).1
  exact List.mem_range.1 this
theorem wantI_len (W H : Int) (l : List Bool) (d : Nat) : (wantI W H l d l.length).length ≤ l.length := Nat.le_trans (List.length_filter_le _ _) (pixI_len l _)
theorem wantI_true {W H : Int} {l : List Bool} {d i k : Nat} (h : i ∈ wantI W H l d k) : l.getD i false = true := by
  unfold wantI pixI at h
  exact (List.mem_filter.1 (List.mem_filter.1 h).1).2
theorem wantI_nodup (W H : Int) (l : List Bool) (d k : Nat) : (wantI W H l d k).Nodup := (List.nodup_range.filter _).filter _
theorem not_mem_take {J : List Nat} (h : J.Nodup) {q : Nat} (hq : q < J.length) : J[q] ∉ J.take q := by
  intro hm
  obtain ⟨i, hi⟩ := List.mem_iff_getElem?.1 hm
  rw [List.getElem?_take] at hi
  split at hi
  · rename_i hlt
    have h1 : J[i]? = J[q]? := by rw [hi, List.getElem?_eq_getElem hq]
    have := (List.getElem?_inj (by omega) h).1 h1
    omega
  · cases hi
theorem takeAll_getD (W H : Int) (T : List Bool) (J : List Nat) (i : Nat) (h : i ∉ J) : (takeAll W H T J).getD i false = T.getD i false := by
  induction J generalizing T with
  | nil => rfl
  | cons j J ih =>
    show (takeAll W H (takeIf (simpleB W H T j) T j) J).getD i false = _
    rw [ih _ fun hm => h (by simp [hm])]
    unfold takeIf
    split
    · exact getD_keep _ _ _ fun e => h (by simp [e])
    · rfl
theorem turn_has : ∀ a b c d e f g k : Bool, turnsN (b8 a b c d e f g k) 4 = 1 → 1 ≤ cntN (b8 a b c d e f g k) 8 := by decide +kernel
theorem simple_lonely (r : Nat → Bool) : ((turnsN r 4 == 1) && (cntN r 8 != 1)) = ((turnsN r 4 == 1) && !lonelyB r) := by
  by_cases h : turnsN r 4 = 1
  · have h1 : 1 ≤ cntN r 8 := turn_has (r 0) (r 1) (r 2) (r 3) (r 4) (r 5) (r 6) (r 7) h
    unfold lonelyB
    rw [Bool.eq_iff_iff]
    simp [h]
    omega
  · have : (turnsN r 4 == 1) = false := by simpa using h
    rw [this]; rfl
/-- The same by their places. -/
def wantP (W H : Int) (l : List Bool) (d : Nat) (ps : List (Int × Int)) : List (Int × Int) := ps.filter fun p => !nbF W H l p.1 p.2 d
theorem wantP_snoc (W H : Int) (l : List Bool) (d : Nat) (ps : List (Int × Int)) (p : Int × Int) : wantP W H l d (ps ++ [p]) = wantP W H l d ps ++ if nbF W H l p.1 p.2 d then [] else [p] := by
  unfold wantP
  rw [List.filter_append, List.filter_cons, List.filter_nil]
  cases nbF W H l p.1 p.2 d <;> rfl
theorem wantP_len (W H : Int) (l : List Bool) (d : Nat) (ps : List (Int × Int)) : (wantP W H l d ps).length ≤ ps.length := List.length_filter_le _ _
theorem wantP_of (W H : Int) (l : List Bool) (d k : Nat) : wantP W H l d ((pixI l k).map (plc W)) = (wantI W H l d k).map (plc W) := by
  unfold wantP wantI
  rw [List.filter_map]
  rfl
/-- The order of the passes. -/
def pnt (j : Nat) : Nat := [6, 2, 0, 4].getD j 0
def passJ (W H : Int) (T : List Bool) : Nat → List Bool
  | 0 => T
  | j + 1 => passF W H (passJ W H T j) (pnt j)
theorem passJ_four (W H : Int) (T : List Bool) : passJ W H T 4 = pass4 W H T := rfl
theorem passJ_len (W H : Int) (T : List Bool) (j : Nat) : (passJ W H T j).length = T.length := by
  induction j with
  | zero => rfl
  | succ j ih => rw [passJ, passF_len, ih]
theorem takeIf_true (b : Bool) (T : List Bool) (i : Nat) (h : T.getD i false = true) : trueN (takeIf b T i) + (if b then 1 else 0) = trueN T := by
  unfold takeIf
  cases b
  · rfl
  · exact trueN_set T i h
set_option maxRecDepth 100000 in
theorem clone_any (b off n c : Nat) (l : List Bool) (w : World) (hr : Rd w (some ⟨b, off, none⟩) (bools l)) (hn : n = l.length) (hb : n ≤ 140737488355328) :
    Calls Try.prog 69 #[.slice (some ⟨b, off, none⟩) n c] w fun e w' => ∃ A' c', e = .returned (.slice A' n c') ∧ Own w w' [row 4 1 (.slice A' n c') n (bools l)] := by
  have S1 := Lib.hid (((Own.start w).new' 4 #[] (B := w.heap.size) rfl).asRow (n := 0) (size := 1) 0 rfl rfl (by unfold maxLen; omega))
  have HR := Lib.hid (hr.below S1.out.bel)
  have HN := Lib.hid hn
  have hq := fun W => Lib.run_eql_slice_nil (P := Try.prog) W 32 4 (some ⟨b, off, none⟩) n c 0 0 Try.underlying32
  clear hr hn
  go_enter Try.func69, Try.ntmps69
  go_wp2_with (at_builtin; refine wpList_appP rfl (.tmp 5) (.tmp 6) 32 rfl st32 0 S1.out rfl rfl rfl n (bools l) ?_ (bools l) (by omega) rfl HR.out (by rw [HN.out]; simp [bools]) (bools_one l) (by unfold maxLen; omega) (by omega); intro A' c' w1 hS1)
  go_ret
  exact ⟨A', c', rfl, hS1⟩
end Go.Proofs.Ytjelnbfnoliocaa
