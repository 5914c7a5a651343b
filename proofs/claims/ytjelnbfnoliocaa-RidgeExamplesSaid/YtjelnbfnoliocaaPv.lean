/- Ridge: Thin of the reference; which pixels are lonely; Clone. No condition. -/
import Derived.Test.YtjelnbfnoliocaaPu
import Derived.ChangeKeysEq
namespace Go.Proofs.Ytjelnbfnoliocaa
open Go.RowKit

def ThinPost (W H : Int) (n : Nat) (l : List Bool) (e0 : Int) (w : World) (e : Ending) (w' : World) : Prop :=
  ∃ A c, e = .returned (.tuple #[.agg #[.int .i64 W, .int .i64 H, .slice A n c], .int .i64 e0]) ∧ Own w w' [row 4 1 (.slice A n c) n (bools l)]
set_option maxHeartbeats 1000000 in
theorem refThin_ok (W H : Int) (A : Option Addr) (l : List Bool) (n c : Nat) (w : World) (ok : sized1B W H n = true) (hr : Rd w A (bools l)) (hn : n = l.length) :
    Calls Try.prog 38 #[.agg #[.int .i64 W, .int .i64 H, .slice A n c]] w (ThinPost W H n (thinF W H l) 0 w) := by
  have HC1 := Lib.hid (fun W1 (h : Below w.heap.size w W1) => thinned_any W H A l n c W1 ok (hr.below h) hn)
  have HCk := Lib.hid (fun W1 => (show Calls Try.prog 44 #[.agg #[.int .i64 W, .int .i64 H, .slice A n c]] W1 fun e w' => e = .returned (.bool true) ∧ Below W1.heap.size W1 w' by have := valid_any W H A n c W1; rw [ok] at this; exact this))
  have S0 := Lib.hid (((Own.start w).new 34 #[.int .i64 W, .int .i64 H, .slice A n c]).new' 34 #[.int .i64 0, .int .i64 0, .slice none 0 0] (B := w.heap.size + 1) (by simp))
  clear ok hr hn
  go_enter Try.func38, Try.ntmps38
  go_wp2_with fail
  refine (HCk.out _).mono ?_
  rintro e w1 ⟨rfl, hb⟩
  have S1 := Lib.hid (S0.out.ext hb)
  obtain ⟨t0, t1, t2, _⟩ := (S1.out.bx 1 rfl).c3
  have hl := (S1.out.bx 1 rfl).2.2
  clear hb
  go_wp2_with fail
  refine (HC1.out _ S1.out.bel).mono ?_
  rintro e w2 ⟨A1, c1, rfl, hO⟩
  have S2 := Lib.hid ((S1.out.call hO).cast (qs := [row 4 1 (.slice A1 n c1) n (bools (thinF W H l)), box (w.heap.size + 1) 34 [.int .i64 0, .int .i64 0, .slice none 0 0], box w.heap.size 34 [.int .i64 W, .int .i64 H, .slice A n c]]) rfl)
  clear t0 t1 t2 hO hl
  obtain ⟨r0, r1, r2, rf⟩ := (S2.out.bx 1 rfl).c3
  have lr := (S2.out.bx 1 rfl).2.2
  go_wp2_with fail
  have S3 := Lib.hid ((((S2.out.set 1 rfl 0 (.int .i64 W)).set 1 rfl 1 (.int .i64 H)).set 1 rfl 2 (.slice A1 n c1)).sub [0] (by decide) (qs := [row 4 1 (.slice A1 n c1) n (bools (thinF W H l))]) rfl)
  exact bodyPost_ret (v := .tuple #[.agg #[.int .i64 W, .int .i64 H, .slice A1 n c1], .int .i64 0]) (by simp [results, Try.results38, go_sem, *]) rfl ⟨A1, c1, rfl, S3.out⟩
set_option maxHeartbeats 1000000 in
theorem refThin_no (W H : Int) (A : Option Addr) (n c : Nat) (w : World) (ok : sized1B W H n = false) :
    Calls Try.prog 38 #[.agg #[.int .i64 W, .int .i64 H, .slice A n c]] w (ThinPost 0 0 0 [] 10 w) := by
  have HCk := Lib.hid (fun W1 => (show Calls Try.prog 44 #[.agg #[.int .i64 W, .int .i64 H, .slice A n c]] W1 fun e w' => e = .returned (.bool false) ∧ Below W1.heap.size W1 w' by have := valid_any W H A n c W1; rw [ok] at this; exact this))
  have S0 := Lib.hid (((Own.start w).new 34 #[.int .i64 W, .int .i64 H, .slice A n c]).new' 34 #[.int .i64 0, .int .i64 0, .slice none 0 0] (B := w.heap.size + 1) (by simp))
  clear ok
  go_enter Try.func38, Try.ntmps38
  go_wp2_with fail
  refine (HCk.out _).mono ?_
  rintro e w1 ⟨rfl, hb⟩
  have S1 := Lib.hid (S0.out.ext hb)
  clear hb
  obtain ⟨r0, r1, r2, rf⟩ := (S1.out.bx 0 rfl).c3
  have lr := (S1.out.bx 0 rfl).2.2
  go_wp2_with fail
  have S3 := Lib.hid ((((((S1.out.set 0 rfl 0 (.int .i64 0)).set 0 rfl 1 (.int .i64 0)).set 0 rfl 2 (.slice none 0 0)).sub [] (by decide) (qs := []) rfl)).nil 4 1)
  exact bodyPost_ret (v := .tuple #[.agg #[.int .i64 0, .int .i64 0, .slice none 0 0], .int .i64 10]) (by simp [results, Try.results38, go_sem, *]) rfl ⟨none, 0, rfl, S3.out⟩
/-- lonely: at most one neighbour is ridge. -/
def lonelyB (r : Nat → Bool) : Bool := decide (cntN r 8 ≤ 1)
def ringEq (r s : Nat → Bool) : Bool := (List.range 8).all fun i => r i == s i
def ringOne (k : Nat) : Nat → Bool := fun i => decide (i = k)
def b8 (a b c d e f g k : Bool) (n : Nat) : Bool := [a, b, c, d, e, f, g, k].getD n false
theorem lonely_fact : ∀ a b c d e f g k : Bool, ∀ j : Fin 8, ((List.range j.val).all fun i => !b8 a b c d e f g k i) = true → b8 a b c d e f g k j.val = true →
    ringEq (b8 a b c d e f g k) (ringOne j.val) = lonelyB (b8 a b c d e f g k) := by decide +kernel
theorem b8_of (r : Nat → Bool) (i : Nat) (hi : i < 8) : b8 (r 0) (r 1) (r 2) (r 3) (r 4) (r 5) (r 6) (r 7) i = r i := by
  obtain rfl | rfl | rfl | rfl | rfl | rfl | rfl | rfl : i = 0 ∨ i = 1 ∨ i = 2 ∨ i = 3 ∨ i = 4 ∨ i = 5 ∨ i = 6 ∨ i = 7 := by omega
  all_goals rfl
theorem lonely_at (r : Nat → Bool) (j : Nat) (hj : j < 8) (h0 : ∀ i, i < j → r i = false) (h1 : r j = true) : ringEq r (ringOne j) = lonelyB r := by
  have h := lonely_fact (r 0) (r 1) (r 2) (r 3) (r 4) (r 5) (r 6) (r 7) ⟨j, hj⟩ (by
    rw [List.all_eq_true]
    intro i hi
    rw [List.mem_range] at hi
    simp only at hi
    rw [b8_of r i (by omega), h0 i hi]; rfl) (by rw [b8_of r j hj]; exact h1)
  exact h
theorem lonely_none (r : Nat → Bool) (h0 : ∀ i, i < 8 → r i = false) : lonelyB r = true := by
  simp [lonelyB, cntN, h0]
theorem eql_ring (r s : Nat → Bool) (w : World) : (binOp .eql 97 (ringV r) (ringV s)).run Try.prog w = .ok (.bool (ringEq r s)) w := by
  obtain ⟨i0, hi, _⟩ := info_parts info4
  have hc : Try.prog.cellsOf 4 = 1 := by kernel_rfl
  have hpart : ∀ (a b c d e f g k : Bool) (i : Nat), i < 8 → (part 4 #[.bool a, .bool b, .bool c, .bool d, .bool e, .bool f, .bool g, .bool k] (i * 1)).run Try.prog w = .ok (.bool (b8 a b c d e f g k i)) w := by
    intro a b c d e f g k i hi
    obtain rfl | rfl | rfl | rfl | rfl | rfl | rfl | rfl : i = 0 ∨ i = 1 ∨ i = 2 ∨ i = 3 ∨ i = 4 ∨ i = 5 ∨ i = 6 ∨ i = 7 := by omega
    all_goals kernel_rfl
  have key : ∀ is : List Nat, (∀ i ∈ is, i < 8) → (Op.eqItems 9999 4 1 #[.bool (r 0), .bool (r 1), .bool (r 2), .bool (r 3), .bool (r 4), .bool (r 5), .bool (r 6), .bool (r 7)] #[.bool (s 0), .bool (s 1), .bool (s 2), .bool (s 3), .bool (s 4), .bool (s 5), .bool (s 6), .bool (s 7)] is).run Try.prog w = .ok (is.all fun i => r i == s i) w := by
    intro is
    induction is with
    | nil => intro _; rfl
    | cons i is ih =>
      intro h
      have h8 := h i (by simp)
      simp only [Op.eqItems, Sem.run_bind, hpart _ _ _ _ _ _ _ _ i h8, Result.andThen_ok, run_equalIn_bool w 9998 4 _ _ Try.underlying4, b8_of _ i h8, List.all_cons]
      cases hb : (r i == s i)
      · simp
      · simpa using ih fun j hj => h j (by simp [hj])
  unfold ringV
  rw [run_eql_struct, run_equalIn_array w 9999 _ _ Try.underlying97 hi, hc, key _ (by simp)]
  rfl
theorem index_ring (w : World) (r : Nat → Bool) (k : Nat) (h : k < 8) : (Instr.index 97 (ringV r) (.int .i64 (k : Int))).run Try.prog w = .ok (.bool (r k)) w := by
  obtain rfl | rfl | rfl | rfl | rfl | rfl | rfl | rfl : k = 0 ∨ k = 1 ∨ k = 2 ∨ k = 3 ∨ k = 4 ∨ k = 5 ∨ k = 6 ∨ k = 7 := by omega
  all_goals kernel_rfl
set_option maxRecDepth 100000 in
set_option maxHeartbeats 1000000 in
theorem lonely_any (r : Nat → Bool) (w : World) : Calls Try.prog 71 #[ringV r] w fun e w' => e = .returned (.bool (lonelyB r)) ∧ Below w.heap.size w w' := by
  have S0 := Lib.hid ((Own.start w).new 97 #[.bool (r 0), .bool (r 1), .bool (r 2), .bool (r 3), .bool (r 4), .bool (r 5), .bool (r 6), .bool (r 7)])
  unfold ringV
  go_enter Try.func71, Try.ntmps71
  go_wp2_with fail
  generalize w.alloc (.cells #[.bool (r 0), .bool (r 1), .bool (r 2), .bool (r 3), .bool (r 4), .bool (r 5), .bool (r 6), .bool (r 7)] 97) = W0 at *
  go_loopg [7] 8 (fun q u7 wr => ∃ k : Nat, k ≤ 8 ∧ u7 = .int .i64 k ∧ W0 = wr ∧ Hid (k + q = 8 ∧ ∀ i, i < k → r i = false))
  case atStart => exact ⟨0, by omega, rfl, rfl, by omega, fun i h => by omega⟩
  case round =>
    obtain ⟨k, hk, rfl, rfl, hI⟩ := hrel
    have I1 := Lib.hid hI.out.1
    have I2 := Lib.hid hI.out.2
    clear hI
    by_cases hlt : k < 8
    · have hix : ∀ W, (Instr.index 97 (.agg #[.bool (r 0), .bool (r 1), .bool (r 2), .bool (r 3), .bool (r 4), .bool (r 5), .bool (r 6), .bool (r 7)]) (.int .i64 (k : Int))).run Try.prog W = .ok (.bool (r k)) W := fun W => index_ring W r k hlt
      cases hr : r k
      · rw [hr] at hix
        have HR := Lib.hid hr
        clear hr
        go_wp2_with fail
        go_roundg (gk - 1)
        case measure => have := I1.out; omega
        case rel => exact ⟨k + 1, by omega, by go_num, rfl, by have := I1.out; omega, fun i h => by
          by_cases e : i = k
          · rw [e]; exact HR.out
          · exact I2.out i (by omega)⟩
      · rw [hr] at hix
        have HL := Lib.hid (lonely_at r k hlt I2.out hr)
        have c0 := (S0.out.bx 0 rfl).1 0 _ rfl
        have c1 := (S0.out.bx 0 rfl).1 1 _ rfl
        have c2 := (S0.out.bx 0 rfl).1 2 _ rfl
        have c3 := (S0.out.bx 0 rfl).1 3 _ rfl
        have c4 := (S0.out.bx 0 rfl).1 4 _ rfl
        have c5 := (S0.out.bx 0 rfl).1 5 _ rfl
        have c6 := (S0.out.bx 0 rfl).1 6 _ rfl
        have c7 := (S0.out.bx 0 rfl).1 7 _ rfl
        have hl := (S0.out.bx 0 rfl).2.2
        have HR := Lib.hid hr
        clear hr
        obtain rfl | rfl | rfl | rfl | rfl | rfl | rfl | rfl : k = 0 ∨ k = 1 ∨ k = 2 ∨ k = 3 ∨ k = 4 ∨ k = 5 ∨ k = 6 ∨ k = 7 := by omega
        · have hq : ∀ W, (binOp .eql 97 (.agg #[.bool (r 0), .bool (r 1), .bool (r 2), .bool (r 3), .bool (r 4), .bool (r 5), .bool (r 6), .bool (r 7)]) (.agg #[.bool true, .bool false, .bool false, .bool false, .bool false, .bool false, .bool false, .bool false])).run Try.prog W = .ok (.bool (lonelyB r)) W := fun W => by rw [← HL.out]; exact eql_ring r (ringOne 0) W
          have hix2 : ∀ W, (Instr.index 97 (.agg #[.bool (r 0), .bool (r 1), .bool (r 2), .bool (r 3), .bool (r 4), .bool (r 5), .bool (r 6), .bool (r 7)]) (.int .i64 0)).run Try.prog W = .ok (.bool true) W := fun W => hix W
          clear hix
          go_wp2_with fail
          go_ret
          exact ⟨rfl, ((S0.out.bel).alloc S0.out.size _)⟩
        · have hq : ∀ W, (binOp .eql 97 (.agg #[.bool (r 0), .bool (r 1), .bool (r 2), .bool (r 3), .bool (r 4), .bool (r 5), .bool (r 6), .bool (r 7)]) (.agg #[.bool false, .bool true, .bool false, .bool false, .bool false, .bool false, .bool false, .bool false])).run Try.prog W = .ok (.bool (lonelyB r)) W := fun W => by rw [← HL.out]; exact eql_ring r (ringOne 1) W
          have hix2 : ∀ W, (Instr.index 97 (.agg #[.bool (r 0), .bool (r 1), .bool (r 2), .bool (r 3), .bool (r 4), .bool (r 5), .bool (r 6), .bool (r 7)]) (.int .i64 1)).run Try.prog W = .ok (.bool true) W := fun W => hix W
          clear hix
          go_wp2_with fail
          go_ret
          exact ⟨rfl, ((S0.out.bel).alloc S0.out.size _)⟩
        · have hq : ∀ W, (binOp .eql 97 (.agg #[.bool (r 0), .bool (r 1), .bool (r 2), .bool (r 3), .bool (r 4), .bool (r 5), .bool (r 6), .bool (r 7)]) (.agg #[.bool false, .bool false, .bool true, .bool false, .bool false, .bool false, .bool false, .bool false])).run Try.prog W = .ok (.bool (lonelyB r)) W := fun W => by rw [← HL.out]; exact eql_ring r (ringOne 2) W
          have hix2 : ∀ W, (Instr.index 97 (.agg #[.bool (r 0), .bool (r 1), .bool (r 2), .bool (r 3), .bool (r 4), .bool (r 5), .bool (r 6), .bool (r 7)]) (.int .i64 2)).run Try.prog W = .ok (.bool true) W := fun W => hix W
          clear hix
          go_wp2_with fail
          go_ret
          exact ⟨rfl, ((S0.out.bel).alloc S0.out.size _)⟩
        · have hq : ∀ W, (binOp .eql 97 (.agg #[.bool (r 0), .bool (r 1), .bool (r 2), .bool (r 3), .bool (r 4), .bool (r 5), .bool (r 6), .bool (r 7)]) (.agg #[.bool false, .bool false, .bool false, .bool true, .bool false, .bool false, .bool false, .bool false])).run Try.prog W = .ok (.bool (lonelyB r)) W := fun W => by rw [← HL.out]; exact eql_ring r (ringOne 3) W
          have hix2 : ∀ W, (Instr.index 97 (.agg #[.bool (r 0), .bool (r 1), .bool (r 2), .bool (r 3), .bool (r 4), .bool (r 5), .bool (r 6), .bool (r 7)]) (.int .i64 3)).run Try.prog W = .ok (.bool true) W := fun W => hix W
          clear hix
          go_wp2_with fail
          go_ret
          exact ⟨rfl, ((S0.out.bel).alloc S0.out.size _)⟩
        · have hq : ∀ W, (binOp .eql 97 (.agg #[.bool (r 0), .bool (r 1), .bool (r 2), .bool (r 3), .bool (r 4), .bool (r 5), .bool (r 6), .bool (r 7)]) (.agg #[.bool false, .bool false, .bool false, .bool false, .bool true, .bool false, .bool false, .bool false])).run Try.prog W = .ok (.bool (lonelyB r)) W := fun W => by rw [← HL.out]; exact eql_ring r (ringOne 4) W
          have hix2 : ∀ W, (Instr.index 97 (.agg #[.bool (r 0), .bool (r 1), .bool (r 2), .bool (r 3), .bool (r 4), .bool (r 5), .bool (r 6), .bool (r 7)]) (.int .i64 4)).run Try.prog W = .ok (.bool true) W := fun W => hix W
          clear hix
          go_wp2_with fail
          go_ret
          exact ⟨rfl, ((S0.out.bel).alloc S0.out.size _)⟩
        · have hq : ∀ W, (binOp .eql 97 (.agg #[.bool (r 0), .bool (r 1), .bool (r 2), .bool (r 3), .bool (r 4), .bool (r 5), .bool (r 6), .bool (r 7)]) (.agg #[.bool false, .bool false, .bool false, .bool false, .bool false, .bool true, .bool false, .bool false])).run Try.prog W = .ok (.bool (lonelyB r)) W := fun W => by rw [← HL.out]; exact eql_ring r (ringOne 5) W
          have hix2 : ∀ W, (Instr.index 97 (.agg #[.bool (r 0), .bool (r 1), .bool (r 2), .bool (r 3), .bool (r 4), .bool (r 5), .bool (r 6), .bool (r 7)]) (.int .i64 5)).run Try.prog W = .ok (.bool true) W := fun W => hix W
          clear hix
          go_wp2_with fail
          go_ret
          exact ⟨rfl, ((S0.out.bel).alloc S0.out.size _)⟩
        · have hq : ∀ W, (binOp .eql 97 (.agg #[.bool (r 0), .bool (r 1), .bool (r 2), .bool (r 3), .bool (r 4), .bool (r 5), .bool (r 6), .bool (r 7)]) (.agg #[.bool false, .bool false, .bool false, .bool false, .bool false, .bool false, .bool true, .bool false])).run Try.prog W = .ok (.bool (lonelyB r)) W := fun W => by rw [← HL.out]; exact eql_ring r (ringOne 6) W
          have hix2 : ∀ W, (Instr.index 97 (.agg #[.bool (r 0), .bool (r 1), .bool (r 2), .bool (r 3), .bool (r 4), .bool (r 5), .bool (r 6), .bool (r 7)]) (.int .i64 6)).run Try.prog W = .ok (.bool true) W := fun W => hix W
          clear hix
          go_wp2_with fail
          go_ret
          exact ⟨rfl, ((S0.out.bel).alloc S0.out.size _)⟩
        · have hq : ∀ W, (binOp .eql 97 (.agg #[.bool (r 0), .bool (r 1), .bool (r 2), .bool (r 3), .bool (r 4), .bool (r 5), .bool (r 6), .bool (r 7)]) (.agg #[.bool false, .bool false, .bool false, .bool false, .bool false, .bool false, .bool false, .bool true])).run Try.prog W = .ok (.bool (lonelyB r)) W := fun W => by rw [← HL.out]; exact eql_ring r (ringOne 7) W
          have hix2 : ∀ W, (Instr.index 97 (.agg #[.bool (r 0), .bool (r 1), .bool (r 2), .bool (r 3), .bool (r 4), .bool (r 5), .bool (r 6), .bool (r 7)]) (.int .i64 7)).run Try.prog W = .ok (.bool true) W := fun W => hix W
          clear hix
          go_wp2_with fail
          go_ret
          exact ⟨rfl, ((S0.out.bel).alloc S0.out.size _)⟩
    · obtain rfl : k = 8 := by omega
      have HL := Lib.hid (lonely_none r I2.out)
      go_wp2_with fail
      go_ret
      exact ⟨by rw [HL.out]; rfl, S0.out.bel⟩
end Go.Proofs.Ytjelnbfnoliocaa
