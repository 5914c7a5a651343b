/- Ridge: Thin refuses; the first neighbour, of the program and of the specification. No condition. -/
import Derived.Test.YtjelnbfnoliocaaPw
namespace Go.Proofs.Ytjelnbfnoliocaa
open Go.RowKit Go.Shelf
attribute [local go_sem] Oper.semAt_some

set_option maxRecDepth 100000 in
set_option maxHeartbeats 1000000 in
theorem thin_no (W H : Int) (A : Option Addr) (n c : Nat) (w : World) (ok : sized1B W H n = false) :
    Calls Try.prog 37 #[.agg #[.int .i64 W, .int .i64 H, .slice A n c]] w (ThinPost 0 0 0 [] 10 w) := by
  have HCk := Lib.hid (fun W1 => (show Calls Try.prog 31 #[.agg #[.int .i64 W, .int .i64 H, .slice A n c]] W1 fun e w' => e = .returned (.int .i64 10) ∧ Below W1.heap.size W1 w' by have := check_any W H A n c W1; rw [ok] at this; exact this))
  have S0 := Lib.hid (((Own.start w).new 34 #[.int .i64 W, .int .i64 H, .slice A n c]).new' 34 #[.int .i64 0, .int .i64 0, .slice none 0 0] (B := w.heap.size + 1) (by simp))
  obtain ⟨t0, t1, t2, _⟩ := (S0.out.bx 1 rfl).c3
  clear ok
  refine calls_of_wp_marks Try.func37 rfl ?_
  simp only [Try.ntmps37, List.size_toArray, List.length_cons, List.length_nil, Nat.reduceAdd, Nat.reduceSub, Array.replicate_succ, Array.replicate_zero, List.push_toArray, List.append_toArray, List.nil_append, List.cons_append]
  go_wp2_with fail
  refine (HCk.out _).mono ?_
  rintro e w1 ⟨rfl, hb1⟩
  have S1 := Lib.hid (S0.out.ext hb1)
  clear t0 t1 t2 hb1
  obtain ⟨r0, r1, r2, rf⟩ := (S1.out.bx 0 rfl).c3
  have lr := (S1.out.bx 0 rfl).2.2
  go_wp2_with fail
  have S3 := Lib.hid (((S1.out.set 0 rfl 0 (.int .i64 0)).set 0 rfl 1 (.int .i64 0)).set 0 rfl 2 (.slice none 0 0))
  refine leaves_marks (ps := [box (w.heap.size + 1) 34 [.int .i64 0, .int .i64 0, .slice none 0 0], box w.heap.size 34 [.int .i64 W, .int .i64 H, .slice A n c]]) (fun w' h => ?_) [] _ S3.out
  refine ⟨.tuple #[.agg #[.int .i64 0, .int .i64 0, .slice none 0 0], .int .i64 10], ?_, none, 0, rfl, ?_⟩
  · obtain ⟨q0, q1, q2, _⟩ := (h.bx 0 rfl).c3
    simp [results, Try.results37, go_sem, q0, q1, q2]
  · exact (h.sub [] (by decide) (qs := []) rfl).nil 4 1

/-- the least neighbour that is ridge, 0 where there is none. -/
def firstN (r : Nat → Bool) : Nat := ((List.range 8).find? r).getD 0
theorem first_fact : ∀ a b c d e f g k : Bool, ∀ j : Fin 8, ((List.range j.val).all fun i => !b8 a b c d e f g k i) = true → b8 a b c d e f g k j.val = true →
    firstN (b8 a b c d e f g k) = j.val := by decide +kernel
theorem firstN_congr {r s : Nat → Bool} (h : ∀ i, i < 8 → r i = s i) : firstN r = firstN s := by
  have g : ∀ L : List Nat, (∀ i ∈ L, r i = s i) → L.find? r = L.find? s := by
    intro L
    induction L with
    | nil => intro _; rfl
    | cons a t ih => intro h; rw [List.find?_cons, List.find?_cons, h a (by simp), ih fun i hi => h i (by simp [hi])]
  have e := g (List.range 8) fun i hi => h i (List.mem_range.1 hi)
  rw [firstN, firstN, e]
theorem firstN_at (r : Nat → Bool) (j : Nat) (hj : j < 8) (h0 : ∀ i, i < j → r i = false) (h1 : r j = true) : firstN r = j := by
  have e := firstN_congr (r := r) (s := b8 (r 0) (r 1) (r 2) (r 3) (r 4) (r 5) (r 6) (r 7)) fun i hi => (b8_of r i hi).symm
  rw [e]
  exact first_fact (r 0) (r 1) (r 2) (r 3) (r 4) (r 5) (r 6) (r 7) ⟨j, hj⟩ (by
    rw [List.all_eq_true]
    intro i hi
    rw [List.mem_range] at hi
    simp only at hi
    rw [b8_of r i (by omega), h0 i hi]; rfl) (by rw [b8_of r j hj]; exact h1)
theorem firstN_none (r : Nat → Bool) (h0 : ∀ i, i < 8 → r i = false) : firstN r = 0 := by
  rw [firstN, List.find?_eq_none.2]
  · rfl
  · intro i hi
    rw [List.mem_range] at hi
    simp [h0 i hi]
theorem firstN_lt (r : Nat → Bool) : firstN r < 8 := by
  unfold firstN
  cases h : (List.range 8).find? r with
  | none => decide
  | some i => exact List.mem_range.1 (List.mem_of_find?_eq_some h)
set_option maxRecDepth 100000 in
set_option maxHeartbeats 1000000 in
theorem first_any (W H x y : Int) (A : Option Addr) (l : List Bool) (n c : Nat) (w : World) (hv : sized1B W H n = true) (hr : Rd w A (bools l)) (hn : n = l.length) (hx : -1 ≤ x ∧ x ≤ 20) (hy : -1 ≤ y ∧ y ≤ 20) :
    Calls Try.prog 74 #[.agg #[.int .i64 W, .int .i64 H, .slice A n c], .int .i64 x, .int .i64 y] w fun e w' => e = .returned (.int .u8 (firstN (nbF W H l x y) : Nat)) ∧ Below w.heap.size w w' := by
  have HC := Lib.hid (fun (d : Nat) W1 (hb : Below w.heap.size w W1) (hd : d ≤ 20) => near_any W H x y d d A l n c W1 hv (hr.below hb) hn hx hy rfl hd)
  clear hv hr hn
  have S0 := Lib.hid ((Own.start w).new 34 #[.int .i64 W, .int .i64 H, .slice A n c])
  generalize nbF W H l x y = r at *
  go_enter Try.func74, Try.ntmps74
  go_wp2_with fail
  generalize w.alloc _ = W0 at *
  go_loopg [7] 8 (fun q u7 wr => ∃ k : Nat, k ≤ 8 ∧ u7 = .int .i64 k ∧ Hid (Own w wr [box w.heap.size 34 [.int .i64 W, .int .i64 H, .slice A n c]]) ∧ Hid (k + q = 8 ∧ ∀ i, i < k → r i = false))
  case atStart => exact ⟨0, by omega, rfl, S0, by omega, fun i h => by omega⟩
  case round =>
    obtain ⟨k, hk, rfl, S1, hI⟩ := hrel
    have I1 := Lib.hid hI.out.1
    have I2 := Lib.hid hI.out.2
    clear hI
    obtain ⟨t0, t1, t2, _⟩ := (S1.out.bx 0 rfl).c3
    by_cases hlt : k < 8
    · have C0 := Lib.hid (HC.out k)
      cases hr : r k
      · rw [hr] at C0
        have HR := Lib.hid hr
        clear hr
        go_wp2_with fail
        refine (C0.out _ S1.out.bel (by omega)).mono ?_
        rintro e w2 ⟨rfl, hb2⟩
        have S2 := Lib.hid (S1.out.ext hb2)
        clear hb2 t0 t1 t2
        go_wp2_with fail
        go_roundg (gk - 1)
        case measure => have := I1.out; omega
        case rel => exact ⟨k + 1, by omega, by go_num, S2, by have := I1.out; omega, fun i h => by
          by_cases e : i = k
          · rw [e]; exact HR.out
          · exact I2.out i (by omega)⟩
      · rw [hr] at C0
        have HL := Lib.hid (firstN_at r k hlt I2.out hr)
        clear hr
        have y3 : IntKind.u8.wrap (k : Int) = k := IntWalk.u8_in _ (by omega)
        go_wp2_with fail
        refine (C0.out _ S1.out.bel (by omega)).mono ?_
        rintro e w2 ⟨rfl, hb2⟩
        have S2 := Lib.hid (S1.out.ext hb2)
        clear hb2 t0 t1 t2
        go_wp2_with fail
        go_ret
        exact ⟨by rw [HL.out]; rfl, S2.out.bel⟩
    · obtain rfl : k = 8 := by omega
      have HL := Lib.hid (firstN_none r I2.out)
      go_wp2_with fail
      go_ret
      exact ⟨by rw [HL.out]; rfl, S1.out.bel⟩
theorem cross_none (r : Nat → Bool) (h0 : ∀ i, i < 8 → r i = false) : crossN r 8 = 0 := by
  simp [crossN, h0]
set_option maxRecDepth 100000 in
set_option maxHeartbeats 1000000 in
/-- slices.Index of true in a row of bits. -/
theorem index_any (A : Option Addr) (l : List Bool) (n c : Nat) (w : World) (hr : Rd w A (bools l)) (hn : n = l.length) (h8 : n = 8) (r : Nat → Bool) (hl : ∀ (i : Nat) (h : i < l.length), l[i] = r i) :
    Calls Try.prog 73 #[.slice A n c, .bool true] w fun e w' => ∃ z : Int, e = .returned (.int .i64 z) ∧ w = w' ∧ -1 ≤ z ∧ z ≤ 7 ∧ (crossN r 8 ≠ 0 → z = (firstN r : Nat)) := by
  subst h8
  have HR := Lib.hid hr
  have HN := Lib.hid hn
  have HV := Lib.hid hl
  clear hr hn hl
  go_enter Try.func73, Try.ntmps73
  go_wp2_with fail
  go_loopg [8] 8 (fun q u8 wr => ∃ (k : Nat), k ≤ 8 ∧ u8 = .int .i64 k ∧ w = wr ∧ Hid (k + q = 8 ∧ ∀ i, i < k → r i = false))
  case atStart => exact ⟨0, Nat.zero_le _, rfl, rfl, by omega, fun i h => by omega⟩
  case round =>
    obtain ⟨k, hk, rfl, rfl, hI⟩ := hrel
    have I1 := Lib.hid hI.out.1
    have I2 := Lib.hid hI.out.2
    clear hI
    by_cases hlt : k < 8
    · have h1 : k < l.length := by rw [← HN.out]; exact hlt
      obtain ⟨b, off, rfl, hbs, hc⟩ := HR.out.at_ (bools_get h1)
      have k0 := hc k _ (bools_get h1)
      rw [HV.out k h1] at k0
      clear hc
      cases hr : r k
      · rw [hr] at k0
        have HQ := Lib.hid hr
        clear hr
        go_wp2_with fail
        go_roundg (gk - 1)
        case measure => have := I1.out; omega
        case rel => exact ⟨k + 1, by omega, by go_num, rfl, by have := I1.out; omega, fun i h => by
          by_cases e : i = k
          · rw [e]; exact HQ.out
          · exact I2.out i (by omega)⟩
      · rw [hr] at k0
        have HL := Lib.hid (firstN_at r k hlt I2.out hr)
        clear hr
        go_wp2_with fail
        go_ret
        exact ⟨k, rfl, rfl, by omega, by omega, fun _ => by rw [HL.out]⟩
    · obtain rfl : k = 8 := by omega
      have HL := Lib.hid (cross_none r I2.out)
      go_wp2_with fail
      go_ret
      exact ⟨-1, rfl, rfl, by omega, by omega, fun h => absurd HL.out h⟩
end Go.Proofs.Ytjelnbfnoliocaa
