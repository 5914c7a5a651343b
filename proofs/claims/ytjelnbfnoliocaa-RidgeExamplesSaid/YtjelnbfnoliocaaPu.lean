/- Ridge: comparing traces of one size; thinning of the reference, pass after pass. No condition. -/
import Derived.Test.YtjelnbfnoliocaaPt
namespace Go.Proofs.Ytjelnbfnoliocaa
open Go.RowKit

theorem eq_take {l l' : List Bool} {k : Nat} (h1 : k < l.length) (h2 : k < l'.length) (h : l.take k = l'.take k) : (l[k] = l'[k] → l.take (k + 1) = l'.take (k + 1)) ∧ (l[k] ≠ l'[k] → l ≠ l') := by
  refine ⟨fun e => ?_, fun e e2 => ?_⟩
  · rw [List.take_succ_eq_append_getElem h1, List.take_succ_eq_append_getElem h2, h, e]
  · subst e2; exact e rfl
set_option maxRecDepth 100000 in
set_option maxHeartbeats 1000000 in
theorem sameBools_len (A A' : Option Addr) (l l' : List Bool) (n c c' : Nat) (w : World) (hr : Rd w A (bools l)) (hr' : Rd w A' (bools l')) (hn : n = l.length) (hn' : n = l'.length) (hl : n ≤ 4611686018427387904) :
    Calls Try.prog 25 #[.slice A n c, .slice A' n c'] w fun e w' => e = .returned (.bool (decide (l = l'))) ∧ Below w.heap.size w w' := by
  have HR := Lib.hid hr
  have HR' := Lib.hid hr'
  have HN := Lib.hid hn
  have HN' := Lib.hid hn'
  clear hr hr' hn hn'
  go_enter Try.func25, Try.ntmps25
  go_wp2_with fail
  go_loopg [5] n (fun q u5 wr => ∃ (k m : Nat), k ≤ n ∧ u5 = .int .i64 k ∧ wr = w.drewN m ∧ Hid (k + q = n ∧ l.take k = l'.take k))
  case atStart => exact ⟨0, 0, Nat.zero_le _, rfl, rfl, by omega, rfl⟩
  case round =>
    obtain ⟨k, m, hk, rfl, rfl, hI⟩ := hrel
    have I1 := Lib.hid hI.out.1
    have I2 := Lib.hid hI.out.2
    clear hI
    by_cases hlt : k < n
    · have h1 : k < l.length := by rw [← HN.out]; exact hlt
      have h2 : k < l'.length := by rw [← HN'.out]; exact hlt
      obtain ⟨b, off, rfl, hbs, hc⟩ := HR.out.at_ (bools_get h1)
      obtain ⟨b', off', rfl, hbs', hc'⟩ := HR'.out.at_ (bools_get h2)
      have k0 := hc k _ (bools_get h1)
      have k1 := hc' k _ (bools_get h2)
      have i1 : (k : Int) < (n : Int) := by omega
      have HE := Lib.hid (eq_take h1 h2 I2.out)
      clear hc hc'
      generalize l[k] = x at *
      generalize l'[k] = y at *
      cases x <;> cases y
      all_goals
        go_wp2_with fail
        go_quiet (fail)
        go_wp2_with fail
        first
          | (go_roundg (gk - 1)
             case measure => have := I1.out; omega
             case rel => exact ⟨k + 1, _, by omega, by go_num, rfl, by have := I1.out; omega, HE.out.1 (by trivial)⟩)
          | (go_ret
             exact ⟨by rw [decide_eq_false (HE.out.2 (by decide))]; rfl, below_drewN (below_drewN (Below.refl _ _) _) _⟩)
    · obtain rfl : k = n := by omega
      have HE := Lib.hid (show l = l' by have := I2.out; rwa [List.take_of_length_le (by rw [HN.out]; omega), List.take_of_length_le (by rw [HN'.out]; omega)] at this)
      go_wp2_with fail
      go_ret
      exact ⟨by rw [decide_eq_true HE.out]; rfl, below_drewN (Below.refl _ _) _⟩
set_option maxHeartbeats 1000000 in
theorem same_len (W H : Int) (A A' : Option Addr) (l l' : List Bool) (n c c' : Nat) (w : World) (hr : Rd w A (bools l)) (hr' : Rd w A' (bools l')) (hn : n = l.length) (hn' : n = l'.length) (hl : n ≤ 4611686018427387904) :
    Calls Try.prog 22 #[.agg #[.int .i64 W, .int .i64 H, .slice A n c], .agg #[.int .i64 W, .int .i64 H, .slice A' n c']] w fun e w' => e = .returned (.bool (decide (l = l'))) ∧ Below w.heap.size w w' := by
  have HB := below_more (below_alloc w (.cells #[.int .i64 W, .int .i64 H, .slice A n c] 34)) (.cells #[.int .i64 W, .int .i64 H, .slice A' n c'] 34)
  have HC := Lib.hid (sameBools_len A A' l l' n c c' _ (hr.below HB) (hr'.below HB) hn hn' hl)
  clear hr hr' hn hn'
  generalize decide (l = l') = d at *
  go_enter Try.func22, Try.ntmps22
  go_wp2_with fail
  refine HC.out.mono ?_
  rintro e w1 ⟨rfl, hb1⟩
  go_wp2_with fail
  go_ret
  exact ⟨rfl, below_step HB hb1⟩

set_option maxRecDepth 100000 in
set_option maxHeartbeats 4000000 in
theorem thinned_any (W H : Int) (A : Option Addr) (l : List Bool) (n c : Nat) (w : World) (hv : sized1B W H n = true) (hr : Rd w A (bools l)) (hn : n = l.length) :
    Calls Try.prog 72 #[.agg #[.int .i64 W, .int .i64 H, .slice A n c]] w (PassPost W H n (thinF W H l) w) := by
  obtain ⟨hW, hH, hWH⟩ := valid_bd hv
  have hWHb : W * H ≤ 20 * 20 := Int.mul_le_mul (by omega) (by omega) (by omega) (by omega)
  have hn400 : n ≤ 400 := by omega
  have CP := Lib.hid (fun (d : Nat) A1 T c1 W1 (h : Rd W1 A1 (bools T)) h0 hd => passed_any W H d A1 T n c1 W1 hv h h0 hd)
  have CS := Lib.hid (fun A1 A2 T T' c1 c2 W1 (h : Rd W1 A1 (bools T)) (h' : Rd W1 A2 (bools T')) h0 h0' => same_len W H A1 A2 T T' n c1 c2 W1 h h' h0 h0' (by omega))
  have S0 := Lib.hid (((Own.start w).new 34 #[.int .i64 W, .int .i64 H, .slice A n c]).new' 34 #[.int .i64 0, .int .i64 0, .slice none 0 0] (B := w.heap.size + 1) (by simp))
  have HR := Lib.hid (fun W1 (h : Own w W1 []) => hr.below h.bel)
  have HN := Lib.hid hn
  clear hv hr hn hWH hWHb
  go_enter Try.func72, Try.ntmps72
  go_wp2_with fail
  generalize (w.alloc _).alloc _ = w0 at *
  go_loopg [] (trueN l + 1) (fun k wr => ∃ (A1 : Option Addr) (c1 : Nat) (T : List Bool) (extra : List Piece), Hid (Own w wr (box (w.heap.size + 1) 34 [.int .i64 0, .int .i64 0, .slice none 0 0] :: box w.heap.size 34 [.int .i64 W, .int .i64 H, .slice A1 n c1] :: extra) ∧ (∀ W1, Own w W1 extra → Rd W1 A1 (bools T)) ∧ n = T.length ∧ thinF W H T = thinF W H l ∧ trueN T + 1 ≤ k))
  case atStart => exact ⟨A, c, l, [], S0.out, HR.out, HN.out, rfl, Nat.le_refl _⟩
  case round =>
    obtain ⟨A1, c1, T, extra, hI⟩ := hrel
    have I1 := Lib.hid hI.out.1
    have I2 := Lib.hid hI.out.2.1
    have I3 := Lib.hid hI.out.2.2.1
    have I4 := Lib.hid hI.out.2.2.2.1
    have I5 := Lib.hid hI.out.2.2.2.2
    clear hI
    obtain ⟨t0, t1, t2, _⟩ := (I1.out.bx 1 rfl).c3
    have lt := (I1.out.bx 1 rfl).2.2
    go_wp2_with fail
    refine (CP.out 6 A1 T c1 _ (I2.out _ I1.out.tail.tail) I3.out (by omega)).mono ?_
    rintro e w1 ⟨B1, d1, rfl, hO⟩
    have S1 := Lib.hid (I1.out.call hO)
    clear hO t0 t1 t2 lt
    go_wp2_with fail
    refine (CP.out 2 B1 _ d1 _ (S1.out.rd 0 rfl) (by rw [passF_len]; exact I3.out) (by omega)).mono ?_
    rintro e w2 ⟨B2, d2, rfl, hO⟩
    have S2 := Lib.hid (S1.out.call hO)
    clear hO
    go_wp2_with fail
    refine (CP.out 0 B2 _ d2 _ (S2.out.rd 0 rfl) (by rw [passF_len, passF_len]; exact I3.out) (by omega)).mono ?_
    rintro e w3 ⟨B3, d3, rfl, hO⟩
    have S3 := Lib.hid (S2.out.call hO)
    clear hO
    go_wp2_with fail
    refine (CP.out 4 B3 _ d3 _ (S3.out.rd 0 rfl) (by rw [passF_len, passF_len, passF_len]; exact I3.out) (by omega)).mono ?_
    rintro e w4 ⟨B4, d4, rfl, hO⟩
    have S4 := Lib.hid ((S3.out.call hO).sub [0, 4, 5] (by decide) (qs := [row 4 1 (.slice B4 n d4) n (bools (pass4 W H T)), box (w.heap.size + 1) 34 [.int .i64 0, .int .i64 0, .slice none 0 0], box w.heap.size 34 [.int .i64 W, .int .i64 H, .slice A1 n c1]]) rfl)
    have R4 := Lib.hid (I2.out _ ((S3.out.call hO).dropLast (qs := [row 4 1 (.slice B4 n d4) n (bools (pass4 W H T)), row 4 1 (.slice B3 n d3) n (bools (passF W H (passF W H (passF W H T 6) 2) 0)), row 4 1 (.slice B2 n d2) n (bools (passF W H (passF W H T 6) 2)), row 4 1 (.slice B1 n d1) n (bools (passF W H T 6)), box (w.heap.size + 1) 34 [.int .i64 0, .int .i64 0, .slice none 0 0], box w.heap.size 34 [.int .i64 W, .int .i64 H, .slice A1 n c1]])))
    clear hO S1 S2 S3 I1
    obtain ⟨t0, t1, t2, _⟩ := (S4.out.bx 2 rfl).c3
    have lt := (S4.out.bx 2 rfl).2.2
    have S5 := Lib.hid (S4.out.new' 34 #[.int .i64 W, .int .i64 H, .slice B4 n d4] (B := w4.heap.size) rfl)
    have R5 := Lib.hid (R4.out.below (below_alloc w4 (.cells #[.int .i64 W, .int .i64 H, .slice B4 n d4] 34)))
    go_wp2_with fail
    generalize w4.alloc (.cells #[.int .i64 W, .int .i64 H, .slice B4 n d4] 34) = w5 at *
    generalize w4.heap.size = X at *
    clear t0 t1 t2 lt S4 R4
    refine (CS.out B4 A1 (pass4 W H T) T d4 c1 _ (S5.out.rd 1 rfl) R5.out (by rw [pass4_len]; exact I3.out) I3.out).mono ?_
    rintro e w6 ⟨rfl, hb6⟩
    have S6 := Lib.hid (S5.out.ext hb6)
    clear hb6 S5 R5
    obtain ⟨t0, t1, t2, _⟩ := (S6.out.bx 0 rfl).c3
    have lt := (S6.out.bx 0 rfl).2.2
    by_cases hsame : pass4 W H T = T
    · have HS := Lib.hid hsame
      rw [decide_eq_true hsame]
      clear hsame
      obtain ⟨r0, r1, r2, rf⟩ := (S6.out.bx 2 rfl).c3
      have lr := (S6.out.bx 2 rfl).2.2
      go_wp2_with fail
      have S7 := Lib.hid ((((S6.out.set 2 rfl 0 (.int .i64 W)).set 2 rfl 1 (.int .i64 H)).set 2 rfl 2 (.slice B4 n d4)).sub [1] (by decide) (qs := [row 4 1 (.slice B4 n d4) n (bools (pass4 W H T))]) rfl)
      refine bodyPost_ret (v := .agg #[.int .i64 W, .int .i64 H, .slice B4 n d4]) (by simp [results, Try.results72, go_sem, *]) rfl ⟨B4, d4, rfl, ?_⟩
      rw [← I4.out, thinF_stop HS.out]
      have := S7.out
      rw [HS.out] at this
      exact this
    · have HS := Lib.hid (show trueN (pass4 W H T) < trueN T by
        have h1 := pass4_true W H T
        rcases Nat.lt_or_ge (trueN (pass4 W H T)) (trueN T) with h2 | h2
        · exact h2
        · exact absurd (h1.2 (by omega)) hsame)
      rw [decide_eq_false hsame]
      clear hsame
      obtain ⟨r0, r1, r2, rf⟩ := (S6.out.bx 3 rfl).c3
      have lr := (S6.out.bx 3 rfl).2.2
      go_wp2_with fail
      go_roundg (gk - 1)
      case measure => have := HS.out; have := I5.out; omega
      case rel => exact ⟨B4, d4, pass4 W H T, [row 4 1 (.slice B4 n d4) n (bools (pass4 W H T))],
        (((S6.out.set 3 rfl 0 (.int .i64 W)).set 3 rfl 1 (.int .i64 H)).set 3 rfl 2 (.slice B4 n d4)).sub [2, 3, 1] (by decide) rfl,
        fun W1 h => h.rd 0 rfl, by rw [pass4_len]; exact I3.out, by rw [thinF_step]; exact I4.out, by have := HS.out; have := I5.out; omega⟩
end Go.Proofs.Ytjelnbfnoliocaa
