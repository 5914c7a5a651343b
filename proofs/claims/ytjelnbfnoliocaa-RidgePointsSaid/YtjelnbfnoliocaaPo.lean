/- RidgePoints: the walk of the law. No condition. -/
import Derived.Test.YtjelnbfnoliocaaPn
import Derived.Test.YtjelnbfnoliocaaPf
import Derived.Test.YtjelnbfnoliocaaBh
namespace Go.Proofs.Ytjelnbfnoliocaa
open Go.RowKit

set_option maxRecDepth 100000 in
set_option maxHeartbeats 4000000 in
theorem ridgePoints_walk (W H x y : Int) (A : Option Addr) (l : List Bool) (n c : Nat) (w : World) (hr : Rd w A (bools l)) (hn : n = l.length) (hb : n ≤ 140737488355328) :
    Calls Try.prog 4 #[.agg #[.int .i64 W, .int .i64 H, .slice A n c], .int .i64 x, .int .i64 y] w fun e w' => e = .returned (.bool true) ∧ Below w.heap.size w w' := by
  have HT := Lib.hid (fun W1 h => twin_any W H A l n c W1 h hn hb)
  have K29 := Lib.hid (fun A0 c0 W1 h => Parts_any W H A0 l n c0 W1 h hn)
  have K30 := Lib.hid (fun A0 c0 W1 h => refParts_all W H A0 l n c0 W1 h hn)
  have K31 := Lib.hid (fun A0 c0 W1 => check_any W H A0 n c0 W1)
  have K32 := Lib.hid (fun A0 c0 W1 => refCheck_any W H A0 n c0 W1)
  have K33 := Lib.hid (fun A0 c0 W1 h => Turns_any W H x y A0 l n c0 W1 h hn)
  have K34 := Lib.hid (fun A0 c0 W1 h => refTurns_any W H x y A0 l n c0 W1 h hn)
  have K35 := Lib.hid (fun A0 c0 W1 h => Crossings_any W H x y A0 l n c0 W1 h hn)
  have K36 := Lib.hid (fun A0 c0 W1 h => refCrossings_any W H x y A0 l n c0 W1 h hn)
  have K22 := Lib.hid (fun A0 A1 c0 c1 W1 h h' => same_true W H A0 A1 l n c0 n c1 W1 h h' hn hn (by omega))
  generalize partsA W H n l = pa at *
  generalize partsB W H n l = pb at *
  generalize errS (sized1B W H n) 10 = pe at *
  generalize (if askedF W H n x y = 0 then ((turnsN (nbF W H l x y) 4 : Nat) : Int) else 0) = tn at *
  generalize (if askedF W H n x y = 0 then ((crossN (nbF W H l x y) 8 : Nat) : Int) else 0) = cn at *
  generalize askedF W H n x y = ae at *
  have S0 := Lib.hid ((Own.start w).new 34 #[.int .i64 W, .int .i64 H, .slice A n c])
  have HR := Lib.hid hr
  have HF := Lib.hid (fun W1 (h : Below w.heap.size w W1) => hr.below h)
  clear hr hn
  go_enter Try.func4, Try.ntmps4
  go_wp2_with fail
  refine (HT.out _ (HF.out _ S0.out.bel)).mono ?_
  rintro e w1 ⟨A1, c1, rfl, hO1⟩
  have S1 := Lib.hid (S0.out.call hO1)
  clear hO1
  have l1 := (S1.out.bx 1 rfl).2.2
  obtain ⟨t0, t1, t2, _⟩ := (S1.out.bx 1 rfl).c3
  go_upto_region 2 with fail
  have S := Lib.hid (S1.out.new' 34 #[.int .i64 W, .int .i64 H, .slice A1 n c1] (B := w1.heap.size) rfl)
  generalize w1.alloc (.cells #[.int .i64 W, .int .i64 H, .slice A1 n c1] 34) = w2 at *
  generalize w1.heap.size = B at *
  clear S1 l1 t0 t1 t2
  obtain ⟨t0, t1, t2, _⟩ := (S.out.bx 0 rfl).c3
  obtain ⟨s0, s1, s2, _⟩ := (S.out.bx 2 rfl).c3
  have lt := (S.out.bx 0 rfl).2.2
  have ls := (S.out.bx 2 rfl).2.2
  go_wp2_with fail
  refine (K29.out A1 c1 _ (S.out.rd 1 rfl)).mono ?_
  rintro e w3 ⟨rfl, hb3⟩
  replace S := Lib.hid (S.out.ext hb3)
  clear t0 t1 t2 s0 s1 s2 lt ls
  clear hb3
  obtain ⟨t0, t1, t2, _⟩ := (S.out.bx 0 rfl).c3
  obtain ⟨s0, s1, s2, _⟩ := (S.out.bx 2 rfl).c3
  have lt := (S.out.bx 0 rfl).2.2
  have ls := (S.out.bx 2 rfl).2.2
  go_wp2_with fail
  refine (K30.out A c _ (HF.out _ S.out.bel)).mono ?_
  rintro e w3 ⟨rfl, hb3⟩
  replace S := Lib.hid (S.out.ext hb3)
  clear t0 t1 t2 s0 s1 s2 lt ls
  clear hb3
  obtain ⟨t0, t1, t2, _⟩ := (S.out.bx 0 rfl).c3
  obtain ⟨s0, s1, s2, _⟩ := (S.out.bx 2 rfl).c3
  have lt := (S.out.bx 0 rfl).2.2
  have ls := (S.out.bx 2 rfl).2.2
  go_wp2_with fail
  clear t0 t1 t2 s0 s1 s2 lt ls
  replace S := Lib.hid (S.out.cast (qs := [box B 34 [.int .i64 W, .int .i64 H, .slice A1 n c1], row 4 1 (.slice A1 n c1) n (bools l), box w.heap.size 34 [.int .i64 W, .int .i64 H, .slice A n c]]) rfl)
  have a0 := fun z : OwnOf w [box B 34 [.int .i64 W, .int .i64 H, .slice A1 n c1], row 4 1 (.slice A1 n c1) n (bools l), box w.heap.size 34 [.int .i64 W, .int .i64 H, .slice A n c]] => (z.bx 0 rfl).1 0 _ rfl
  have a1 := fun z : OwnOf w [box B 34 [.int .i64 W, .int .i64 H, .slice A1 n c1], row 4 1 (.slice A1 n c1) n (bools l), box w.heap.size 34 [.int .i64 W, .int .i64 H, .slice A n c]] => (z.bx 0 rfl).1 1 _ rfl
  have a2 := fun z : OwnOf w [box B 34 [.int .i64 W, .int .i64 H, .slice A1 n c1], row 4 1 (.slice A1 n c1) n (bools l), box w.heap.size 34 [.int .i64 W, .int .i64 H, .slice A n c]] => (z.bx 0 rfl).1 2 _ rfl
  have b0 := fun z : OwnOf w [box B 34 [.int .i64 W, .int .i64 H, .slice A1 n c1], row 4 1 (.slice A1 n c1) n (bools l), box w.heap.size 34 [.int .i64 W, .int .i64 H, .slice A n c]] => (z.bx 2 rfl).1 0 _ rfl
  have b1 := fun z : OwnOf w [box B 34 [.int .i64 W, .int .i64 H, .slice A1 n c1], row 4 1 (.slice A1 n c1) n (bools l), box w.heap.size 34 [.int .i64 W, .int .i64 H, .slice A n c]] => (z.bx 2 rfl).1 1 _ rfl
  have b2 := fun z : OwnOf w [box B 34 [.int .i64 W, .int .i64 H, .slice A1 n c1], row 4 1 (.slice A1 n c1) n (bools l), box w.heap.size 34 [.int .i64 W, .int .i64 H, .slice A n c]] => (z.bx 2 rfl).1 2 _ rfl
  have hne : Nonempty (OwnOf w [box B 34 [.int .i64 W, .int .i64 H, .slice A1 n c1], row 4 1 (.slice A1 n c1) n (bools l), box w.heap.size 34 [.int .i64 W, .int .i64 H, .slice A n c]]) := ⟨⟨_, S.out⟩⟩
  refine wp_region_own S.out (by kernel_rfl) (by kernel_rfl) ?_
  iterate 15 (go_big_quiet_step (fail))
  go_big_quiet_step ((go_at_call 31; exact own_of (K31.out A1 c1 _)))
  go_big_quiet_step (fail)
  go_big_quiet_step ((go_at_call 32; exact own_of (K32.out A c _)))
  iterate 2 (go_big_quiet_step (fail))
  refine wpQuiet_nil ?_
  rintro w4 ⟨z, hz⟩
  replace S := Lib.hid (show Own w w4 [box B 34 [.int .i64 W, .int .i64 H, .slice A1 n c1], row 4 1 (.slice A1 n c1) n (bools l), box w.heap.size 34 [.int .i64 W, .int .i64 H, .slice A n c]] by rw [hz]; exact z.own)
  clear hz z hne a0 a1 a2 b0 b1 b2
  obtain ⟨t0, t1, t2, _⟩ := (S.out.bx 0 rfl).c3
  obtain ⟨s0, s1, s2, _⟩ := (S.out.bx 2 rfl).c3
  have lt := (S.out.bx 0 rfl).2.2
  have ls := (S.out.bx 2 rfl).2.2
  go_wp2_with fail
  refine (K33.out A1 c1 _ (S.out.rd 1 rfl)).mono ?_
  rintro e w3 ⟨rfl, hb3⟩
  replace S := Lib.hid (S.out.ext hb3)
  clear t0 t1 t2 s0 s1 s2 lt ls
  clear hb3
  obtain ⟨t0, t1, t2, _⟩ := (S.out.bx 0 rfl).c3
  obtain ⟨s0, s1, s2, _⟩ := (S.out.bx 2 rfl).c3
  have lt := (S.out.bx 0 rfl).2.2
  have ls := (S.out.bx 2 rfl).2.2
  go_wp2_with fail
  refine (K34.out A c _ (HF.out _ S.out.bel)).mono ?_
  rintro e w3 ⟨rfl, hb3⟩
  replace S := Lib.hid (S.out.ext hb3)
  clear t0 t1 t2 s0 s1 s2 lt ls
  clear hb3
  obtain ⟨t0, t1, t2, _⟩ := (S.out.bx 0 rfl).c3
  obtain ⟨s0, s1, s2, _⟩ := (S.out.bx 2 rfl).c3
  have lt := (S.out.bx 0 rfl).2.2
  have ls := (S.out.bx 2 rfl).2.2
  go_wp2_with fail
  refine (K35.out A1 c1 _ (S.out.rd 1 rfl)).mono ?_
  rintro e w3 ⟨rfl, hb3⟩
  replace S := Lib.hid (S.out.ext hb3)
  clear t0 t1 t2 s0 s1 s2 lt ls
  clear hb3
  obtain ⟨t0, t1, t2, _⟩ := (S.out.bx 0 rfl).c3
  obtain ⟨s0, s1, s2, _⟩ := (S.out.bx 2 rfl).c3
  have lt := (S.out.bx 0 rfl).2.2
  have ls := (S.out.bx 2 rfl).2.2
  go_wp2_with fail
  refine (K36.out A c _ (HF.out _ S.out.bel)).mono ?_
  rintro e w3 ⟨rfl, hb3⟩
  replace S := Lib.hid (S.out.ext hb3)
  clear t0 t1 t2 s0 s1 s2 lt ls
  clear hb3
  obtain ⟨t0, t1, t2, _⟩ := (S.out.bx 0 rfl).c3
  obtain ⟨s0, s1, s2, _⟩ := (S.out.bx 2 rfl).c3
  have lt := (S.out.bx 0 rfl).2.2
  have ls := (S.out.bx 2 rfl).2.2
  go_wp2_with fail
  refine (K22.out A1 A c1 c _ (S.out.rd 1 rfl) (HF.out _ S.out.bel)).mono ?_
  rintro e w3 ⟨rfl, hb3⟩
  replace S := Lib.hid (S.out.ext hb3)
  clear t0 t1 t2 s0 s1 s2 lt ls
  clear hb3
  go_wp2_with fail
  go_ret
  exact ⟨rfl, S.out.bel⟩
end Go.Proofs.Ytjelnbfnoliocaa
