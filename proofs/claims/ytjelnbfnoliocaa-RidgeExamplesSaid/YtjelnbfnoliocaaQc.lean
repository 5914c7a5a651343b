/- Ridge: the walk of the law RidgeThins. No condition. -/
import Derived.Test.YtjelnbfnoliocaaPx
import Derived.Test.YtjelnbfnoliocaaQb
namespace Go.Proofs.Ytjelnbfnoliocaa
open Go.RowKit Go.Shelf
attribute [local go_sem] Oper.semAt_some

theorem thins_both (W H : Int) (l : List Bool) (n : Nat) (hn : n = l.length) (hb : n ≤ 140737488355328) :
    ∃ (W1 H1 : Int) (l1 : List Bool) (n1 : Nat) (e1 : Int), n1 = l1.length ∧ n1 ≤ 140737488355328 ∧
      Hid (∀ A0 c0 W2, Rd W2 A0 (bools l) → Calls Try.prog 37 #[.agg #[.int .i64 W, .int .i64 H, .slice A0 n c0]] W2 (ThinPost W1 H1 n1 l1 e1 W2)) ∧
      Hid (∀ A0 c0 W2, Rd W2 A0 (bools l) → Calls Try.prog 38 #[.agg #[.int .i64 W, .int .i64 H, .slice A0 n c0]] W2 (ThinPost W1 H1 n1 l1 e1 W2)) := by
  cases hv : sized1B W H n
  · exact ⟨0, 0, [], 0, 10, rfl, by omega, Lib.hid (fun A0 c0 W2 _ => thin_no W H A0 n c0 W2 hv), Lib.hid (fun A0 c0 W2 _ => refThin_no W H A0 n c0 W2 hv)⟩
  · exact ⟨W, H, thinF W H l, n, 0, by rw [thinF_len]; exact hn, hb, Lib.hid (fun A0 c0 W2 h => thin_ok W H A0 l n c0 W2 hv h hn), Lib.hid (fun A0 c0 W2 h => refThin_ok W H A0 l n c0 W2 hv h hn)⟩
theorem mins_both (W H E : Int) (l : List Bool) (n : Nat) (hn : n = l.length) (hb : n ≤ 140737488355328) :
    ∃ (ms : List (Int × Int)) (e2 : Int), ms.length ≤ 140737488355328 ∧
      Hid (∀ A0 c0 W2, Rd W2 A0 (bools l) → Calls Try.prog 39 #[.agg #[.int .i64 W, .int .i64 H, .slice A0 n c0], .int .i64 E] W2 (MinPost W H l ms e2 W2)) ∧
      Hid (∀ A0 c0 W2, Rd W2 A0 (bools l) → Calls Try.prog 40 #[.agg #[.int .i64 W, .int .i64 H, .slice A0 n c0], .int .i64 E] W2 (MinPost W H l ms e2 W2)) := by
  cases hv : sized1B W H n
  · exact ⟨[], 10, by simp, Lib.hid (fun A0 c0 W2 _ => min_no W H E A0 l n c0 W2 hv), Lib.hid (fun A0 c0 W2 _ => refMin_no W H E A0 l n c0 W2 hv)⟩
  · cases hE : inB 0 20 E
    · exact ⟨[], 2, by simp, Lib.hid (fun A0 c0 W2 _ => min_edge W H E A0 l n c0 W2 hv hE), Lib.hid (fun A0 c0 W2 _ => refMin_edge W H E A0 l n c0 W2 hv hE)⟩
    · exact ⟨minI W H l E n, 0, by have := minI_len W H l E n; omega, Lib.hid (fun A0 c0 W2 h => min_ok W H E A0 l n c0 W2 hv hE h hn), Lib.hid (fun A0 c0 W2 h => refMin_ok W H E A0 l n c0 W2 hv hE h hn)⟩
theorem same_self (W H : Int) (A A' : Option Addr) (l : List Bool) (n c c' : Nat) (w : World) (hr : Rd w A (bools l)) (hr' : Rd w A' (bools l)) (hn : n = l.length) (hl : n ≤ 4611686018427387904) :
    Calls Try.prog 22 #[.agg #[.int .i64 W, .int .i64 H, .slice A n c], .agg #[.int .i64 W, .int .i64 H, .slice A' n c']] w fun e w' => e = .returned (.bool true) ∧ Below w.heap.size w w' := by
  have h := same_len W H A A' l l n c c' w hr hr' hn hn hl
  simpa using h
set_option maxRecDepth 100000 in
set_option maxHeartbeats 4000000 in
theorem ridgeThins_walk (W H E : Int) (A : Option Addr) (l : List Bool) (n c : Nat) (w : World) (hr : Rd w A (bools l)) (hn : n = l.length) (hb : n ≤ 140737488355328) :
    Calls Try.prog 5 #[.agg #[.int .i64 W, .int .i64 H, .slice A n c], .int .i64 E] w fun e w' => e = .returned (.bool true) ∧ Below w.heap.size w w' := by
  have HT := Lib.hid (fun W1 h => twin_any W H A l n c W1 h hn hb)
  obtain ⟨W1, H1, l1, n1, e1, hn1, hb1, K37, K38⟩ := thins_both W H l n hn hb
  obtain ⟨ms, e2, hms, K39, K40⟩ := mins_both W H E l n hn hb
  have K41 := Lib.hid (fun A0 A1 c0 c1 W2 h h' => sameMin_yes W H l ms A0 A1 ms.length c0 c1 W2 h h' rfl (by omega))
  have K22 := Lib.hid (fun A0 A1 c0 c1 W2 h h' => same_self W H A0 A1 l n c0 c1 W2 h h' hn (by omega))
  have K21 := Lib.hid (fun A0 A1 c0 c1 W2 h h' => same_self W1 H1 A0 A1 l1 n1 c0 c1 W2 h h' hn1 (by omega))
  have HN1 := Lib.hid hn1
  have S0 := Lib.hid ((Own.start w).new 34 #[.int .i64 W, .int .i64 H, .slice A n c])
  have HF := Lib.hid (fun W1 (h : Below w.heap.size w W1) => hr.below h)
  clear hr hn hn1
  go_enter Try.func5, Try.ntmps5
  go_wp2_with fail
  refine (HT.out _ (HF.out _ S0.out.bel)).mono ?_
  rintro e w1 ⟨A1, c1, rfl, hO1⟩
  have S1 := Lib.hid (S0.out.call hO1)
  clear hO1
  have l1' := (S1.out.bx 1 rfl).2.2
  obtain ⟨t0, t1, t2, _⟩ := (S1.out.bx 1 rfl).c3
  go_upto_region 2 with fail
  have S := Lib.hid ((S1.out.new' 34 #[.int .i64 W, .int .i64 H, .slice A1 n c1] (B := w1.heap.size) rfl).cast (qs := [box w1.heap.size 34 [.int .i64 W, .int .i64 H, .slice A1 n c1], row 4 1 (.slice A1 n c1) n (bools l), box w.heap.size 34 [.int .i64 W, .int .i64 H, .slice A n c]]) rfl)
  generalize w1.alloc (.cells #[.int .i64 W, .int .i64 H, .slice A1 n c1] 34) = w2 at *
  generalize w1.heap.size = B at *
  clear S1 l1' t0 t1 t2
  obtain ⟨t0, t1, t2, _⟩ := (S.out.bx 0 rfl).c3
  have lt := (S.out.bx 0 rfl).2.2
  go_wp2_with fail
  refine (K37.out A1 c1 _ (S.out.rd 1 rfl)).mono ?_
  rintro e w3 ⟨A2, c2, rfl, hO3⟩
  have S3 := Lib.hid (S.out.call hO3)
  clear hO3 t0 t1 t2 lt
  go_upto_region 3 with fail
  have S4 := Lib.hid ((S3.out.new' 34 #[.int .i64 W1, .int .i64 H1, .slice A2 n1 c2] (B := w3.heap.size) rfl).cast (qs := [box w3.heap.size 34 [.int .i64 W1, .int .i64 H1, .slice A2 n1 c2], row 4 1 (.slice A2 n1 c2) n1 (bools l1), box B 34 [.int .i64 W, .int .i64 H, .slice A1 n c1], row 4 1 (.slice A1 n c1) n (bools l), box w.heap.size 34 [.int .i64 W, .int .i64 H, .slice A n c]]) rfl)
  generalize w3.alloc (.cells #[.int .i64 W1, .int .i64 H1, .slice A2 n1 c2] 34) = w4 at *
  generalize w3.heap.size = B2 at *
  clear S S3
  obtain ⟨t0, t1, t2, _⟩ := (S4.out.bx 4 rfl).c3
  have lt := (S4.out.bx 4 rfl).2.2
  go_wp2_with fail
  refine (K38.out A c _ (HF.out _ S4.out.bel)).mono ?_
  rintro e w5 ⟨A3, c3, rfl, hO5⟩
  have S5 := Lib.hid (S4.out.call hO5)
  clear hO5 t0 t1 t2 lt
  go_upto_region 4 with fail
  have S6 := Lib.hid ((S5.out.new' 34 #[.int .i64 W1, .int .i64 H1, .slice A3 n1 c3] (B := w5.heap.size) rfl).cast (qs := [box w5.heap.size 34 [.int .i64 W1, .int .i64 H1, .slice A3 n1 c3], row 4 1 (.slice A3 n1 c3) n1 (bools l1), box B2 34 [.int .i64 W1, .int .i64 H1, .slice A2 n1 c2], row 4 1 (.slice A2 n1 c2) n1 (bools l1), box B 34 [.int .i64 W, .int .i64 H, .slice A1 n c1], row 4 1 (.slice A1 n c1) n (bools l), box w.heap.size 34 [.int .i64 W, .int .i64 H, .slice A n c]]) rfl)
  generalize w5.alloc (.cells #[.int .i64 W1, .int .i64 H1, .slice A3 n1 c3] 34) = w6 at *
  generalize w5.heap.size = B3 at *
  clear S4 S5
  obtain ⟨t0, t1, t2, _⟩ := (S6.out.bx 0 rfl).c3
  have lt := (S6.out.bx 0 rfl).2.2
  obtain ⟨s0, s1, s2, _⟩ := (S6.out.bx 2 rfl).c3
  have ls := (S6.out.bx 2 rfl).2.2
  go_wp2_with fail
  refine (K21.out A2 A3 c2 c3 _ (S6.out.rd 3 rfl) (S6.out.rd 1 rfl)).mono ?_
  rintro e w7 ⟨rfl, hb7⟩
  have S7 := Lib.hid (((S6.out.ext hb7).sub [2, 3, 4, 5, 6] (by decide) (qs := [box B2 34 [.int .i64 W1, .int .i64 H1, .slice A2 n1 c2], row 4 1 (.slice A2 n1 c2) n1 (bools l1), box B 34 [.int .i64 W, .int .i64 H, .slice A1 n c1], row 4 1 (.slice A1 n c1) n (bools l), box w.heap.size 34 [.int .i64 W, .int .i64 H, .slice A n c]]) rfl))
  clear hb7 t0 t1 t2 lt s0 s1 s2 ls S6
  go_wp2_with fail
  go_loopg [10] n1 (fun q u10 wr => ∃ (k : Nat) (T : List Bool), k ≤ n1 ∧ u10 = .int .i64 k ∧ Hid (k + q = n1 ∧ T.length = n1 ∧ Own w wr [box B2 34 [.int .i64 W1, .int .i64 H1, .slice A2 n1 c2], row 4 1 (.slice A2 n1 c2) n1 (bools T), box B 34 [.int .i64 W, .int .i64 H, .slice A1 n c1], row 4 1 (.slice A1 n c1) n (bools l), box w.heap.size 34 [.int .i64 W, .int .i64 H, .slice A n c]]))
  case atStart => exact ⟨0, l1, by omega, rfl, by omega, HN1.out.symm, S7.out⟩
  case round =>
    obtain ⟨k, T, hk, rfl, hI⟩ := hrel
    have I1 := Lib.hid hI.out.1
    have I2 := Lib.hid hI.out.2.1
    have I3 := Lib.hid hI.out.2.2
    clear hI S7
    obtain ⟨s0, s1, s2, _⟩ := (I3.out.bx 0 rfl).c3
    have ls := (I3.out.bx 0 rfl).2.2
    by_cases hlt : k < n1
    case neg =>
      obtain rfl : k = n1 := by omega
      obtain ⟨t0, t1, t2, _⟩ := (I3.out.bx 2 rfl).c3
      have lt := (I3.out.bx 2 rfl).2.2
      go_wp2_with fail
      refine (K39.out A1 c1 _ (I3.out.rd 3 rfl)).mono ?_
      rintro e w8 ⟨A4, c4, rfl, hO8⟩
      have S8 := Lib.hid (I3.out.call hO8)
      clear hO8 t0 t1 t2 lt s0 s1 s2 ls
      obtain ⟨t0, t1, t2, _⟩ := (S8.out.bx 5 rfl).c3
      have lt := (S8.out.bx 5 rfl).2.2
      go_wp2_with fail
      refine (K40.out A c _ (HF.out _ S8.out.bel)).mono ?_
      rintro e w9 ⟨A5, c5, rfl, hO9⟩
      have S9 := Lib.hid (S8.out.call hO9)
      clear hO9 t0 t1 t2 lt
      go_wp2_with fail
      refine (K41.out A4 A5 c4 c5 _ (S9.out.rd 1 rfl) (S9.out.rd 0 rfl)).mono ?_
      rintro e w10 ⟨rfl, hb10⟩
      have S10 := Lib.hid (S9.out.ext hb10)
      clear hb10
      obtain ⟨t0, t1, t2, _⟩ := (S10.out.bx 4 rfl).c3
      have lt := (S10.out.bx 4 rfl).2.2
      obtain ⟨s0, s1, s2, _⟩ := (S10.out.bx 6 rfl).c3
      have ls := (S10.out.bx 6 rfl).2.2
      go_wp2_with fail
      refine (K22.out A1 A c1 c _ (S10.out.rd 5 rfl) (HF.out _ S10.out.bel)).mono ?_
      rintro e w11 ⟨rfl, hb11⟩
      have S11 := Lib.hid (S10.out.ext hb11)
      clear hb11 t0 t1 t2 lt s0 s1 s2 ls
      go_wp2_with fail
      go_ret
      exact ⟨rfl, S11.out.bel⟩
    have hkT : k < T.length := by rw [I2.out]; exact hlt
    obtain ⟨g, rfl⟩ := I3.out.rowAddr 1 rfl (by omega)
    have cg := I3.out.rowAt 1 rfl (bools_get hkT)
    have lg := (I3.out.rowLt 1 rfl).1
    have fg := (I3.out.rowLt 1 rfl).2
    have i1 : (k : Int) < (n1 : Int) := by omega
    have HTL := Lib.hid (fun v => (show (T.set k v).length = n1 by rw [List.length_set]; exact I2.out))
    generalize T[k] = tv at *
    clear hkT
    go_wp2_with fail
    go_region
    all_goals go_wp2_with fail
    all_goals go_roundg (gk - 1)
    case measure => have := I1.out; omega
    case rel => exact ⟨k + 1, T.set k (!tv), by omega, by go_num, by have := I1.out; omega, HTL.out _, ((I3.out.ext (Below.refl _ _).drew).setRow 1 rfl k (.bool (!tv))).cast (by rw [bools_set]; rfl)⟩
end Go.Proofs.Ytjelnbfnoliocaa
