/- Ridge: turns and crossings of the reference. No condition. -/
import Derived.Test.YtjelnbfnoliocaaPd
import Derived.Test.YtjelnbfnoliocaaPb
namespace Go.Proofs.Ytjelnbfnoliocaa
open Go.RowKit

theorem nbF_mod (W H : Int) (l : List Bool) (x y : Int) (d : Nat) : nbF W H l x y (d % 8) = nbF W H l x y d := by
  simp only [nbF, dx, dy, Nat.mod_mod]
set_option maxRecDepth 100000 in
set_option maxHeartbeats 1000000 in
theorem near_any (W H x y D : Int) (d : Nat) (A : Option Addr) (l : List Bool) (n c : Nat) (w : World) (hv : sized1B W H n = true) (hr : Rd w A (bools l)) (hn : n = l.length) (hx : -1 ≤ x ∧ x ≤ 20) (hy : -1 ≤ y ∧ y ≤ 20) (hD : D = d) (hd : d ≤ 20) :
    Calls Try.prog 48 #[.agg #[.int .i64 W, .int .i64 H, .slice A n c], .int .i64 x, .int .i64 y, .int .i64 D] w fun e w' => e = .returned (.bool (nbF W H l x y d)) ∧ Below w.heap.size w w' := by
  have HC := Lib.hid (fun X Y W1 (hb : Below w.heap.size w W1) => refIs_any W H X Y A l n c W1 hv (hr.below hb) hn)
  have HD := Lib.hid hD
  clear hv hr hn hD
  have BT := Lib.hid (Box.new w 34 #[.int .i64 W, .int .i64 H, .slice A n c])
  have HB0 := Lib.hid (below_alloc w (.cells #[.int .i64 W, .int .i64 H, .slice A n c] 34))
  have HP := Lib.hid (show nbF W H l x y d = isF W H l (x + dx d) (y + dy d) from rfl)
  go_enter Try.func48, Try.ntmps48
  go_wp2_with fail
  refine (refStep_any x y D d _ HD.out hd (by omega) (by omega)).mono ?_
  rintro e w1 ⟨rfl, hb1⟩
  have bt := BT.out.ext hb1
  have hb := below_step HB0.out hb1
  obtain ⟨t0, t1, t2, _⟩ := bt.c3
  clear bt hb1
  go_wp2_with fail
  refine (HC.out _ _ _ hb).mono ?_
  rintro e w2 ⟨rfl, hb2⟩
  clear t0 t1 t2
  go_wp2_with fail
  go_ret
  exact ⟨by rw [HP.out]; rfl, below_step hb hb2⟩
set_option maxRecDepth 100000 in
set_option maxHeartbeats 1000000 in
theorem crossed_any (W H x y : Int) (A : Option Addr) (l : List Bool) (n c : Nat) (w : World) (hv : sized1B W H n = true) (hr : Rd w A (bools l)) (hn : n = l.length) (hx : -1 ≤ x ∧ x ≤ 20) (hy : -1 ≤ y ∧ y ≤ 20) :
    Calls Try.prog 68 #[.agg #[.int .i64 W, .int .i64 H, .slice A n c], .int .i64 x, .int .i64 y] w fun e w' => e = .returned (.int .i64 (crossN (nbF W H l x y) 8 : Nat)) ∧ Below w.heap.size w w' := by
  have HC := Lib.hid (fun (D : Int) (d : Nat) W1 (hb : Below w.heap.size w W1) (hD : D = (d : Int)) (hd : d ≤ 20) => near_any W H x y D d A l n c W1 hv (hr.below hb) hn hx hy hD hd)
  have HM := Lib.hid (nbF_mod W H l x y)
  clear hv hr hn
  have BT := Lib.hid (Box.new w 34 #[.int .i64 W, .int .i64 H, .slice A n c])
  have HB0 := Lib.hid (below_alloc w (.cells #[.int .i64 W, .int .i64 H, .slice A n c] 34))
  generalize nbF W H l x y = r at *
  go_enter Try.func68, Try.ntmps68
  go_wp2_with fail
  go_loopw [7, 8] (fun u7 u8 wr => ∃ j : Nat, j ≤ 8 ∧ u8 = .int .i64 j ∧ u7 = .int .i64 (crossN r j : Nat) ∧ Hid (Box wr w.heap.size [.int .i64 W, .int .i64 H, .slice A n c]) ∧ Below w.heap.size w wr) (fun _ u8 _ => 20 - (intOf u8).toNat)
  case atStart => exact ⟨0, by omega, rfl, rfl, BT, HB0.out⟩
  case round =>
    obtain ⟨j, hj, rfl, rfl, bt, hb⟩ := hrel
    have htj := crossN_le r j
    by_cases hlt : j < 8
    · have HS := Lib.hid (show crossN r (j + 1) = crossN r j + (if !r j && r (j + 1) then 1 else 0) by rw [crossN, HM.out])
      have C0 := Lib.hid (HC.out (j : Int) j)
      have C1 := Lib.hid (HC.out ((j : Int) + 1) (j + 1))
      obtain ⟨t0, t1, t2, _⟩ := bt.out.c3
      generalize r j = v0 at *
      generalize r (j + 1) = v1 at *
      cases v0
      · go_wp2_with fail
        refine (C0.out _ hb (by first | trivial | rfl) (by first | trivial | omega)).mono ?_
        rintro e w2 ⟨rfl, hb2⟩
        clear t0 t1 t2
        have bt2 := bt.out.ext hb2
        obtain ⟨t0, t1, t2, _⟩ := bt2.c3
        have hb3 := hb.trans (hb2.mono hb.size)
        go_wp2_with fail
        refine (C1.out _ hb3 (by first | trivial | omega) (by first | trivial | omega)).mono ?_
        rintro e w3 ⟨rfl, hb4⟩
        clear t0 t1 t2
        have BT3 := Lib.hid (bt2.ext hb4)
        have hb5 := hb3.trans (hb4.mono hb3.size)
        clear hb2 hb3 hb4 bt2
        cases v1
        all_goals
          go_wp2_with fail
          go_roundw
          case rel => exact ⟨j + 1, by omega, by go_num, by rw [HS.out]; first | rfl | simp, BT3, hb5⟩
          case measure => simp [intOf]; omega
      · go_wp2_with fail
        refine (C0.out _ hb (by first | trivial | rfl) (by first | trivial | omega)).mono ?_
        rintro e w2 ⟨rfl, hb2⟩
        clear t0 t1 t2
        have BT3 := Lib.hid (bt.out.ext hb2)
        have hb3 := hb.trans (hb2.mono hb.size)
        clear hb2
        go_wp2_with fail
        go_roundw
        case rel => exact ⟨j + 1, by omega, by go_num, by rw [HS.out]; first | rfl | simp, BT3, hb3⟩
        case measure => simp [intOf]; omega
    · obtain rfl : j = 8 := by omega
      go_wp2_with fail
      go_ret
      exact ⟨rfl, hb⟩
set_option maxRecDepth 100000 in
set_option maxHeartbeats 1000000 in
theorem turned_any (W H x y : Int) (A : Option Addr) (l : List Bool) (n c : Nat) (w : World) (hv : sized1B W H n = true) (hr : Rd w A (bools l)) (hn : n = l.length) (hx : -1 ≤ x ∧ x ≤ 20) (hy : -1 ≤ y ∧ y ≤ 20) :
    Calls Try.prog 66 #[.agg #[.int .i64 W, .int .i64 H, .slice A n c], .int .i64 x, .int .i64 y] w fun e w' => e = .returned (.int .i64 (turnsN (nbF W H l x y) 4 : Nat)) ∧ Below w.heap.size w w' := by
  have HC := Lib.hid (fun (D : Int) (d : Nat) W1 (hb : Below w.heap.size w W1) (hD : D = (d : Int)) (hd : d ≤ 20) => near_any W H x y D d A l n c W1 hv (hr.below hb) hn hx hy hD hd)
  have HM := Lib.hid (nbF_mod W H l x y)
  clear hv hr hn
  have BT := Lib.hid (Box.new w 34 #[.int .i64 W, .int .i64 H, .slice A n c])
  have HB0 := Lib.hid (below_alloc w (.cells #[.int .i64 W, .int .i64 H, .slice A n c] 34))
  generalize nbF W H l x y = r at *
  go_enter Try.func66, Try.ntmps66
  go_wp2_with fail
  go_loopw [7, 8] (fun u7 u8 wr => ∃ j d : Nat, d = 2 * j ∧ j ≤ 4 ∧ u8 = .int .i64 (d : Int) ∧ u7 = .int .i64 (turnsN r j : Nat) ∧ Hid (Box wr w.heap.size [.int .i64 W, .int .i64 H, .slice A n c]) ∧ Below w.heap.size w wr) (fun _ u8 _ => 20 - (intOf u8).toNat)
  case atStart => exact ⟨0, 0, rfl, by omega, rfl, rfl, BT, HB0.out⟩
  case round =>
    obtain ⟨j, d, hd, hj, rfl, rfl, bt, hb⟩ := hrel
    have htj := turnsN_le r j
    by_cases hlt : j < 4
    · have HS := Lib.hid (show turnsN r (j + 1) = turnsN r j + (if !r d && (r (d + 1) || r (d + 2)) then 1 else 0) by rw [turnsN, HM.out, hd])
      have C0 := Lib.hid (HC.out (d : Int) d)
      have C1 := Lib.hid (HC.out ((d : Int) + 1) (d + 1))
      have C2 := Lib.hid (HC.out ((d : Int) + 2) (d + 2))
      have hd7 : d < 8 := by omega
      have HDD := Lib.hid hd
      clear hd
      obtain ⟨t0, t1, t2, _⟩ := bt.out.c3
      generalize r d = v0 at *
      generalize r (d + 1) = v1 at *
      generalize r (d + 2) = v2 at *
      cases v0
      · go_wp2_with fail
        refine (C0.out _ hb (by first | trivial | omega) (by first | trivial | omega)).mono ?_
        rintro e w2 ⟨rfl, hb2⟩
        clear t0 t1 t2
        have bt2 := bt.out.ext hb2
        obtain ⟨t0, t1, t2, _⟩ := bt2.c3
        have hb3 := hb.trans (hb2.mono hb.size)
        go_wp2_with fail
        refine (C1.out _ hb3 (by first | trivial | omega) (by first | trivial | omega)).mono ?_
        rintro e w3 ⟨rfl, hb4⟩
        clear t0 t1 t2
        have bt3 := bt2.ext hb4
        have hb5 := hb3.trans (hb4.mono hb3.size)
        clear hb2 hb3 hb4 bt2
        cases v1
        · obtain ⟨t0, t1, t2, _⟩ := bt3.c3
          go_wp2_with fail
          refine (C2.out _ hb5 (by first | trivial | omega) (by first | trivial | omega)).mono ?_
          rintro e w4 ⟨rfl, hb6⟩
          clear t0 t1 t2
          have BT4 := Lib.hid (bt3.ext hb6)
          have hb7 := hb5.trans (hb6.mono hb5.size)
          clear hb5 hb6 bt3
          cases v2
          all_goals
            go_wp2_with fail
            go_roundw
            case rel => exact ⟨j + 1, d + 2, by have := HDD.out; omega, by omega, by go_num, by rw [HS.out]; first | rfl | simp, BT4, hb7⟩
            case measure => simp [intOf]; omega
        · have BT4 := Lib.hid bt3
          clear bt3
          go_wp2_with fail
          go_roundw
          case rel => exact ⟨j + 1, d + 2, by have := HDD.out; omega, by omega, by go_num, by rw [HS.out]; first | rfl | simp, BT4, hb5⟩
          case measure => simp [intOf]; omega
      · go_wp2_with fail
        refine (C0.out _ hb (by first | trivial | omega) (by first | trivial | omega)).mono ?_
        rintro e w2 ⟨rfl, hb2⟩
        clear t0 t1 t2
        have BT3 := Lib.hid (bt.out.ext hb2)
        have hb3 := hb.trans (hb2.mono hb.size)
        clear hb2
        go_wp2_with fail
        go_roundw
        case rel => exact ⟨j + 1, d + 2, by have := HDD.out; omega, by omega, by go_num, by rw [HS.out]; first | rfl | simp, BT3, hb3⟩
        case measure => simp [intOf]; omega
    · obtain rfl : j = 4 := by omega
      obtain rfl : d = 8 := by omega
      go_wp2_with fail
      go_ret
      exact ⟨rfl, hb⟩
end Go.Proofs.Ytjelnbfnoliocaa
