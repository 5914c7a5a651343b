/- Ridge: turns and crossings, of the program and of the reference. No condition. -/
import Derived.Test.YtjelnbfnoliocaaPe
import Derived.Test.YtjelnbfnoliocaaBc
namespace Go.Proofs.Ytjelnbfnoliocaa
open Go.RowKit

def askedF (W H : Int) (n : Nat) (x y : Int) : Int := if sized1B W H n then (if inB 0 (W - 1) x && inB 0 (H - 1) y then 0 else 2) else 10
theorem askedF_zero {W H : Int} {n : Nat} {x y : Int} (h : askedF W H n x y = 0) : sized1B W H n = true ∧ (-1 ≤ x ∧ x ≤ 20) ∧ (-1 ≤ y ∧ y ≤ 20) := by
  unfold askedF at h
  split at h
  · rename_i hs
    obtain ⟨hW, hH, _⟩ := valid_bd hs
    split at h
    · rename_i hi
      have hx : (0 ≤ x ∧ x ≤ W - 1) ∧ 0 ≤ y ∧ y ≤ H - 1 := by simpa [inB] using hi
      exact ⟨hs, by omega, by omega⟩
    · omega
  · omega

set_option maxRecDepth 100000 in
set_option maxHeartbeats 1000000 in
theorem place_any (W H x y : Int) (A : Option Addr) (n c : Nat) (w : World) :
    Calls Try.prog 62 #[.agg #[.int .i64 W, .int .i64 H, .slice A n c], .int .i64 x, .int .i64 y] w fun e w' => e = .returned (.int .i64 (askedF W H n x y)) ∧ Below w.heap.size w w' := by
  have HC := fun W1 => Lib.hid (check_any W H A n c W1)
  have BT := Lib.hid (Box.new w 34 #[.int .i64 W, .int .i64 H, .slice A n c])
  have HB0 := Lib.hid (below_alloc w (.cells #[.int .i64 W, .int .i64 H, .slice A n c] 34))
  cases hs : sized1B W H n
  · have HP := Lib.hid (show askedF W H n x y = 10 by simp [askedF, hs])
    have HC1 := fun W1 => Lib.hid (show Calls Try.prog 31 #[.agg #[.int .i64 W, .int .i64 H, .slice A n c]] W1 fun e w' => e = .returned (.int .i64 10) ∧ Below W1.heap.size W1 w' by have := (HC W1).out; rw [hs] at this; exact this)
    clear HC hs
    obtain ⟨t0, t1, t2, _⟩ := BT.out.c3
    go_enter Try.func62, Try.ntmps62
    go_wp2_with fail
    refine (HC1 _).out.mono ?_
    rintro e w1 ⟨rfl, hb1⟩
    clear t0 t1 t2
    go_wp2_with fail
    go_ret
    exact ⟨by rw [HP.out]; rfl, below_step HB0.out hb1⟩
  · obtain ⟨hW, hH, _⟩ := valid_bd hs
    have HC1 := fun W1 => Lib.hid (show Calls Try.prog 31 #[.agg #[.int .i64 W, .int .i64 H, .slice A n c]] W1 fun e w' => e = .returned (.int .i64 0) ∧ Below W1.heap.size W1 w' by have := (HC W1).out; rw [hs] at this; exact this)
    cases h1 : inB 0 (W - 1) x
    · have HP := Lib.hid (show askedF W H n x y = 2 by simp [askedF, hs, h1])
      clear HC hs
      go_enter Try.func62, Try.ntmps62
      go_wp2_with fail
      refine (HC1 _).out.mono ?_
      rintro e w1 ⟨rfl, hb1⟩
      have bt := BT.out.ext hb1
      have hb := below_step HB0.out hb1
      obtain ⟨t0, t1, t2, _⟩ := bt.c3
      clear bt hb1
      go_wp2_with (go_at_call 58; refine (within_any _ _ _ _).mono ?_; rintro e w' ⟨rfl, rfl⟩)
      go_ret
      exact ⟨by rw [HP.out]; rfl, hb⟩
    cases h2 : inB 0 (H - 1) y
    · have HP := Lib.hid (show askedF W H n x y = 2 by simp [askedF, hs, h2])
      clear HC hs
      go_enter Try.func62, Try.ntmps62
      go_wp2_with fail
      refine (HC1 _).out.mono ?_
      rintro e w1 ⟨rfl, hb1⟩
      have bt := BT.out.ext hb1
      have hb := below_step HB0.out hb1
      obtain ⟨t0, t1, t2, _⟩ := bt.c3
      clear bt hb1
      go_wp2_with (go_at_call 58; refine (within_any _ _ _ _).mono ?_; rintro e w' ⟨rfl, rfl⟩)
      go_ret
      exact ⟨by rw [HP.out]; rfl, hb⟩
    · have HP := Lib.hid (show askedF W H n x y = 0 by simp [askedF, hs, h1, h2])
      clear HC hs
      go_enter Try.func62, Try.ntmps62
      go_wp2_with fail
      refine (HC1 _).out.mono ?_
      rintro e w1 ⟨rfl, hb1⟩
      have bt := BT.out.ext hb1
      have hb := below_step HB0.out hb1
      obtain ⟨t0, t1, t2, _⟩ := bt.c3
      clear bt hb1
      go_wp2_with (go_at_call 58; refine (within_any _ _ _ _).mono ?_; rintro e w' ⟨rfl, rfl⟩)
      go_ret
      exact ⟨by rw [HP.out]; rfl, hb⟩

set_option maxRecDepth 100000 in
set_option maxHeartbeats 1000000 in
theorem asked_any (W H x y : Int) (A : Option Addr) (n c : Nat) (w : World) :
    Calls Try.prog 65 #[.agg #[.int .i64 W, .int .i64 H, .slice A n c], .int .i64 x, .int .i64 y] w fun e w' => e = .returned (.int .i64 (askedF W H n x y)) ∧ Below w.heap.size w w' := by
  have HC := fun W1 => Lib.hid (valid_any W H A n c W1)
  have BT := Lib.hid (Box.new w 34 #[.int .i64 W, .int .i64 H, .slice A n c])
  have HB0 := Lib.hid (below_alloc w (.cells #[.int .i64 W, .int .i64 H, .slice A n c] 34))
  cases hs : sized1B W H n
  · have HP := Lib.hid (show askedF W H n x y = 10 by simp [askedF, hs])
    have HC1 := fun W1 => Lib.hid (show Calls Try.prog 44 #[.agg #[.int .i64 W, .int .i64 H, .slice A n c]] W1 fun e w' => e = .returned (.bool false) ∧ Below W1.heap.size W1 w' by have := (HC W1).out; rw [hs] at this; exact this)
    clear HC hs
    obtain ⟨t0, t1, t2, _⟩ := BT.out.c3
    go_enter Try.func65, Try.ntmps65
    go_wp2_with fail
    refine (HC1 _).out.mono ?_
    rintro e w1 ⟨rfl, hb1⟩
    clear t0 t1 t2
    go_wp2_with fail
    go_ret
    exact ⟨by rw [HP.out]; rfl, below_step HB0.out hb1⟩
  · obtain ⟨hW, hH, _⟩ := valid_bd hs
    have HC1 := fun W1 => Lib.hid (show Calls Try.prog 44 #[.agg #[.int .i64 W, .int .i64 H, .slice A n c]] W1 fun e w' => e = .returned (.bool true) ∧ Below W1.heap.size W1 w' by have := (HC W1).out; rw [hs] at this; exact this)
    cases h1 : inB 0 (W - 1) x
    · have HP := Lib.hid (show askedF W H n x y = 2 by simp [askedF, hs, h1])
      clear HC hs
      go_enter Try.func65, Try.ntmps65
      go_wp2_with fail
      refine (HC1 _).out.mono ?_
      rintro e w1 ⟨rfl, hb1⟩
      have bt := BT.out.ext hb1
      have hb := below_step HB0.out hb1
      obtain ⟨t0, t1, t2, _⟩ := bt.c3
      clear bt hb1
      go_wp2_with (go_at_call 59; refine (refWithin_any _ _ _ _).mono ?_; rintro e w' ⟨rfl, rfl⟩)
      go_ret
      exact ⟨by rw [HP.out]; rfl, hb⟩
    cases h2 : inB 0 (H - 1) y
    · have HP := Lib.hid (show askedF W H n x y = 2 by simp [askedF, hs, h2])
      clear HC hs
      go_enter Try.func65, Try.ntmps65
      go_wp2_with fail
      refine (HC1 _).out.mono ?_
      rintro e w1 ⟨rfl, hb1⟩
      have bt := BT.out.ext hb1
      have hb := below_step HB0.out hb1
      obtain ⟨t0, t1, t2, _⟩ := bt.c3
      clear bt hb1
      go_wp2_with (go_at_call 59; refine (refWithin_any _ _ _ _).mono ?_; rintro e w' ⟨rfl, rfl⟩)
      go_ret
      exact ⟨by rw [HP.out]; rfl, hb⟩
    · have HP := Lib.hid (show askedF W H n x y = 0 by simp [askedF, hs, h1, h2])
      clear HC hs
      go_enter Try.func65, Try.ntmps65
      go_wp2_with fail
      refine (HC1 _).out.mono ?_
      rintro e w1 ⟨rfl, hb1⟩
      have bt := BT.out.ext hb1
      have hb := below_step HB0.out hb1
      obtain ⟨t0, t1, t2, _⟩ := bt.c3
      clear bt hb1
      go_wp2_with (go_at_call 59; refine (refWithin_any _ _ _ _).mono ?_; rintro e w' ⟨rfl, rfl⟩)
      go_ret
      exact ⟨by rw [HP.out]; rfl, hb⟩

set_option maxRecDepth 100000 in
set_option maxHeartbeats 1000000 in
theorem Turns_any (W H x y : Int) (A : Option Addr) (l : List Bool) (n c : Nat) (w : World) (hr : Rd w A (bools l)) (hn : n = l.length) :
    Calls Try.prog 33 #[.agg #[.int .i64 W, .int .i64 H, .slice A n c], .int .i64 x, .int .i64 y] w fun e w' => e = .returned (.tuple #[.int .i64 (if askedF W H n x y = 0 then (turnsN (nbF W H l x y) 4 : Nat) else 0), .int .i64 (askedF W H n x y)]) ∧ Below w.heap.size w w' := by
  have HC := fun W1 => Lib.hid (place_any W H x y A n c W1)
  have BT := Lib.hid (Box.new w 34 #[.int .i64 W, .int .i64 H, .slice A n c])
  have HB0 := Lib.hid (below_alloc w (.cells #[.int .i64 W, .int .i64 H, .slice A n c] 34))
  have HR := Lib.hid hr
  have HN := Lib.hid hn
  clear hr hn
  by_cases hz : askedF W H n x y = 0
  · have HZ := Lib.hid (askedF_zero hz)
    have HZ0 := Lib.hid hz
    rw [hz] at HC ⊢
    clear hz
    go_enter Try.func33, Try.ntmps33
    go_wp2_with fail
    refine (HC _).out.mono ?_
    rintro e w1 ⟨rfl, hb1⟩
    have bt := BT.out.ext hb1
    have hb := below_step HB0.out hb1
    obtain ⟨t0, t1, t2, _⟩ := bt.c3
    clear bt hb1
    go_wp2_with fail
    refine (around_any W H x y A l n c _ HZ.out.1 (HR.out.below hb) HN.out HZ.out.2.1 HZ.out.2.2).mono ?_
    rintro e w2 ⟨rfl, hb2⟩
    replace hb := below_step hb hb2
    clear hb2 t0 t1 t2
    go_wp2_with fail
    refine (turns_any (nbF W H l x y) _).mono ?_
    rintro e w3 ⟨rfl, hb3⟩
    replace hb := below_step hb hb3
    clear hb3
    go_wp2_with fail
    go_ret2
    exact ⟨rfl, hb⟩
  · have HZ := Lib.hid (show (if askedF W H n x y = 0 then (turnsN (nbF W H l x y) 4 : Nat) else 0 : Int) = 0 by simp [hz])
    generalize askedF W H n x y = v at *
    go_enter Try.func33, Try.ntmps33
    go_wp2_with fail
    refine (HC _).out.mono ?_
    rintro e w1 ⟨rfl, hb1⟩
    have hb := below_step HB0.out hb1
    clear hb1
    go_wp2_with fail
    go_ret2
    exact ⟨rfl, hb⟩

set_option maxRecDepth 100000 in
set_option maxHeartbeats 1000000 in
theorem refTurns_any (W H x y : Int) (A : Option Addr) (l : List Bool) (n c : Nat) (w : World) (hr : Rd w A (bools l)) (hn : n = l.length) :
    Calls Try.prog 34 #[.agg #[.int .i64 W, .int .i64 H, .slice A n c], .int .i64 x, .int .i64 y] w fun e w' => e = .returned (.tuple #[.int .i64 (if askedF W H n x y = 0 then (turnsN (nbF W H l x y) 4 : Nat) else 0), .int .i64 (askedF W H n x y)]) ∧ Below w.heap.size w w' := by
  have HC := fun W1 => Lib.hid (asked_any W H x y A n c W1)
  have BT := Lib.hid (Box.new w 34 #[.int .i64 W, .int .i64 H, .slice A n c])
  have HB0 := Lib.hid (below_alloc w (.cells #[.int .i64 W, .int .i64 H, .slice A n c] 34))
  have HR := Lib.hid hr
  have HN := Lib.hid hn
  clear hr hn
  by_cases hz : askedF W H n x y = 0
  · have HZ := Lib.hid (askedF_zero hz)
    have HZ0 := Lib.hid hz
    rw [hz] at HC ⊢
    clear hz
    go_enter Try.func34, Try.ntmps34
    go_wp2_with fail
    refine (HC _).out.mono ?_
    rintro e w1 ⟨rfl, hb1⟩
    have bt := BT.out.ext hb1
    have hb := below_step HB0.out hb1
    obtain ⟨t0, t1, t2, _⟩ := bt.c3
    clear bt hb1
    go_wp2_with fail
    refine (turned_any W H x y A l n c _ HZ.out.1 (HR.out.below hb) HN.out HZ.out.2.1 HZ.out.2.2).mono ?_
    rintro e w2 ⟨rfl, hb2⟩
    replace hb := below_step hb hb2
    clear hb2 t0 t1 t2
    go_wp2_with fail
    go_ret2
    exact ⟨rfl, hb⟩
  · have HZ := Lib.hid (show (if askedF W H n x y = 0 then (turnsN (nbF W H l x y) 4 : Nat) else 0 : Int) = 0 by simp [hz])
    generalize askedF W H n x y = v at *
    go_enter Try.func34, Try.ntmps34
    go_wp2_with fail
    refine (HC _).out.mono ?_
    rintro e w1 ⟨rfl, hb1⟩
    have hb := below_step HB0.out hb1
    clear hb1
    go_wp2_with fail
    go_ret2
    exact ⟨rfl, hb⟩

set_option maxRecDepth 100000 in
set_option maxHeartbeats 1000000 in
theorem Crossings_any (W H x y : Int) (A : Option Addr) (l : List Bool) (n c : Nat) (w : World) (hr : Rd w A (bools l)) (hn : n = l.length) :
    Calls Try.prog 35 #[.agg #[.int .i64 W, .int .i64 H, .slice A n c], .int .i64 x, .int .i64 y] w fun e w' => e = .returned (.tuple #[.int .i64 (if askedF W H n x y = 0 then (crossN (nbF W H l x y) 8 : Nat) else 0), .int .i64 (askedF W H n x y)]) ∧ Below w.heap.size w w' := by
  have HC := fun W1 => Lib.hid (place_any W H x y A n c W1)
  have BT := Lib.hid (Box.new w 34 #[.int .i64 W, .int .i64 H, .slice A n c])
  have HB0 := Lib.hid (below_alloc w (.cells #[.int .i64 W, .int .i64 H, .slice A n c] 34))
  have HR := Lib.hid hr
  have HN := Lib.hid hn
  clear hr hn
  by_cases hz : askedF W H n x y = 0
  · have HZ := Lib.hid (askedF_zero hz)
    have HZ0 := Lib.hid hz
    rw [hz] at HC ⊢
    clear hz
    go_enter Try.func35, Try.ntmps35
    go_wp2_with fail
    refine (HC _).out.mono ?_
    rintro e w1 ⟨rfl, hb1⟩
    have bt := BT.out.ext hb1
    have hb := below_step HB0.out hb1
    obtain ⟨t0, t1, t2, _⟩ := bt.c3
    clear bt hb1
    go_wp2_with fail
    refine (around_any W H x y A l n c _ HZ.out.1 (HR.out.below hb) HN.out HZ.out.2.1 HZ.out.2.2).mono ?_
    rintro e w2 ⟨rfl, hb2⟩
    replace hb := below_step hb hb2
    clear hb2 t0 t1 t2
    go_wp2_with fail
    refine (crossings_any (nbF W H l x y) _).mono ?_
    rintro e w3 ⟨rfl, hb3⟩
    replace hb := below_step hb hb3
    clear hb3
    go_wp2_with fail
    go_ret2
    exact ⟨rfl, hb⟩
  · have HZ := Lib.hid (show (if askedF W H n x y = 0 then (crossN (nbF W H l x y) 8 : Nat) else 0 : Int) = 0 by simp [hz])
    generalize askedF W H n x y = v at *
    go_enter Try.func35, Try.ntmps35
    go_wp2_with fail
    refine (HC _).out.mono ?_
    rintro e w1 ⟨rfl, hb1⟩
    have hb := below_step HB0.out hb1
    clear hb1
    go_wp2_with fail
    go_ret2
    exact ⟨rfl, hb⟩

set_option maxRecDepth 100000 in
set_option maxHeartbeats 1000000 in
theorem refCrossings_any (W H x y : Int) (A : Option Addr) (l : List Bool) (n c : Nat) (w : World) (hr : Rd w A (bools l)) (hn : n = l.length) :
    Calls Try.prog 36 #[.agg #[.int .i64 W, .int .i64 H, .slice A n c], .int .i64 x, .int .i64 y] w fun e w' => e = .returned (.tuple #[.int .i64 (if askedF W H n x y = 0 then (crossN (nbF W H l x y) 8 : Nat) else 0), .int .i64 (askedF W H n x y)]) ∧ Below w.heap.size w w' := by
  have HC := fun W1 => Lib.hid (asked_any W H x y A n c W1)
  have BT := Lib.hid (Box.new w 34 #[.int .i64 W, .int .i64 H, .slice A n c])
  have HB0 := Lib.hid (below_alloc w (.cells #[.int .i64 W, .int .i64 H, .slice A n c] 34))
  have HR := Lib.hid hr
  have HN := Lib.hid hn
  clear hr hn
  by_cases hz : askedF W H n x y = 0
  · have HZ := Lib.hid (askedF_zero hz)
    have HZ0 := Lib.hid hz
    rw [hz] at HC ⊢
    clear hz
    go_enter Try.func36, Try.ntmps36
    go_wp2_with fail
    refine (HC _).out.mono ?_
    rintro e w1 ⟨rfl, hb1⟩
    have bt := BT.out.ext hb1
    have hb := below_step HB0.out hb1
    obtain ⟨t0, t1, t2, _⟩ := bt.c3
    clear bt hb1
    go_wp2_with fail
    refine (crossed_any W H x y A l n c _ HZ.out.1 (HR.out.below hb) HN.out HZ.out.2.1 HZ.out.2.2).mono ?_
    rintro e w2 ⟨rfl, hb2⟩
    replace hb := below_step hb hb2
    clear hb2 t0 t1 t2
    go_wp2_with fail
    go_ret2
    exact ⟨rfl, hb⟩
  · have HZ := Lib.hid (show (if askedF W H n x y = 0 then (crossN (nbF W H l x y) 8 : Nat) else 0 : Int) = 0 by simp [hz])
    generalize askedF W H n x y = v at *
    go_enter Try.func36, Try.ntmps36
    go_wp2_with fail
    refine (HC _).out.mono ?_
    rintro e w1 ⟨rfl, hb1⟩
    have hb := below_step HB0.out hb1
    clear hb1
    go_wp2_with fail
    go_ret2
    exact ⟨rfl, hb⟩
end Go.Proofs.Ytjelnbfnoliocaa
