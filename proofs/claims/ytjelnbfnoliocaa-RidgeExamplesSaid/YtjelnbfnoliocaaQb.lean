/- Ridge: SameMinutiae of the specification on equal rows. No condition. -/
import Derived.Test.YtjelnbfnoliocaaQa
namespace Go.Proofs.Ytjelnbfnoliocaa
open Go.RowKit Go.Shelf
attribute [local go_sem] Oper.semAt_some

set_option maxRecDepth 100000 in
set_option maxHeartbeats 2000000 in
theorem sameMin_yes (W H : Int) (l : List Bool) (ms : List (Int × Int)) (A A' : Option Addr) (n c c' : Nat) (w : World) (hr : Rd w A (flat (mntE W H l) ms)) (hr' : Rd w A' (flat (mntE W H l) ms)) (hn : n = ms.length) (hb : n ≤ 4611686018427387904) :
    Calls Try.prog 41 #[.slice A n c, .slice A' n c'] w fun e w' => e = .returned (.bool true) ∧ Below w.heap.size w w' := by
  have HR := Lib.hid hr
  have HR' := Lib.hid hr'
  have HN := Lib.hid hn
  clear hr hr' hn
  go_enter Try.func41, Try.ntmps41
  go_wp2_with fail
  go_loopg [5] n (fun q u5 wr => ∃ (k m : Nat), k ≤ n ∧ u5 = .int .i64 k ∧ wr = w.drewN m ∧ Hid (k + q = n))
  case atStart => exact ⟨0, 0, Nat.zero_le _, rfl, rfl, Lib.hid (by omega)⟩
  case round =>
    obtain ⟨k, m, hk, rfl, rfl, I1⟩ := hrel
    by_cases hlt : k < n
    · have h1 : ms[k]? = some (ms[k]'(by rw [← HN.out]; exact hlt)) := List.getElem?_eq_getElem _
      generalize ms[k]'(by rw [← HN.out]; exact hlt) = p at *
      have g0 := (flat_get (mntE W H l) 4 (mntE_len W H l) ms k _ 0 h1 (by omega)).trans rfl
      have g1 := (flat_get (mntE W H l) 4 (mntE_len W H l) ms k _ 1 h1 (by omega)).trans rfl
      have g2 := (flat_get (mntE W H l) 4 (mntE_len W H l) ms k _ 2 h1 (by omega)).trans rfl
      have g3 := (flat_get (mntE W H l) 4 (mntE_len W H l) ms k _ 3 h1 (by omega)).trans rfl
      obtain ⟨b, off, rfl, hbs, hc⟩ := HR.out.at_ g0
      obtain ⟨b', off', rfl, hbs', hc'⟩ := HR'.out.at_ g0
      have a0 := hc _ _ g0
      have a1 := hc _ _ g1
      have a2 := hc _ _ g2
      have a3 := hc _ _ g3
      have d0 := hc' _ _ g0
      have d1 := hc' _ _ g1
      have d2 := hc' _ _ g2
      have d3 := hc' _ _ g3
      simp only [Nat.add_zero, ← Nat.add_assoc] at a0 a1 a2 a3 d0 d1 d2 d3
      have i1 : (k : Int) < (n : Int) := by omega
      clear hc hc' g0 g1 g2 g3 h1
      generalize (if 3 ≤ crossN (nbF W H l p.1 p.2) 8 then (2 : Int) else 1) = kd at *
      generalize ((firstN (nbF W H l p.1 p.2) : Nat) : Int) = dd at *
      generalize p.1 = x at *
      generalize p.2 = y at *
      go_wp2_with fail
      go_quiet (fail)
      go_wp2_with fail
      go_roundg (gk - 1)
      case measure => have := I1.out; omega
      case rel => exact ⟨k + 1, _, by omega, by go_num, rfl, Lib.hid (by have := I1.out; omega)⟩
    · obtain rfl : k = n := by omega
      go_wp2_with fail
      go_ret
      exact ⟨rfl, below_drewN (Below.refl _ _) _⟩
end Go.Proofs.Ytjelnbfnoliocaa
