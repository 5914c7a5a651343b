/- Ridge: comparisons of traces; Sure and Quality. No condition. -/
import Derived.Test.YtjelnbfnoliocaaBf
namespace Go.Proofs.Ytjelnbfnoliocaa
open Go.RowKit

set_option maxRecDepth 100000 in
set_option maxHeartbeats 1000000 in
theorem sameBools_true (A A' : Option Addr) (l : List Bool) (n c n' c' : Nat) (w : World) (hr : Rd w A (bools l)) (hr' : Rd w A' (bools l)) (hn : n = l.length) (hn' : n' = l.length) (hl : n ≤ 4611686018427387904) :
    Calls Try.prog 25 #[.slice A n c, .slice A' n' c'] w fun e w' => e = .returned (.bool true) ∧ Below w.heap.size w w' := by
  obtain rfl : n' = n := hn'.trans hn.symm
  have HR := Lib.hid hr
  have HR' := Lib.hid hr'
  have HN := Lib.hid hn
  clear hr hr' hn hn'
  go_enter Try.func25, Try.ntmps25
  go_wp2_with fail
  go_loopw [5] (fun u5 wr => ∃ (k m : Nat), k ≤ n' ∧ u5 = .int .i64 k ∧ wr = w.drewN m) (fun u5 _ => n' - (intOf u5).toNat)
  case atStart => exact ⟨0, 0, Nat.zero_le _, rfl, rfl⟩
  case round =>
    obtain ⟨k, m, hk, rfl, rfl⟩ := hrel
    by_cases hlt : k < n'
    · have hlt' : k < l.length := by rw [← HN.out]; exact hlt
      obtain ⟨b, off, rfl, hbs, hc⟩ := HR.out.at_ (bools_get hlt')
      obtain ⟨b', off', rfl, hbs', hc'⟩ := HR'.out.at_ (bools_get hlt')
      have k0 := hc k _ (bools_get hlt')
      have k1 := hc' k _ (bools_get hlt')
      have i1 : (k : Int) < (n' : Int) := by omega
      clear hc hc'
      generalize l[k] = x at *
      go_wp2_with fail
      go_quiet (fail)
      go_wp2_with fail
      go_roundw
      case rel => exact ⟨k + 1, _, by omega, by go_num, rfl⟩
      case measure => simp [intOf]; omega
    · go_wp2_with fail
      go_ret
      exact ⟨rfl, below_drewN (Below.refl _ _) _⟩
theorem same_true (W H : Int) (A A' : Option Addr) (l : List Bool) (n c n' c' : Nat) (w : World) (hr : Rd w A (bools l)) (hr' : Rd w A' (bools l)) (hn : n = l.length) (hn' : n' = l.length) (hl : n ≤ 4611686018427387904) :
    Calls Try.prog 22 #[.agg #[.int .i64 W, .int .i64 H, .slice A n c], .agg #[.int .i64 W, .int .i64 H, .slice A' n' c']] w fun e w' => e = .returned (.bool true) ∧ Below w.heap.size w w' := by
  have HB := below_more (below_alloc w (.cells #[.int .i64 W, .int .i64 H, .slice A n c] 34)) (.cells #[.int .i64 W, .int .i64 H, .slice A' n' c'] 34)
  have HC := Lib.hid (sameBools_true A A' l n c n' c' _ (hr.below HB) (hr'.below HB) hn hn' hl)
  clear hr hr' hn hn'
  go_enter Try.func22, Try.ntmps22
  go_wp2_with fail
  refine HC.out.mono ?_
  rintro e w1 ⟨rfl, hb1⟩
  go_wp2_with fail
  go_ret
  exact ⟨rfl, below_step HB hb1⟩
end Go.Proofs.Ytjelnbfnoliocaa
