/- Copies: seals, and whether a copy is sealed. -/
import Derived.Test.YtalmeokljamhdaaLh
namespace Go.Proofs.Ytalmeokljamhdaa
open Go.RowKit

def sealI (asOf maxAge set key : Int) : Int := mixI (mixI (mixI key (IntKind.u64.wrap asOf)) set) (IntKind.u64.wrap maxAge)
set_option maxHeartbeats 400000 in
theorem asked_any (p now asOf : Int) (w : World) : Calls Try.prog 73 #[.int .i64 p, .int .i64 now, .int .i64 asOf] w fun e w' =>
    e = .returned (.int .i64 (if inB 0 63 p = false ∨ inB 0 1099511627776 now = false ∨ inB 0 1099511627776 asOf = false then 2 else if now < asOf then 101 else 0)) ∧ w = w' := by
  cases h1 : inB 0 63 p <;> cases h2 : inB 0 1099511627776 now <;> cases h3 : inB 0 1099511627776 asOf
  all_goals
    by_cases h4 : now < asOf
    all_goals
      go_enter Try.func73, Try.ntmps73
      go_wp2_with (first | (go_at_call 63; refine (isPerson_any _ _).mono ?_; rintro e w' ⟨rfl, rfl⟩) | (go_at_call 57; refine (isTime_any _ _).mono ?_; rintro e w' ⟨rfl, rfl⟩))
      go_ret
      exact ⟨by simp_all, rfl⟩

set_option maxHeartbeats 1000000 in
theorem refSeal_any (a m s se key : Int) (w : World) : Calls Try.prog 77 #[.agg #[.int .i64 a, .int .i64 m, .int .u64 s, .int .u64 se], .int .u64 key] w fun e w' => e = .returned (.int .u64 (sealI a m s key)) ∧ Below w.heap.size w w' := by
  go_enter Try.func77, Try.ntmps77
  go_wp2
  obtain ⟨p0, p1, p2, p3, pf⟩ := (Box.new w 65 #[.int .i64 a, .int .i64 m, .int .u64 s, .int .u64 se]).c4
  have HB := Lib.hid (below_alloc w (.cells #[.int .i64 a, .int .i64 m, .int .u64 s, .int .u64 se] 65))
  generalize w.alloc (.cells #[.int .i64 a, .int .i64 m, .int .u64 s, .int .u64 se] 65) = W at *
  have hlt : w.heap.size < W.heap.size := World.block_lt_of_cell? W _ p0
  have hne : Nonempty (ExtOf W) := ⟨⟨W, Below.refl _ _⟩⟩
  refine wp_region_ext (by kernel_rfl) (by kernel_rfl) ?_
  repeat (go_big_quiet_step ((go_at_call 34; exact ext_same (refMix_any _ _ _))))
  refine wpQuiet_nil ?_
  intro X hw'
  obtain ⟨⟨X', hX⟩, hw''⟩ := hw'
  simp only at hw''
  subst hw''
  clear hne
  go_wp2
  go_ret
  exact ⟨rfl, below_step HB.out hX⟩

set_option maxHeartbeats 1000000 in
theorem seal_any (B : Nat) (a m s se key : Int) (w : World) (hbx : Box w B [.int .i64 a, .int .i64 m, .int .u64 s, .int .u64 se, .int .u64 key]) :
    Calls Try.prog 76 #[.pointer (some ⟨B, 0, none⟩)] w fun e w' => e = .returned (.int .u64 (sealI a m s key)) ∧ Below w.heap.size w w' := by
  obtain ⟨p0, p1, p2, p3, p4, pf⟩ := hbx.c5
  have hlt := hbx.2.2
  clear hbx
  go_enter Try.func76, Try.ntmps76
  go_wp2
  go_region
  go_wp2
  go_loopw [3, 29] (fun u3 u29 wr => (w.alloc (Obj.cells #[Value.int IntKind.u64 (IntKind.u64.wrap a), Value.int IntKind.u64 s, Value.int IntKind.u64 (IntKind.u64.wrap m)] 43)).drew = wr ∧ Hid ((u3 = .int .u64 key ∧ u29 = .int .i64 0) ∨ (u3 = .int .u64 (mixI key (IntKind.u64.wrap a)) ∧ u29 = .int .i64 1) ∨ (u3 = .int .u64 (mixI (mixI key (IntKind.u64.wrap a)) s) ∧ u29 = .int .i64 2) ∨ (u3 = .int .u64 (sealI a m s key) ∧ u29 = .int .i64 3))) (fun _ u29 _ => 3 - (intOf u29).toNat)
  case atStart => exact ⟨rfl, .inl ⟨rfl, rfl⟩⟩
  case round =>
    obtain ⟨rfl, hq⟩ := hrel
    rcases hq with ⟨rfl, rfl⟩ | ⟨rfl, rfl⟩ | ⟨rfl, rfl⟩ | ⟨rfl, rfl⟩
    · go_wp2_with (go_at_call 33; refine (mix_any _ _ _).mono ?_; rintro e w' ⟨rfl, rfl⟩)
      go_roundw
      case rel => exact ⟨trivial, .inr (.inl ⟨rfl, rfl⟩)⟩
      case measure => simp [intOf]
    · go_wp2_with (go_at_call 33; refine (mix_any _ _ _).mono ?_; rintro e w' ⟨rfl, rfl⟩)
      go_roundw
      case rel => exact ⟨trivial, .inr (.inr (.inl ⟨rfl, rfl⟩))⟩
      case measure => simp [intOf]
    · go_wp2_with (go_at_call 33; refine (mix_any _ _ _).mono ?_; rintro e w' ⟨rfl, rfl⟩)
      go_roundw
      case rel => exact ⟨trivial, .inr (.inr (.inr ⟨rfl, rfl⟩))⟩
      case measure => simp [intOf]
    · go_wp2
      go_ret
      exact ⟨rfl, (below_alloc _ _).drew⟩
end Go.Proofs.Ytalmeokljamhdaa
