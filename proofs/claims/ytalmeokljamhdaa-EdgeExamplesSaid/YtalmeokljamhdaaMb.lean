/- Copies: whether a copy is sealed, as the reference asks it. -/
import Derived.Test.YtalmeokljamhdaaMa
namespace Go.Proofs.Ytalmeokljamhdaa
open Go.RowKit
def sealedB (a m s se key : Int) : Bool := inB 0 1099511627776 a && inB 0 1099511627776 m && (se == sealI a m s key)
theorem ext_when {w : World} {x : ExtOf w} {n : Int} {b : Bool} (h : inB 0 1099511627776 n = b) : Calls Try.prog 61 #[.int .i64 n] x.wld fun e w'' => e = .returned (.bool b) ∧ ∃ y : ExtOf w, w'' = y.wld := by
  subst h; exact ext_same (when_any n _)
set_option maxHeartbeats 1000000 in
theorem refSealed_any (a m s se key : Int) (w : World) : Calls Try.prog 74 #[.agg #[.int .i64 a, .int .i64 m, .int .u64 s, .int .u64 se], .int .u64 key] w fun e w' => e = .returned (.bool (sealedB a m s se key)) ∧ Below w.heap.size w w' := by
  have hfin : Hid (sealedB a m s se key = (inB 0 1099511627776 a && inB 0 1099511627776 m && (se == sealI a m s key))) := rfl
  cases h1 : inB 0 1099511627776 a <;> cases h2 : inB 0 1099511627776 m <;> rw [h1, h2] at hfin
  all_goals
    go_enter Try.func74, Try.ntmps74
    go_wp2
    obtain ⟨p0, p1, p2, p3, pf⟩ := (Box.new w 65 #[.int .i64 a, .int .i64 m, .int .u64 s, .int .u64 se]).c4
    have HB := Lib.hid (below_alloc w (.cells #[.int .i64 a, .int .i64 m, .int .u64 s, .int .u64 se] 65))
    generalize w.alloc (.cells #[.int .i64 a, .int .i64 m, .int .u64 s, .int .u64 se] 65) = W at *
    have hlt : w.heap.size < W.heap.size := World.block_lt_of_cell? W _ p0
    have hne : Nonempty (ExtOf W) := ⟨⟨W, Below.refl _ _⟩⟩
    refine wp_region_ext (by kernel_rfl) (by kernel_rfl) ?_
    iterate 4 (go_big_quiet_step ((go_at_call 61; exact ext_when h1)))
    repeat (go_big_quiet_step ((first | (go_at_call 61; exact ext_when h2) | (go_at_call 77; exact ext_of (refSeal_any _ _ _ _ _ _)))))
    refine wpQuiet_nil ?_
    intro X hw'
    obtain ⟨⟨X', hX⟩, hw''⟩ := hw'
    simp only at hw''
    subst hw''
    clear hne
    go_wp2
    go_ret
    exact ⟨by rw [hfin.out]; rfl, below_step HB.out hX⟩
end Go.Proofs.Ytalmeokljamhdaa
