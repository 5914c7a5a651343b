/- Copies: whether a copy is sealed, as the program asks it. -/
import Derived.Test.YtalmeokljamhdaaMb
import Derived.Deep.RegionHeld3
namespace Go.Proofs.Ytalmeokljamhdaa
open Go.RowKit
theorem ext_time {w : World} {x : ExtOf w} {n : Int} {b : Bool} (h : inB 0 1099511627776 n = b) : Calls Try.prog 57 #[.int .i64 n] x.wld fun e w'' => e = .returned (.bool b) ∧ ∃ y : ExtOf w, w'' = y.wld := by
  subst h; exact ext_same (isTime_any n _)
theorem time_at {n : Int} {b : Bool} {w : World} (h : inB 0 1099511627776 n = b) : Calls Try.prog 57 #[.int .i64 n] w fun e w' => e = .returned (.bool b) ∧ w = w' := by
  subst h; exact isTime_any n _
set_option maxHeartbeats 1000000 in
theorem checkCopy_any (a m s se key : Int) (w : World) : Calls Try.prog 46 #[.agg #[.int .i64 a, .int .i64 m, .int .u64 s, .int .u64 se], .int .u64 key] w fun e w' => e = .returned (.int .i64 (errB (sealedB a m s se key))) ∧ Below w.heap.size w w' := by
  have hfin : Hid (sealedB a m s se key = (inB 0 1099511627776 a && inB 0 1099511627776 m && (se == sealI a m s key))) := rfl
  cases h1 : inB 0 1099511627776 a
  · rw [h1] at hfin
    go_enter Try.func46, Try.ntmps46
    go_wp2
    obtain ⟨p0, p1, p2, p3, pf⟩ := (Box.new w 65 #[.int .i64 a, .int .i64 m, .int .u64 s, .int .u64 se]).c4
    have HB := Lib.hid (below_alloc w (.cells #[.int .i64 a, .int .i64 m, .int .u64 s, .int .u64 se] 65))
    generalize w.alloc (.cells #[.int .i64 a, .int .i64 m, .int .u64 s, .int .u64 se] 65) = W at *
    have hlt : w.heap.size < W.heap.size := World.block_lt_of_cell? W _ p0
    have hne : Nonempty (ExtOf W) := ⟨⟨W, Below.refl _ _⟩⟩
    refine wp_region_ext (by kernel_rfl) (by kernel_rfl) ?_
    repeat (go_big_quiet_step ((go_at_call 57; exact ext_time h1)))
    refine wpQuiet_nil ?_
    intro X hw'
    obtain ⟨⟨X', hX⟩, hw''⟩ := hw'
    simp only at hw''
    subst hw''
    clear hne
    go_wp2
    go_ret
    exact ⟨by rw [hfin.out]; rfl, below_step HB.out hX⟩
  cases h2 : inB 0 1099511627776 m
  · rw [h1, h2] at hfin
    go_enter Try.func46, Try.ntmps46
    go_wp2
    obtain ⟨p0, p1, p2, p3, pf⟩ := (Box.new w 65 #[.int .i64 a, .int .i64 m, .int .u64 s, .int .u64 se]).c4
    have HB := Lib.hid (below_alloc w (.cells #[.int .i64 a, .int .i64 m, .int .u64 s, .int .u64 se] 65))
    generalize w.alloc (.cells #[.int .i64 a, .int .i64 m, .int .u64 s, .int .u64 se] 65) = W at *
    have hlt : w.heap.size < W.heap.size := World.block_lt_of_cell? W _ p0
    have hne : Nonempty (ExtOf W) := ⟨⟨W, Below.refl _ _⟩⟩
    refine wp_region_ext (by kernel_rfl) (by kernel_rfl) ?_
    iterate 4 (go_big_quiet_step ((go_at_call 57; exact ext_time h1)))
    repeat (go_big_quiet_step ((go_at_call 57; exact ext_time h2)))
    refine wpQuiet_nil ?_
    intro X hw'
    obtain ⟨⟨X', hX⟩, hw''⟩ := hw'
    simp only at hw''
    subst hw''
    clear hne
    go_wp2
    go_ret
    exact ⟨by rw [hfin.out]; rfl, below_step HB.out hX⟩
  rw [h1, h2] at hfin
  go_enter Try.func46, Try.ntmps46
  go_wp2
  have hb0 := Box.new w 65 #[.int .i64 a, .int .i64 m, .int .u64 s, .int .u64 se]
  obtain ⟨p0, p1, p2, p3, pf⟩ := hb0.c4
  have HB := Lib.hid (below_alloc w (.cells #[.int .i64 a, .int .i64 m, .int .u64 s, .int .u64 se] 65))
  generalize w.alloc (.cells #[.int .i64 a, .int .i64 m, .int .u64 s, .int .u64 se] 65) = W at *
  have hlt : w.heap.size < W.heap.size := World.block_lt_of_cell? W _ p0
  clear hb0
  have hnew := World.new_ne W _ p0
  have hnew1 := World.new_ne W _ p1
  have hnew2 := World.new_ne W _ p2
  have hnew3 := World.new_ne W _ p3
  go_region_held3 (fun w' => w'.cell? ⟨w.heap.size, 0, none⟩ = some (.int .i64 a) ∧ w'.cell? ⟨w.heap.size, 1, none⟩ = some (.int .i64 m) ∧ w'.cell? ⟨w.heap.size, 2, none⟩ = some (.int .u64 s) ∧ w'.cell? ⟨w.heap.size, 3, none⟩ = some (.int .u64 se)) (first | go_keep | (exact ⟨(hb.cell (p := ⟨w.heap.size, 0, none⟩) (by simp; omega)).trans (by simp [*]), (hb.cell (p := ⟨w.heap.size, 1, none⟩) (by simp; omega)).trans (by simp [*]), (hb.cell (p := ⟨w.heap.size, 2, none⟩) (by simp; omega)).trans (by simp [*]), (hb.cell (p := ⟨w.heap.size, 3, none⟩) (by simp; omega)).trans (by simp [*])⟩)) (first | (go_at_call_of 57 (Value.int IntKind.i64 a); refine (time_at h1).mono ?_; rintro e w' ⟨rfl, rfl⟩) | (go_at_call 57; refine (time_at h2).mono ?_; rintro e w' ⟨rfl, rfl⟩) | (go_at_call 76; refine (seal_any W.heap.size a m s se key _ (by exact Box.new W 121 #[.int .i64 a, .int .i64 m, .int .u64 s, .int .u64 se, .int .u64 key])).mono ?_; rintro e w' ⟨rfl, hb⟩))
  have hfin2 := below_step HB.out (below_step ((below_alloc W (.cells #[.int .i64 a, .int .i64 m, .int .u64 s, .int .u64 se, .int .u64 key] 121)).drew) hb)
  have HB2 := Lib.hid hfin2
  clear hb hfin2
  cases hq : (se != sealI a m s key)
  · have he : Hid ((se == sealI a m s key) = true) := by unfold Hid; simpa using hq
    go_wp2
    go_ret
    exact ⟨by rw [hfin.out, he.out]; rfl, HB2.out⟩
  · have he : Hid ((se == sealI a m s key) = false) := by unfold Hid; simpa using hq
    go_wp2
    go_ret
    exact ⟨by rw [hfin.out, he.out]; rfl, HB2.out⟩

theorem refCheckCopy_any (a m s se key : Int) (w : World) : Calls Try.prog 47 #[.agg #[.int .i64 a, .int .i64 m, .int .u64 s, .int .u64 se], .int .u64 key] w fun e w' => e = .returned (.int .i64 (errB (sealedB a m s se key))) ∧ Below w.heap.size w w' := by
  cases hv : sealedB a m s se key
  all_goals
    have HV := Lib.hid hv
    clear hv
    go_enter Try.func47, Try.ntmps47
    go_wp2_with fail
    refine (refSealed_any _ _ _ _ _ _).mono ?_
    rintro e w1 ⟨rfl, hb1⟩
    rw [HV.out]
    have HB1 := Lib.hid (below_step (below_alloc w _) hb1)
    clear hb1
    go_wp2
    go_ret
    exact ⟨rfl, HB1.out⟩

def decF (a m : Int) (S : BitVec 64) (se key p now : Int) : Int × Int :=
  if sealedB a m S.toNat se key = false then (0, 8) else if inB 0 63 p = false ∨ inB 0 1099511627776 now = false then (0, 2)
  else if now < a then (0, 101) else if m < now - a then (3, 0) else (saidF S p, 0)
theorem sealedB_time {a m s se key : Int} (h : sealedB a m s se key = true) : inB 0 1099511627776 a = true ∧ inB 0 1099511627776 m = true ∧ se = sealI a m s key := by
  simp only [sealedB, Bool.and_eq_true, beq_iff_eq] at h
  exact ⟨h.1.1, h.1.2, h.2⟩
end Go.Proofs.Ytalmeokljamhdaa
