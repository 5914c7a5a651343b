/- Rates: Differ of the reference. No condition. -/
import Derived.Test.YtnalbchggjepdaaTe
namespace Go.Proofs.Ytnalbchggjepdaa
open Go.RowKit
theorem tailF_no' {k n l m : Int} (h : tailOk k n l m = false) : tailF k n l m = (0, 2) := by simp [tailF, h]
theorem tailF_bd {k n l m : Int} (h : tailOk k n l m = true) : (tailF k n l m).2 = 0 ∧ 0 ≤ n ∧ n ≤ 25 ∧ 0 ≤ m ∧ m ≤ 25 := by
  have h' := h
  simp only [tailOk, Bool.and_eq_true, inB, decide_eq_true_eq] at h'
  refine ⟨by simp [tailF, h], by omega⟩
set_option maxRecDepth 100000 in
set_option maxHeartbeats 1000000 in
theorem refDiffer_any (k n l m num den : Int) (w : World) : Calls Try.prog 24 #[.int .i64 k, .int .i64 n, .int .i64 l, .int .i64 m, .agg #[.int .i64 num, .int .i64 den]] w fun e w' => e = .returned (.tuple #[.bool (differF k n l m num den).1, .int .i64 (differF k n l m num den).2]) ∧ Below w.heap.size w w' := by
  cases h1 : tailOk k n l m
  · have HP := Lib.hid (show differF k n l m num den = (false, 2) by simp [differF, h1])
    have HT := Lib.hid (tailF_no' h1)
    clear h1
    go_enter Try.func24, Try.ntmps24
    go_wp2_with fail
    refine (refTail_any k n l m _).mono ?_
    rintro e w1 ⟨rfl, hb1⟩
    rw [HT.out]
    go_wp2_with fail
    go_ret2
    exact ⟨by rw [HP.out]; rfl, below_step (below_alloc _ _) hb1⟩
  obtain ⟨ht2, hn⟩ := tailF_bd h1
  obtain ⟨t, ht1⟩ : ∃ t, (tailF k n l m).1 = t := ⟨_, rfl⟩
  cases h2 : shareB num den
  · have HP := Lib.hid (show differF k n l m num den = (false, 2) by simp [differF, h1, h2])
    have HT := Lib.hid (show tailF k n l m = (t, 0) from Prod.ext ht1 ht2)
    have HE := Lib.hid h2
    clear h1 h2 ht1 ht2
    go_enter Try.func24, Try.ntmps24
    go_wp2_with fail
    refine (refTail_any k n l m _).mono ?_
    rintro e w1 ⟨rfl, hb1⟩
    rw [HT.out]
    obtain ⟨c0, c1, _⟩ := ((Box.new w 23 #[.int .i64 num, .int .i64 den]).ext hb1).c2
    go_wp2_with fail
    refine (validShare_any num den _).mono ?_
    rintro e w2 ⟨rfl, hb2⟩
    rw [HE.out]
    go_wp2_with fail
    go_ret2
    exact ⟨by rw [HP.out]; rfl, below_step (below_step (below_alloc _ _) hb1) hb2⟩
  · have HT := Lib.hid (show tailF k n l m = (t, 0) from Prod.ext ht1 ht2)
    obtain ⟨n, rfl⟩ := Int.eq_ofNat_of_zero_le hn.1
    obtain ⟨m, rfl⟩ := Int.eq_ofNat_of_zero_le hn.2.2.1
    have HP := Lib.hid (show differF k n l m num den = (decide (wrap64 (t * den) ≤ wrap64 (num * ((pas (n + m) n : Nat) : Int))), 0) by simp [differF, h1, h2, ht1])
    have HE := Lib.hid h2
    clear h1 h2 ht1 ht2
    go_enter Try.func24, Try.ntmps24
    go_wp2_with fail
    refine (refTail_any k n l m _).mono ?_
    rintro e w1 ⟨rfl, hb1⟩
    rw [HT.out]
    obtain ⟨c0, c1, _⟩ := ((Box.new w 23 #[.int .i64 num, .int .i64 den]).ext hb1).c2
    go_wp2_with fail
    refine (validShare_any num den _).mono ?_
    rintro e w2 ⟨rfl, hb2⟩
    rw [HE.out]
    have hs1 : w.heap.size < w1.heap.size := by have := hb1.size; simp at this; omega
    obtain ⟨d0, d1, _⟩ := (((Box.new w 23 #[.int .i64 num, .int .i64 den]).ext hb1).ext hb2).c2
    have e1 : IntKind.i64.wrap ((n : Int) + (m : Int)) = (n : Int) + (m : Int) := IntWalk.i64_in _ (by omega)
    have hs2 : w.heap.size < w2.heap.size := by have := hb2.size; omega
    have hall := Lib.hid (below_step (below_step (below_alloc w _) hb1) hb2)
    clear c0 c1 hb1 hb2 hs1
    go_wp2_with fail
    have hne : Nonempty (ExtOf w2) := ⟨⟨w2, Below.refl _ _⟩⟩
    refine wp_region_ext (by kernel_rfl) (by kernel_rfl) ?_
    iterate 10 (go_big_quiet_step (fail))
    go_big_quiet_step ((go_at_call 56; exact ext_of (refWays_nat _ _ (n + m) n _ (by omega) rfl (by omega))))
    iterate 4 (go_big_quiet_step (fail))
    refine wpQuiet_nil ?_
    rintro _ ⟨x, rfl⟩
    go_wp2_with fail
    go_ret2
    exact ⟨by rw [HP.out]; rfl, below_step hall.out x.ext⟩
end Go.Proofs.Ytnalbchggjepdaa
