/- Rates: Differ of the program and of the reference. No condition. -/
import Derived.Test.YtnalbchggjepdaaTe
import Derived.Deep.RegionWith
namespace Go.Proofs.Ytnalbchggjepdaa
open Go.RowKit

theorem tailF_no {k n l m : Int} (h : tailOk k n l m = false) : tailF k n l m = (0, 2) := by simp [tailF, h]
theorem tailF_yes {k n l m : Int} (h : tailOk k n l m = true) : (tailF k n l m).2 = 0 ∧ ∃ t : Nat, (tailF k n l m).1 = t ∧ t ≤ 29273397577908224 ∧ 0 ≤ n ∧ n ≤ 25 ∧ 0 ≤ m ∧ m ≤ 25 := by
  have h' := h
  simp only [tailOk, Bool.and_eq_true, inB, decide_eq_true_eq] at h'
  refine ⟨by simp [tailF, h], tail k.toNat n.toNat (k.toNat + l.toNat) m.toNat, by simp [tailF, h], ?_, by omega⟩
  have := sumF_le (term n.toNat (k.toNat + l.toNat) m.toNat) k.toNat (n.toNat + 1 - k.toNat) 1125899906842624 (fun i => pas_mul _ _ _ _ (by omega))
  unfold tail
  have h26 : (n.toNat + 1 - k.toNat) * 1125899906842624 ≤ 26 * 1125899906842624 := Nat.mul_le_mul_right _ (by omega)
  omega
theorem below_drew' {B : Nat} {a w : World} (h : Below B a w) : Below B a w.drew := h.drew
theorem share_bd {num den : Int} (h : shareB num den = true) : 1 ≤ den ∧ den ≤ 1000 ∧ 0 ≤ num ∧ num ≤ den := by
  simp only [shareB, Bool.and_eq_true, inB, decide_eq_true_eq] at h
  omega
set_option maxRecDepth 100000 in
set_option maxHeartbeats 1000000 in
theorem differ_any (k n l m num den : Int) (w : World) : Calls Try.prog 23 #[.int .i64 k, .int .i64 n, .int .i64 l, .int .i64 m, .agg #[.int .i64 num, .int .i64 den]] w fun e w' => e = .returned (.tuple #[.bool (differF k n l m num den).1, .int .i64 (differF k n l m num den).2]) ∧ Below w.heap.size w w' := by
  cases h1 : tailOk k n l m
  · have HP := Lib.hid (show differF k n l m num den = (false, 2) by simp [differF, h1])
    have HT := Lib.hid (tailF_no h1)
    clear h1
    go_enter Try.func23, Try.ntmps23
    go_wp2_with fail
    refine (tail_any k n l m _).mono ?_
    rintro e w1 ⟨rfl, hb1⟩
    rw [HT.out]
    go_wp2_with fail
    go_ret2
    exact ⟨by rw [HP.out]; rfl, below_step (below_alloc _ _) hb1⟩
  obtain ⟨ht2, t, ht1, hbt, hn⟩ := tailF_yes h1
  cases h2 : shareB num den
  · have HP := Lib.hid (show differF k n l m num den = (false, 2) by simp [differF, h1, h2])
    have HT := Lib.hid (show tailF k n l m = ((t : Int), 0) from Prod.ext ht1 ht2)
    have HE := Lib.hid (show errA (shareB num den) = 2 by simp [errA, h2])
    clear h1 h2 ht1 ht2
    go_enter Try.func23, Try.ntmps23
    go_wp2_with fail
    refine (tail_any k n l m _).mono ?_
    rintro e w1 ⟨rfl, hb1⟩
    rw [HT.out]
    obtain ⟨c0, c1, _⟩ := ((Box.new w 23 #[.int .i64 num, .int .i64 den]).ext hb1).c2
    go_wp2_with fail
    refine (checkShare_any num den _).mono ?_
    rintro e w2 ⟨rfl, hb2⟩
    rw [HE.out]
    go_wp2_with fail
    go_ret2
    exact ⟨by rw [HP.out]; rfl, below_step (below_step (below_alloc _ _) hb1) hb2⟩
  · have hsb := share_bd h2
    have HT := Lib.hid (show tailF k n l m = ((t : Int), 0) from Prod.ext ht1 ht2)
    obtain ⟨n, rfl⟩ := Int.eq_ofNat_of_zero_le hn.1
    obtain ⟨m, rfl⟩ := Int.eq_ofNat_of_zero_le hn.2.2.1
    have HP := Lib.hid (show differF k n l m num den = (decide (IntKind.i64.wrap ((t : Int) * den) ≤ IntKind.i64.wrap (num * ((pas (n + m) n : Nat) : Int))), 0) by simp [differF, h1, h2, ht1, wrap_eq])
    have HE := Lib.hid (show errA (shareB num den) = 0 by simp [errA, h2])
    clear h1 h2 ht1 ht2
    go_enter Try.func23, Try.ntmps23
    go_wp2_with fail
    refine (tail_any k n l m _).mono ?_
    rintro e w1 ⟨rfl, hb1⟩
    rw [HT.out]
    obtain ⟨c0, c1, _⟩ := ((Box.new w 23 #[.int .i64 num, .int .i64 den]).ext hb1).c2
    go_wp2_with fail
    refine (checkShare_any num den _).mono ?_
    rintro e w2 ⟨rfl, hb2⟩
    rw [HE.out]
    have hs1 : w.heap.size < w1.heap.size := by have := hb1.size; simp at this; omega
    obtain ⟨d0, d1, _⟩ := (((Box.new w 23 #[.int .i64 num, .int .i64 den]).ext hb1).ext hb2).c2
    have e1 : IntKind.i64.wrap ((n : Int) + (m : Int)) = (n : Int) + (m : Int) := IntWalk.i64_in _ (by omega)
    have e2 : ((n : Int) + (m : Int)).toNat = n + m := by omega
    have b1 : (0 : Int) ≤ (n : Int) + (m : Int) := by omega
    have b2 : (n : Int) + (m : Int) < 51 := by omega
    have b3 : (n : Int) < 51 := by omega
    have hs2 : w.heap.size < w2.heap.size := by have := hb2.size; omega
    clear c0 c1
    go_wp2_with fail
    go_region_with (go_at_call 54; refine (ways_any _).mono ?_; rintro e w3 ⟨B, rfl, ht, hb3⟩; have hc := ht.1 ((n + m) * 51 + n) (by omega); rw [triF_at _ _ _ _ (by omega), if_pos (by omega)] at hc; have f0 := (hb3.cell (p := ⟨w.heap.size, 0, none⟩) (by simpa using hs2)).trans (by simpa using d0); have f1 := (hb3.cell (p := ⟨w.heap.size, 1, none⟩) (by simpa using hs2)).trans (by simpa using d1); clear ht)
    all_goals go_wp2_with fail
    all_goals go_ret2
    all_goals exact ⟨by rw [HP.out]; rfl, below_step (below_step (below_step (below_alloc _ _) hb1) (below_drew' hb2)) hb3⟩
end Go.Proofs.Ytnalbchggjepdaa
