/- Rates: the table of the numbers of ways. No condition. -/
import Derived.Test.YtnalbchggjepdaaRows
import Derived.Test.YtnalbchggjepdaaBase
import Derived.Test.YtnalbchggjepdaaPa
import Derived.BigRegion
namespace Go.Proofs.Ytnalbchggjepdaa
open Go.RowKit

theorem zero127 : Try.zeroCells127 = Array.replicate 2601 (.int .i64 0) := by kernel_rfl
/-- A block of whole numbers. -/
def Tri (w : World) (B : Nat) (f : Nat → Int) : Prop := (∀ j, j < 2601 → w.cell? ⟨B, j, none⟩ = some (.int .i64 (f j))) ∧ (∀ o, w.frozen? ⟨B, o, none⟩ = false) ∧ B < w.heap.size
theorem Tri.drewN {w : World} {B : Nat} {f : Nat → Int} (h : Tri w B f) (n : Nat) : Tri (w.drewN n) B f := h
theorem Tri.congr {w : World} {B : Nat} {f g : Nat → Int} (h : Tri w B f) (hfg : ∀ j, j < 2601 → f j = g j) : Tri w B g := ⟨fun j hj => by rw [← hfg j hj]; exact h.1 j hj, h.2⟩
theorem Tri.set {w : World} {B i : Nat} {f : Nat → Int} (h : Tri w B f) (v : Int) (hi : i < 2601) : Tri (w.setCell ⟨B, i, none⟩ (.int .i64 v)) B (fun j => if j = i then v else f j) := by
  refine ⟨fun j hj => ?_, fun o => by rw [World.frozen?_setCell]; exact h.2.1 o, by simpa using h.2.2⟩
  by_cases e : j = i
  · subst e
    rw [World.cell?_setCell_same w _ _ (h.1 j hj)]
    simp
  · rw [World.cell?_setCell_other w _ _ _ (by intro e'; injection e' with _ e'; exact e e'.symm)]
    simp only [e, if_false]
    exact h.1 j hj
theorem Tri.below {w w' : World} {B : Nat} {f : Nat → Int} (h : Tri w B f) (hb : Below w.heap.size w w') : Tri w' B f :=
  ⟨fun j hj => (hb.cell (p := ⟨B, j, none⟩) h.2.2).trans (h.1 j hj), fun o => (hb.frozen (p := ⟨B, o, none⟩) h.2.2).trans (h.2.1 o), by have := hb.size; have := h.2.2; omega⟩
theorem Tri.new (w : World) : Tri (w.alloc (.cells Try.zeroCells127 127)) w.heap.size (fun _ => 0) := by
  rw [zero127]
  exact ⟨fun j hj => by rw [World.cell?_alloc_new]; simp [hj], fun o => World.frozen?_alloc_new w _ _ o, by simp⟩
/-- The table up to row a, and in it up to column b. -/
def triF (a b j : Nat) : Int := if j / 51 < a ∨ (j / 51 = a ∧ j % 51 < b) then (pas (j / 51) (j % 51) : Nat) else 0
theorem triF_row (a j : Nat) : triF a (a + 1) j = triF (a + 1) 0 j := by
  unfold triF
  have h := Nat.mod_lt j (show 0 < 51 by omega)
  by_cases c : j / 51 < a ∨ (j / 51 = a ∧ j % 51 < a + 1)
  · rw [if_pos c, if_pos (by omega)]
  · rw [if_neg c]
    split
    · rw [pas_gt _ _ (by omega)]; rfl
    · rfl
theorem triF_at (a b x y : Nat) (hy : y < 51) : triF a b (x * 51 + y) = if x < a ∨ (x = a ∧ y < b) then (pas x y : Nat) else 0 := by
  unfold triF
  have e1 : (x * 51 + y) / 51 = x := by omega
  have e2 : (x * 51 + y) % 51 = y := by omega
  rw [e1, e2]
  split <;> rfl
theorem triF_step (a b : Nat) (hb : b ≤ 50) (v : Int) (hv : v = (pas a b : Nat)) : ∀ j, j < 2601 → (if j = a * 51 + b then v else triF a b j) = triF a (b + 1) j := by
  intro j _
  by_cases e : j = a * 51 + b
  · subst e
    rw [if_pos rfl, triF_at _ _ _ _ (by omega), if_pos (by omega), hv]
  · rw [if_neg e]
    unfold triF
    by_cases c : j / 51 < a ∨ (j / 51 = a ∧ j % 51 < b)
    · rw [if_pos c, if_pos (by omega)]
    · rw [if_neg c, if_neg (by omega)]
theorem triF_zero (j : Nat) : triF 0 0 j = 0 := by
  unfold triF
  rw [if_neg (by omega)]
theorem pas_small (a b : Nat) (h : a ≤ 50) : pas a b ≤ 1125899906842624 :=
  Nat.le_trans (pas_le a b) (Nat.le_trans (Nat.pow_le_pow_right (by omega) h) (by decide))
/-- What the call leaves: a table of all numbers of ways. -/
def WaysPost (w : World) (e : Ending) (w' : World) : Prop := ∃ B, e = .returned (.pointer (some ⟨B, 0, none⟩)) ∧ Tri w' B (triF 51 0) ∧ Below w.heap.size w w'
set_option maxHeartbeats 1000000 in
theorem ways_any (w : World) : Calls Try.prog 54 #[] w (WaysPost w) := by
  go_enter Try.func54, Try.ntmps54
  go_wp2_with fail
  have q0 := Lib.hid (Tri.new w)
  have qb : Below w.heap.size w (w.alloc (.cells Try.zeroCells127 127)) := below_alloc _ _
  generalize hW0 : w.alloc (.cells Try.zeroCells127 127) = W0 at q0 qb ⊢
  have hs : W0.heap.size = w.heap.size + 1 := by rw [← hW0]; simp
  have HS := Lib.hid hs
  clear hW0 hs
  generalize hB : w.heap.size = B at *
  have HB := Lib.hid hB
  clear hB
  go_loopw [2, 3, 4] (fun _ _ u4 wr => ∃ a : Nat, a ≤ 51 ∧ u4 = .int .i64 a ∧ Hid (Tri wr B (triF a 0)) ∧ Below B w wr) (fun _ _ u4 _ => 51 - (intOf u4).toNat)
  case atStart => exact ⟨0, by omega, rfl, q0.out.congr fun j _ => (triF_zero j).symm, qb⟩
  case round =>
    obtain ⟨a, ha, rfl, ht, hb⟩ := hrel
    by_cases hlt : a < 51
    · have hx0 := ht.out.1 (a * 51) (by omega)
      have hf := ht.out.2.1
      have h1 := Lib.hid ((ht.out.set 1 (show a * 51 < 2601 by omega)).congr (triF_step a 0 (by omega) 1 (by rw [pas_zero]; rfl)))
      go_wp2_with fail
      have hb1 : Below B w (wr.setCell ⟨B, a * 51, none⟩ (.int .i64 1)) := hb.setCell (Nat.le_refl _) _
      generalize wr.setCell ⟨B, a * 51, none⟩ (.int .i64 1) = W1 at h1 hb1 ⊢
      clear hx0 hf ht hb
      go_loopw [3] (fun u3 wx => ∃ b : Nat, 1 ≤ b ∧ b ≤ a + 1 ∧ u3 = .int .i64 b ∧ Hid (Tri wx B (triF a b)) ∧ Below B w wx) (fun u3 _ => 60 - (intOf u3).toNat)
      case atStart => exact ⟨1, by omega, by omega, rfl, h1.out, hb1⟩
      case round =>
        obtain ⟨b, hb1, hba, rfl, ht, hb⟩ := hrel
        by_cases hlt2 : b ≤ a
        · have hx0 := ht.out.1 (a * 51 + b) (by omega)
          have hx1 := ht.out.1 ((a - 1) * 51 + (b - 1)) (by omega)
          have hx2 := ht.out.1 ((a - 1) * 51 + b) (by omega)
          have hf := ht.out.2.1
          rw [triF_at _ _ _ _ (by omega), if_pos (by omega)] at hx1 hx2
          have p1 := pas_small (a - 1) (b - 1) (by omega)
          have p2 := pas_small (a - 1) b (by omega)
          have hp : pas (a - 1) (b - 1) + pas (a - 1) b = pas a b := by
            obtain ⟨a', rfl⟩ : ∃ a', a = a' + 1 := ⟨a - 1, by omega⟩
            obtain ⟨b', rfl⟩ : ∃ b', b = b' + 1 := ⟨b - 1, by omega⟩
            rfl
          have h2 := Lib.hid ((ht.out.set ((pas (a - 1) (b - 1) : Nat) + (pas (a - 1) b : Nat)) (show a * 51 + b < 2601 by omega)).congr (triF_step a b (by omega) _ (by rw [← hp]; simp)))
          clear hp
          generalize pas (a - 1) (b - 1) = v1 at *
          generalize pas (a - 1) b = v2 at *
          go_wp2_with fail
          go_region
          go_wp2_with fail
          go_roundw
          case rel => exact ⟨b + 1, by omega, by omega, by go_num, h2.out, (below_drewN hb 1).setCell (Nat.le_refl _) _⟩
          case measure => simp [intOf]; omega
        · obtain rfl : b = a + 1 := by omega
          have h3 := Lib.hid (ht.out.congr fun j _ => triF_row a j)
          go_wp2_with fail
          go_roundw
          case rel => exact ⟨a + 1, by omega, by go_num, h3.out, hb⟩
          case measure => simp [intOf]; omega
    · obtain rfl : a = 51 := by omega
      go_wp2_with fail
      go_ret
      exact ⟨B, rfl, ht.out, by rw [HB.out]; exact hb⟩
end Go.Proofs.Ytnalbchggjepdaa
