/- The chapter's examples: the changes and the line. -/
import Derived.Test.YtalmeokljamhdaaMl
import Derived.Test.YtalmeokljamhdaaQf
namespace Go.Proofs.Ytalmeokljamhdaa
open Go.RowKit

def chgs : List Chg := [⟨5, 3, true⟩, ⟨7, 3, false⟩, ⟨7, 9, true⟩]
/-- The examples' changes in new memory. -/
def ChPost (w : World) (e : Ending) (w' : World) : Prop := ∃ A c, e = .returned (.slice A 3 c) ∧ Ow w' w.heap.size A (flat cenc chgs) ∧ Below w.heap.size w w'
theorem ow_new (w : World) (cs : Array Value) (t : TypeId) (n : Nat) (hn : n = w.heap.size) (base : Nat) (hb : base ≤ n) : Ow (w.alloc (.cells cs t)) base (some ⟨n, 0, none⟩) cs.toList := by
  subst hn
  exact .inr ⟨_, 0, rfl, hb, by simp, fun j u hu => by rw [Nat.zero_add, World.cell?_alloc_new]; simpa using hu, fun o => World.frozen?_alloc_new w cs t o⟩
theorem changes_any (w : World) : Calls Try.prog 49 #[] w (ChPost w) := by
  go_enter Try.func49, Try.ntmps49
  go_wp2
  go_ret
  exact ⟨_, _, rfl, ow_new w _ 62 _ rfl _ (Nat.le_refl _), below_alloc _ _⟩

def lineL (k : Nat) : List Gst := [⟨0, false, 0⟩, ⟨1, false, 0⟩, ⟨2, true, 0⟩, ⟨3, true, 0⟩].take k
def flagL (k : Nat) : Bool := [false, false, true, true].getD k false
theorem lineL_len {k : Nat} (h : k ≤ 4) : (lineL k).length = k := by simp [lineL]; omega
theorem joinF_line {k : Nat} (h : k < 4) : joinF 1 k (lineL k) (flagL k) = (1, (k : Int) + 1, lineL (k + 1), (k : Int), 0) := by
  obtain rfl | rfl | rfl | rfl : k = 0 ∨ k = 1 ∨ k = 2 ∨ k = 3 := by omega
  all_goals rfl
/-- A queue in memory. -/
def QBox (w : World) (B base : Nat) (lim next : Int) (l : List Gst) : Prop := ∃ A c, Box w B [.int .i64 lim, .int .i64 next, .slice A l.length c] ∧ Ow w base A (flat genc l) ∧ l.length ≤ c
/-- A queue as a value. -/
def QVal (r : Int × Int × List Gst) (w : World) (e : Ending) (w' : World) : Prop :=
  ∃ A c, r.2.2.length ≤ c ∧ e = .returned (.agg #[.int .i64 r.1, .int .i64 r.2.1, .slice A r.2.2.length c]) ∧ Ow w' w.heap.size A (flat genc r.2.2) ∧ Below w.heap.size w w'

set_option maxRecDepth 100000 in
set_option maxHeartbeats 2000000 in
theorem line_any (w : World) : Calls Try.prog 80 #[] w (QVal (1, 4, lineL 4) w) := by
  go_enter Try.func80, Try.ntmps80
  go_wp2_with fail
  refine (newQueue_any 1 _).mono ?_
  rintro e w1 ⟨rfl, hb1⟩
  rw [show newF 1 = (1, 0) from rfl]
  have hr0 := (Box.new w 24 #[.int .i64 0, .int .i64 0, .slice none 0 0]).ext hb1
  have HB1 := Lib.hid (below_step (below_alloc w _) hb1)
  have hs1 : w.heap.size < w1.heap.size := hr0.2.2
  have HR0 := Lib.hid hr0
  clear hb1 hr0
  go_wp2
  have hq := (Box.new w1 24 #[.int .i64 1, .int .i64 0, .slice none 0 0]).alloc (.cells #[.bool false, .bool false, .bool true, .bool true] 4)
  have hf := Box.new (w1.alloc (.cells #[.int .i64 1, .int .i64 0, .slice none 0 0] 24)) 4 #[.bool false, .bool false, .bool true, .bool true]
  have hr := ((HR0.out.alloc (.cells #[.int .i64 1, .int .i64 0, .slice none 0 0] 24)).alloc (.cells #[.bool false, .bool false, .bool true, .bool true] 4))
  have hbb := below_more (below_more HB1.out (.cells #[.int .i64 1, .int .i64 0, .slice none 0 0] 24)) (.cells #[.bool false, .bool false, .bool true, .bool true] 4)
  simp only [World.size_alloc] at hf
  generalize (w1.alloc (.cells #[.int .i64 1, .int .i64 0, .slice none 0 0] 24)).alloc (.cells #[.bool false, .bool false, .bool true, .bool true] 4) = W at *
  have hsW := hf.2.2
  have HQ := Lib.hid hq
  have HF := Lib.hid hf
  have HR := Lib.hid hr
  have HBB := Lib.hid hbb
  clear hq hf hr hbb HR0 HB1
  go_loopw [11] (fun u11 wr => ∃ (k : Nat), k ≤ 4 ∧ u11 = .int .i64 k ∧ Hid (QBox wr w1.heap.size W.heap.size 1 k (lineL k)) ∧ Hid (Box wr (w1.heap.size + 1) [.bool false, .bool false, .bool true, .bool true]) ∧ Hid (Box wr w.heap.size [.int .i64 0, .int .i64 0, .slice none 0 0]) ∧ Hid (Below w.heap.size w wr) ∧ W.heap.size ≤ wr.heap.size) (fun u11 _ => 4 - (intOf u11).toNat)
  case atStart => exact ⟨0, by omega, rfl, ⟨none, 0, HQ.out, Ow.nil _ _ _, Nat.le_refl _⟩, HF.out, HR.out, HBB.out, Nat.le_refl _⟩
  case round =>
    obtain ⟨k, hk, rfl, hq, hf, hr, hb, hsz⟩ := hrel
    obtain ⟨A, c, hqb, how, hc⟩ := hq.out
    have HOW := Lib.hid how
    have HQB := Lib.hid hqb
    have HLL := Lib.hid (lineL_len hk)
    rw [HLL.out] at hc
    clear hqb how
    have hs2 := HQB.out.2.2
    obtain ⟨f0, f1, f2, f3, ff⟩ := hf.out.c4
    by_cases hlt : k < 4
    · have HJ := Lib.hid (joinF_line hlt)
      have HLL2 := Lib.hid (lineL_len (k := k + 1) (by omega))
      have hfl : wr.cell? ⟨w1.heap.size + 1, k, none⟩ = some (.bool (flagL k)) := by
        obtain rfl | rfl | rfl | rfl : k = 0 ∨ k = 1 ∨ k = 2 ∨ k = 3 := by omega
        · exact f0
        · exact f1
        · exact f2
        · exact f3
      clear f0 f1 f2 f3
      generalize flagL k = fl at hfl HJ
      obtain ⟨q0, q1, q2, qf⟩ := HQB.out.c3
      rw [HLL.out] at q2
      go_wp2_with fail
      refine (join_cap 1 k A (lineL k) k c fl _ HOW.out.rd HLL.out.symm (by omega) hc).mono ?_
      rintro e w2 ⟨A2, c2, hc2, he, how2, hb2⟩
      rw [HJ.out] at hc2 he how2
      simp only at hc2 he how2
      rw [HLL2.out] at hc2 he
      subst he
      have hq2 := HQB.out.ext hb2
      have hr2 := hr.out.ext hb2
      have hf2 := hf.out.ext hb2
      have HB2 := Lib.hid (below_step hb.out hb2)
      have hsz2 : wr.heap.size ≤ w2.heap.size := hb2.size
      have HOW2 := Lib.hid how2
      clear q0 q1 q2 qf hb2 how2 hfl ff
      obtain ⟨q0, q1, q2, qf⟩ := hq2.c3
      have HQ2 := Lib.hid hq2
      have HR2 := Lib.hid hr2
      have HF2 := Lib.hid hf2
      clear hq2 hr2 hf2
      go_wp2
      go_roundw
      case rel =>
        refine ⟨k + 1, by omega, by go_num, ⟨A2, c2, ?_, ?_, by rw [HLL2.out]; exact hc2⟩, ((HF2.out.far _ (by omega)).far _ (by omega)).far _ (by omega), ((HR2.out.far _ (by omega)).far _ (by omega)).far _ (by omega), (((HB2.out.setCell (by simp; omega) _).setCell (by simp; omega) _).setCell (by simp; omega) _), by simp; omega⟩
        · rw [HLL2.out]
          exact ((HQ2.out.set (i := 0) _ (by simp)).set (i := 1) _ (by simp)).set (i := 2) _ (by simp)
        · exact (((HOW2.out.mono (by omega)).far _ (by omega)).far _ (by omega)).far _ (by omega)
      case measure => simp [intOf]; omega
    · obtain rfl : k = 4 := by omega
      obtain ⟨q0, q1, q2, qf⟩ := HQB.out.c3
      obtain ⟨r0, r1, r2, rf⟩ := hr.out.c3
      rw [HLL.out] at q2
      go_wp2
      refine bodyPost_ret (v := .agg #[.int .i64 1, .int .i64 4, .slice A 4 c]) (by simp [results, Try.results80, go_sem, r0, r1, r2]) rfl ⟨A, c, hc, rfl, ?_, (((hb.out.setCell (by simp) _).setCell (by simp) _).setCell (by simp) _)⟩
      exact (((HOW.out.far _ (by omega)).far _ (by omega)).far _ (by omega)).mono (by omega)
end Go.Proofs.Ytalmeokljamhdaa
