/- Copies: a copy of the list, in the reference. -/
import Derived.Test.YtalmeokljamhdaaMi
namespace Go.Proofs.Ytalmeokljamhdaa
open Go.RowKit

set_option maxHeartbeats 2000000 in
theorem refCopy_any (A : Option Addr) (l : List Chg) (n c : Nat) (t m key : Int) (w : World) (hr : Rd w A (flat cenc l)) (hn : n = l.length) (hl : n ≤ 1000) :
    Calls Try.prog 43 #[.slice A n c, .int .i64 t, .int .i64 m, .int .u64 key] w (KPost (copyF l t m key) w) := by
  have HR := Lib.hid hr
  have HN := Lib.hid hn
  clear hr hn
  rcases copy_cases l t m key with ⟨hv, hf⟩ | ⟨hv, h2, hf⟩ | ⟨hv, h2, h3, hf⟩ | ⟨hv, h2, h3, hf⟩
  case inr.inr.inr =>
    have HF := Lib.hid hf
    have HV := Lib.hid hv
    clear hf hv
    go_enter Try.func43, Try.ntmps43
    go_wp2_with fail
    refine (validChanges_any _ l _ _ _ (HR.out.below (below_alloc _ _)) HN.out hl).mono ?_
    rintro e w1 ⟨rfl, hb1⟩
    rw [HV.out]
    have HX := Lib.hid ((Box.new w 65 _).ext hb1)
    have HB := Lib.hid (below_step (below_alloc w _) hb1)
    have hs1 : w.heap.size < w1.heap.size := by have := hb1.size; simp only [World.size_alloc] at this; omega
    clear hb1
    go_wp2_with (go_at_call 61; refine (when_any _ _).mono ?_; rintro e w' ⟨rfl, rfl⟩)
    refine (refListed_any _ l _ _ _ _ (HR.out.below HB.out) HN.out hl HV.out).mono ?_
    rintro e w2 ⟨rfl, hb2⟩
    replace HX := Lib.hid (HX.out.ext hb2)
    have hs2 : w.heap.size < w2.heap.size := by have := hb2.size; omega
    replace HB := Lib.hid (below_step HB.out hb2)
    clear hb2
    generalize aftF 0#64 (betF l (-1) t) = S at HF ⊢
    go_wp2_with fail
    refine (refSeal_any _ _ _ _ _ _).mono ?_
    rintro e w3 ⟨rfl, hb3⟩
    obtain ⟨p0, p1, p2, p3, pf⟩ := ((HX.out.alloc _).ext hb3).c4
    obtain ⟨q0, q1, q2, q3, qf⟩ := ((Box.new w2 65 _).ext hb3).c4
    have HB3 := Lib.hid (below_step HB.out (below_step (below_alloc _ _) hb3))
    have hs3 : w2.heap.size < w3.heap.size := by have := hb3.size; simp only [World.size_alloc] at this; omega
    have hle : w.heap.size ≤ w2.heap.size := by omega
    clear hb3
    go_wp2
    refine bodyPost_ret (v := .tuple #[.agg #[.int .i64 t, .int .i64 m, .int .u64 S.toNat, .int .u64 (sealI t m S.toNat key)], .int .i64 0]) (by simp [results, Try.results43, go_sem, p0, p1, p2, p3]) rfl ?_
    unfold KPost
    rw [HF.out]
    exact ⟨rfl, ((((HB3.out.setCell (by exact hle) _).setCell (by simp) _).setCell (by simp) _).setCell (by simp) _).setCell (by simp) _⟩
  · have HF := Lib.hid hf
    have HV := Lib.hid hv
    clear hf hv
    go_enter Try.func43, Try.ntmps43
    go_wp2_with fail
    refine (validChanges_any _ l _ _ _ (HR.out.below (below_alloc _ _)) HN.out hl).mono ?_
    rintro e w1 ⟨rfl, hb1⟩
    rw [HV.out]
    obtain ⟨q0, q1, q2, q3, qf⟩ := ((Box.new w 65 _).ext hb1).c4
    have HB := Lib.hid (below_step (below_alloc w _) hb1)
    have hs1 : w.heap.size < w1.heap.size := by have := hb1.size; simp only [World.size_alloc] at this; omega
    clear hb1
    go_wp2_with (go_at_call 61; refine (when_any _ _).mono ?_; rintro e w' ⟨rfl, rfl⟩)
    refine bodyPost_ret (v := .tuple #[.agg #[.int .i64 0, .int .i64 0, .int .u64 0, .int .u64 0], .int .i64 8]) (by simp [results, Try.results43, go_sem, q0, q1, q2, q3]) rfl ?_
    unfold KPost
    rw [HF.out]
    exact ⟨rfl, (((HB.out.setCell (by simp) _).setCell (by simp) _).setCell (by simp) _).setCell (by simp) _⟩
  · have HF := Lib.hid hf
    have HV := Lib.hid hv
    clear hf hv
    go_enter Try.func43, Try.ntmps43
    go_wp2_with fail
    refine (validChanges_any _ l _ _ _ (HR.out.below (below_alloc _ _)) HN.out hl).mono ?_
    rintro e w1 ⟨rfl, hb1⟩
    rw [HV.out]
    obtain ⟨q0, q1, q2, q3, qf⟩ := ((Box.new w 65 _).ext hb1).c4
    have HB := Lib.hid (below_step (below_alloc w _) hb1)
    have hs1 : w.heap.size < w1.heap.size := by have := hb1.size; simp only [World.size_alloc] at this; omega
    clear hb1
    go_wp2_with (go_at_call 61; refine (when_any _ _).mono ?_; rintro e w' ⟨rfl, rfl⟩)
    refine bodyPost_ret (v := .tuple #[.agg #[.int .i64 0, .int .i64 0, .int .u64 0, .int .u64 0], .int .i64 2]) (by simp [results, Try.results43, go_sem, q0, q1, q2, q3]) rfl ?_
    unfold KPost
    rw [HF.out]
    exact ⟨rfl, (((HB.out.setCell (by simp) _).setCell (by simp) _).setCell (by simp) _).setCell (by simp) _⟩
  · have HF := Lib.hid hf
    have HV := Lib.hid hv
    clear hf hv
    go_enter Try.func43, Try.ntmps43
    go_wp2_with fail
    refine (validChanges_any _ l _ _ _ (HR.out.below (below_alloc _ _)) HN.out hl).mono ?_
    rintro e w1 ⟨rfl, hb1⟩
    rw [HV.out]
    obtain ⟨q0, q1, q2, q3, qf⟩ := ((Box.new w 65 _).ext hb1).c4
    have HB := Lib.hid (below_step (below_alloc w _) hb1)
    have hs1 : w.heap.size < w1.heap.size := by have := hb1.size; simp only [World.size_alloc] at this; omega
    clear hb1
    go_wp2_with (go_at_call 61; refine (when_any _ _).mono ?_; rintro e w' ⟨rfl, rfl⟩)
    refine bodyPost_ret (v := .tuple #[.agg #[.int .i64 0, .int .i64 0, .int .u64 0, .int .u64 0], .int .i64 2]) (by simp [results, Try.results43, go_sem, q0, q1, q2, q3]) rfl ?_
    unfold KPost
    rw [HF.out]
    exact ⟨rfl, (((HB.out.setCell (by simp) _).setCell (by simp) _).setCell (by simp) _).setCell (by simp) _⟩
end Go.Proofs.Ytalmeokljamhdaa
