/- Copies: a copy after changes, for any arguments, in the program and in the reference. -/
import Derived.Test.YtalmeokljamhdaaMk
import Derived.Test.YtalmeokljamhdaaMj
namespace Go.Proofs.Ytalmeokljamhdaa
open Go.RowKit

set_option maxHeartbeats 2000000 in
theorem apply_any (a m : Int) (S : BitVec 64) (se : Int) (A : Option Addr) (l : List Chg) (n c : Nat) (z key : Int) (w : World) (hr : Rd w A (flat cenc l)) (hn : n = l.length) (hl : n ≤ 1000) :
    Calls Try.prog 44 #[.agg #[.int .i64 a, .int .i64 m, .int .u64 S.toNat, .int .u64 se], .slice A n c, .int .i64 z, .int .u64 key] w (KPost (applyF a m S se l z key) w) := by
  rcases apply_cases a m S se l z key with ⟨hs, hf⟩ | ⟨hs, hv, hf⟩ | ⟨hs, hv, h1, hf⟩ | ⟨hs, hv, h1, h2, hf⟩ | ⟨hs, hv, h1, h2, h3, hf⟩ | ⟨hs, hv, h1, h2, h3, hf⟩
  case inr.inr.inr.inr.inl => exact apply_ok a m S se A l n c z key w hr hn hl hs hv h1 h2
  case inr.inr.inr.inr.inr => exact apply_ok a m S se A l n c z key w hr hn hl hs hv h1 h2
  · have HF := Lib.hid hf
    have HS := Lib.hid hs
    clear hf hs hr hn
    go_enter Try.func44, Try.ntmps44
    go_wp2_with fail
    refine (checkCopy_any _ _ _ _ _ _).mono ?_
    rintro e w1 ⟨rfl, hb1⟩
    rw [HS.out]
    simp only [errB, Bool.false_eq_true, if_false]
    obtain ⟨p0, p1, p2, p3, pf⟩ := (((Box.new w 65 _).alloc _).ext hb1).c4
    obtain ⟨q0, q1, q2, q3, qf⟩ := ((Box.new _ 65 _).ext hb1).c4
    simp only [World.size_alloc] at q0 q1 q2 q3 qf
    have HB := Lib.hid (below_step (below_more (below_alloc w _) _) hb1)
    clear hb1
    go_wp2
    refine bodyPost_ret (v := .tuple #[.agg #[.int .i64 0, .int .i64 0, .int .u64 0, .int .u64 0], .int .i64 8]) (by simp [results, Try.results44, go_sem, q0, q1, q2, q3]) rfl ?_
    unfold KPost
    rw [HF.out]
    exact ⟨rfl, (((HB.out.setCell (by simp) _).setCell (by simp) _).setCell (by simp) _).setCell (by simp) _⟩
  · have HF := Lib.hid hf
    have HS := Lib.hid hs
    have HV := Lib.hid hv
    have HR := Lib.hid hr
    have HN := Lib.hid hn
    clear hf hs hv hr hn
    go_enter Try.func44, Try.ntmps44
    go_wp2_with fail
    refine (checkCopy_any _ _ _ _ _ _).mono ?_
    rintro e w1 ⟨rfl, hb1⟩
    rw [HS.out]
    simp only [errB, if_true]
    have HK := Lib.hid (((Box.new w 65 _).alloc _).ext hb1)
    have HX := Lib.hid ((Box.new _ 65 _).ext hb1)
    simp only [World.size_alloc] at HX
    have HB := Lib.hid (below_step (below_more (below_alloc w _) _) hb1)
    clear hb1
    go_wp2_with fail
    refine (checkChanges_any _ l _ _ _ (HR.out.below HB.out) HN.out hl).mono ?_
    rintro e w2 ⟨rfl, hb2⟩
    rw [HV.out]
    simp only [errB, Bool.false_eq_true, if_false]
    obtain ⟨p0, p1, p2, p3, pf⟩ := (HK.out.ext hb2).c4
    obtain ⟨q0, q1, q2, q3, qf⟩ := (HX.out.ext hb2).c4
    replace HB := Lib.hid (below_step HB.out hb2)
    clear hb2
    go_wp2_with (go_at_call 57; refine (isTime_any _ _).mono ?_; rintro e w' ⟨rfl, rfl⟩)
    refine bodyPost_ret (v := .tuple #[.agg #[.int .i64 0, .int .i64 0, .int .u64 0, .int .u64 0], .int .i64 8]) (by simp [results, Try.results44, go_sem, q0, q1, q2, q3]) rfl ?_
    unfold KPost
    rw [HF.out]
    exact ⟨rfl, (((HB.out.setCell (by simp) _).setCell (by simp) _).setCell (by simp) _).setCell (by simp) _⟩
  · have HF := Lib.hid hf
    have HS := Lib.hid hs
    have HV := Lib.hid hv
    have HR := Lib.hid hr
    have HN := Lib.hid hn
    clear hf hs hv hr hn
    go_enter Try.func44, Try.ntmps44
    go_wp2_with fail
    refine (checkCopy_any _ _ _ _ _ _).mono ?_
    rintro e w1 ⟨rfl, hb1⟩
    rw [HS.out]
    simp only [errB, if_true]
    have HK := Lib.hid (((Box.new w 65 _).alloc _).ext hb1)
    have HX := Lib.hid ((Box.new _ 65 _).ext hb1)
    simp only [World.size_alloc] at HX
    have HB := Lib.hid (below_step (below_more (below_alloc w _) _) hb1)
    clear hb1
    go_wp2_with fail
    refine (checkChanges_any _ l _ _ _ (HR.out.below HB.out) HN.out hl).mono ?_
    rintro e w2 ⟨rfl, hb2⟩
    rw [HV.out]
    simp only [errB, if_true]
    obtain ⟨p0, p1, p2, p3, pf⟩ := (HK.out.ext hb2).c4
    obtain ⟨q0, q1, q2, q3, qf⟩ := (HX.out.ext hb2).c4
    replace HB := Lib.hid (below_step HB.out hb2)
    clear hb2
    go_wp2_with (go_at_call 57; refine (isTime_any _ _).mono ?_; rintro e w' ⟨rfl, rfl⟩)
    refine bodyPost_ret (v := .tuple #[.agg #[.int .i64 0, .int .i64 0, .int .u64 0, .int .u64 0], .int .i64 2]) (by simp [results, Try.results44, go_sem, q0, q1, q2, q3]) rfl ?_
    unfold KPost
    rw [HF.out]
    exact ⟨rfl, (((HB.out.setCell (by simp) _).setCell (by simp) _).setCell (by simp) _).setCell (by simp) _⟩
  · have HF := Lib.hid hf
    have HS := Lib.hid hs
    have HV := Lib.hid hv
    have HR := Lib.hid hr
    have HN := Lib.hid hn
    clear hf hs hv hr hn
    have hza : decide (z < a) = true := by simpa using h2
    go_enter Try.func44, Try.ntmps44
    go_wp2_with fail
    refine (checkCopy_any _ _ _ _ _ _).mono ?_
    rintro e w1 ⟨rfl, hb1⟩
    rw [HS.out]
    simp only [errB, if_true]
    have HK := Lib.hid (((Box.new w 65 _).alloc _).ext hb1)
    have HX := Lib.hid ((Box.new _ 65 _).ext hb1)
    simp only [World.size_alloc] at HX
    have HB := Lib.hid (below_step (below_more (below_alloc w _) _) hb1)
    clear hb1
    go_wp2_with fail
    refine (checkChanges_any _ l _ _ _ (HR.out.below HB.out) HN.out hl).mono ?_
    rintro e w2 ⟨rfl, hb2⟩
    rw [HV.out]
    simp only [errB, if_true]
    obtain ⟨p0, p1, p2, p3, pf⟩ := (HK.out.ext hb2).c4
    obtain ⟨q0, q1, q2, q3, qf⟩ := (HX.out.ext hb2).c4
    replace HB := Lib.hid (below_step HB.out hb2)
    clear hb2
    go_wp2_with (go_at_call 57; refine (isTime_any _ _).mono ?_; rintro e w' ⟨rfl, rfl⟩)
    refine bodyPost_ret (v := .tuple #[.agg #[.int .i64 0, .int .i64 0, .int .u64 0, .int .u64 0], .int .i64 101]) (by simp [results, Try.results44, go_sem, q0, q1, q2, q3]) rfl ?_
    unfold KPost
    rw [HF.out]
    exact ⟨rfl, (((HB.out.setCell (by simp) _).setCell (by simp) _).setCell (by simp) _).setCell (by simp) _⟩

set_option maxHeartbeats 4000000 in
theorem refApply_any (a m : Int) (S : BitVec 64) (se : Int) (A : Option Addr) (l : List Chg) (n c : Nat) (z key : Int) (w : World) (hr : Rd w A (flat cenc l)) (hn : n = l.length) (hl : n ≤ 1000) :
    Calls Try.prog 45 #[.agg #[.int .i64 a, .int .i64 m, .int .u64 S.toNat, .int .u64 se], .slice A n c, .int .i64 z, .int .u64 key] w (KPost (applyF a m S se l z key) w) := by
  rcases apply_cases a m S se l z key with ⟨hs, hf⟩ | ⟨hs, hv, hf⟩ | ⟨hs, hv, h1, hf⟩ | ⟨hs, hv, h1, h2, hf⟩ | ⟨hs, hv, h1, h2, h3, hf⟩ | ⟨hs, hv, h1, h2, h3, hf⟩
  · have HF := Lib.hid hf
    have HS := Lib.hid hs
    have HR := Lib.hid hr
    have HN := Lib.hid hn
    clear hf hs  hr hn
    go_enter Try.func45, Try.ntmps45
    go_wp2_with fail
    refine (refSealed_any _ _ _ _ _ _).mono ?_
    rintro e w1 ⟨rfl, hb1⟩
    rw [HS.out]
    have HK := Lib.hid (((Box.new w 65 _).alloc _).ext hb1)
    have HX := Lib.hid ((Box.new _ 65 _).ext hb1)
    simp only [World.size_alloc] at HX
    have HB := Lib.hid (below_step (below_more (below_alloc w _) _) hb1)
    have hs1 : w.heap.size + 1 < w1.heap.size := by have := hb1.size; simp only [World.size_alloc] at this; omega
    clear hb1
    obtain ⟨p0, p1, p2, p3, pf⟩ := HK.out.c4
    obtain ⟨q0, q1, q2, q3, qf⟩ := HX.out.c4
    go_wp2_with (go_at_call 61; refine (when_any _ _).mono ?_; rintro e w' ⟨rfl, rfl⟩)
    refine bodyPost_ret (v := .tuple #[.agg #[.int .i64 0, .int .i64 0, .int .u64 0, .int .u64 0], .int .i64 8]) (by simp [results, Try.results45, go_sem, q0, q1, q2, q3]) rfl ?_
    unfold KPost
    rw [HF.out]
    exact ⟨rfl, (((HB.out.setCell (by simp) _).setCell (by simp) _).setCell (by simp) _).setCell (by simp) _⟩
  · have HF := Lib.hid hf
    have HS := Lib.hid hs
    have HV := Lib.hid hv
    have HR := Lib.hid hr
    have HN := Lib.hid hn
    clear hf hs hv hr hn
    go_enter Try.func45, Try.ntmps45
    go_wp2_with fail
    refine (refSealed_any _ _ _ _ _ _).mono ?_
    rintro e w1 ⟨rfl, hb1⟩
    rw [HS.out]
    have HK := Lib.hid (((Box.new w 65 _).alloc _).ext hb1)
    have HX := Lib.hid ((Box.new _ 65 _).ext hb1)
    simp only [World.size_alloc] at HX
    have HB := Lib.hid (below_step (below_more (below_alloc w _) _) hb1)
    have hs1 : w.heap.size + 1 < w1.heap.size := by have := hb1.size; simp only [World.size_alloc] at this; omega
    clear hb1
    go_wp2_with fail
    refine (validChanges_any _ l _ _ _ (HR.out.below HB.out) HN.out hl).mono ?_
    rintro e w2 ⟨rfl, hb2⟩
    rw [HV.out]
    replace HK := Lib.hid (HK.out.ext hb2)
    replace HX := Lib.hid (HX.out.ext hb2)
    replace HB := Lib.hid (below_step HB.out hb2)
    have hs2 : w.heap.size + 1 < w2.heap.size := by have := hb2.size; omega
    clear hb2
    obtain ⟨p0, p1, p2, p3, pf⟩ := HK.out.c4
    obtain ⟨q0, q1, q2, q3, qf⟩ := HX.out.c4
    go_wp2_with (go_at_call 61; refine (when_any _ _).mono ?_; rintro e w' ⟨rfl, rfl⟩)
    refine bodyPost_ret (v := .tuple #[.agg #[.int .i64 0, .int .i64 0, .int .u64 0, .int .u64 0], .int .i64 8]) (by simp [results, Try.results45, go_sem, q0, q1, q2, q3]) rfl ?_
    unfold KPost
    rw [HF.out]
    exact ⟨rfl, (((HB.out.setCell (by simp) _).setCell (by simp) _).setCell (by simp) _).setCell (by simp) _⟩
  · have HF := Lib.hid hf
    have HS := Lib.hid hs
    have HV := Lib.hid hv
    have HR := Lib.hid hr
    have HN := Lib.hid hn
    clear hf hs hv hr hn
    go_enter Try.func45, Try.ntmps45
    go_wp2_with fail
    refine (refSealed_any _ _ _ _ _ _).mono ?_
    rintro e w1 ⟨rfl, hb1⟩
    rw [HS.out]
    have HK := Lib.hid (((Box.new w 65 _).alloc _).ext hb1)
    have HX := Lib.hid ((Box.new _ 65 _).ext hb1)
    simp only [World.size_alloc] at HX
    have HB := Lib.hid (below_step (below_more (below_alloc w _) _) hb1)
    have hs1 : w.heap.size + 1 < w1.heap.size := by have := hb1.size; simp only [World.size_alloc] at this; omega
    clear hb1
    go_wp2_with fail
    refine (validChanges_any _ l _ _ _ (HR.out.below HB.out) HN.out hl).mono ?_
    rintro e w2 ⟨rfl, hb2⟩
    rw [HV.out]
    replace HK := Lib.hid (HK.out.ext hb2)
    replace HX := Lib.hid (HX.out.ext hb2)
    replace HB := Lib.hid (below_step HB.out hb2)
    have hs2 : w.heap.size + 1 < w2.heap.size := by have := hb2.size; omega
    clear hb2
    obtain ⟨p0, p1, p2, p3, pf⟩ := HK.out.c4
    obtain ⟨q0, q1, q2, q3, qf⟩ := HX.out.c4
    go_wp2_with (go_at_call 61; refine (when_any _ _).mono ?_; rintro e w' ⟨rfl, rfl⟩)
    refine bodyPost_ret (v := .tuple #[.agg #[.int .i64 0, .int .i64 0, .int .u64 0, .int .u64 0], .int .i64 2]) (by simp [results, Try.results45, go_sem, q0, q1, q2, q3]) rfl ?_
    unfold KPost
    rw [HF.out]
    exact ⟨rfl, (((HB.out.setCell (by simp) _).setCell (by simp) _).setCell (by simp) _).setCell (by simp) _⟩
  · have HF := Lib.hid hf
    have HS := Lib.hid hs
    have HV := Lib.hid hv
    have HR := Lib.hid hr
    have HN := Lib.hid hn
    clear hf hs hv hr hn
    have hza : decide (z < a) = true := by simpa using h2
    go_enter Try.func45, Try.ntmps45
    go_wp2_with fail
    refine (refSealed_any _ _ _ _ _ _).mono ?_
    rintro e w1 ⟨rfl, hb1⟩
    rw [HS.out]
    have HK := Lib.hid (((Box.new w 65 _).alloc _).ext hb1)
    have HX := Lib.hid ((Box.new _ 65 _).ext hb1)
    simp only [World.size_alloc] at HX
    have HB := Lib.hid (below_step (below_more (below_alloc w _) _) hb1)
    have hs1 : w.heap.size + 1 < w1.heap.size := by have := hb1.size; simp only [World.size_alloc] at this; omega
    clear hb1
    go_wp2_with fail
    refine (validChanges_any _ l _ _ _ (HR.out.below HB.out) HN.out hl).mono ?_
    rintro e w2 ⟨rfl, hb2⟩
    rw [HV.out]
    replace HK := Lib.hid (HK.out.ext hb2)
    replace HX := Lib.hid (HX.out.ext hb2)
    replace HB := Lib.hid (below_step HB.out hb2)
    have hs2 : w.heap.size + 1 < w2.heap.size := by have := hb2.size; omega
    clear hb2
    obtain ⟨p0, p1, p2, p3, pf⟩ := HK.out.c4
    obtain ⟨q0, q1, q2, q3, qf⟩ := HX.out.c4
    go_wp2_with (go_at_call 61; refine (when_any _ _).mono ?_; rintro e w' ⟨rfl, rfl⟩)
    refine bodyPost_ret (v := .tuple #[.agg #[.int .i64 0, .int .i64 0, .int .u64 0, .int .u64 0], .int .i64 101]) (by simp [results, Try.results45, go_sem, q0, q1, q2, q3]) rfl ?_
    unfold KPost
    rw [HF.out]
    exact ⟨rfl, (((HB.out.setCell (by simp) _).setCell (by simp) _).setCell (by simp) _).setCell (by simp) _⟩
  · have HF := Lib.hid hf
    have HS := Lib.hid hs
    have HV := Lib.hid hv
    have HR := Lib.hid hr
    have HN := Lib.hid hn
    clear hf hs hv hr hn
    have hza : decide (z < a) = false := by simp; omega
    have hlen : Hid (((betF l a z).length == n) = false) := by
      unfold Hid
      rw [HN.out]
      simpa [fitsB] using h3
    go_enter Try.func45, Try.ntmps45
    go_wp2_with fail
    refine (refSealed_any _ _ _ _ _ _).mono ?_
    rintro e w1 ⟨rfl, hb1⟩
    rw [HS.out]
    have HK := Lib.hid (((Box.new w 65 _).alloc _).ext hb1)
    have HX := Lib.hid ((Box.new _ 65 _).ext hb1)
    simp only [World.size_alloc] at HX
    have HB := Lib.hid (below_step (below_more (below_alloc w _) _) hb1)
    have hs1 : w.heap.size + 1 < w1.heap.size := by have := hb1.size; simp only [World.size_alloc] at this; omega
    clear hb1
    go_wp2_with fail
    refine (validChanges_any _ l _ _ _ (HR.out.below HB.out) HN.out hl).mono ?_
    rintro e w2 ⟨rfl, hb2⟩
    rw [HV.out]
    replace HK := Lib.hid (HK.out.ext hb2)
    replace HX := Lib.hid (HX.out.ext hb2)
    replace HB := Lib.hid (below_step HB.out hb2)
    have hs2 : w.heap.size + 1 < w2.heap.size := by have := hb2.size; omega
    clear hb2
    obtain ⟨p0, p1, p2, p3, pf⟩ := HK.out.c4
    obtain ⟨q0, q1, q2, q3, qf⟩ := HX.out.c4
    go_wp2_with (go_at_call 61; refine (when_any _ _).mono ?_; rintro e w' ⟨rfl, rfl⟩)
    refine (refBetween_any _ l _ _ _ _ _ (HR.out.below HB.out) HN.out hl).mono ?_
    rintro e w3 ⟨A3, c3, rfl, hown3, hb3⟩
    clear p0 p1 p2 p3 pf q0 q1 q2 q3 qf
    replace HK := Lib.hid (HK.out.ext hb3)
    replace HX := Lib.hid (HX.out.ext hb3)
    replace HB := Lib.hid (below_step HB.out hb3)
    have hs3 : w.heap.size + 1 < w3.heap.size := by have := hb3.size; omega
    have hs30 : w.heap.size < w3.heap.size := by omega
    clear hb3 hown3
    obtain ⟨p0, p1, p2, p3, pf⟩ := HK.out.c4
    obtain ⟨q0, q1, q2, q3, qf⟩ := HX.out.c4
    have hlen' := hlen.out
    generalize (betF l a z).length = m3 at hlen'
    have hl1 : ((m3 : Int) != (n : Int)) = true := by simp at hlen' ⊢; omega
    clear hlen'
    go_wp2
    refine bodyPost_ret (v := .tuple #[.agg #[.int .i64 0, .int .i64 0, .int .u64 0, .int .u64 0], .int .i64 101]) (by simp [results, Try.results45, go_sem, q0, q1, q2, q3]) rfl ?_
    unfold KPost
    rw [HF.out]
    exact ⟨rfl, (((HB.out.setCell (by simp) _).setCell (by simp) _).setCell (by simp) _).setCell (by simp) _⟩
  · have HF := Lib.hid hf
    have HS := Lib.hid hs
    have HV := Lib.hid hv
    have HR := Lib.hid hr
    have HN := Lib.hid hn
    clear hf hs hv hr hn
    have hza : decide (z < a) = false := by simp; omega
    have hlen : Hid ((betF l a z).length = n) := by
      unfold Hid
      rw [HN.out]
      simpa [fitsB] using h3
    go_enter Try.func45, Try.ntmps45
    go_wp2_with fail
    refine (refSealed_any _ _ _ _ _ _).mono ?_
    rintro e w1 ⟨rfl, hb1⟩
    rw [HS.out]
    have HK := Lib.hid (((Box.new w 65 _).alloc _).ext hb1)
    have HX := Lib.hid ((Box.new _ 65 _).ext hb1)
    simp only [World.size_alloc] at HX
    have HB := Lib.hid (below_step (below_more (below_alloc w _) _) hb1)
    have hs1 : w.heap.size + 1 < w1.heap.size := by have := hb1.size; simp only [World.size_alloc] at this; omega
    clear hb1
    go_wp2_with fail
    refine (validChanges_any _ l _ _ _ (HR.out.below HB.out) HN.out hl).mono ?_
    rintro e w2 ⟨rfl, hb2⟩
    rw [HV.out]
    replace HK := Lib.hid (HK.out.ext hb2)
    replace HX := Lib.hid (HX.out.ext hb2)
    replace HB := Lib.hid (below_step HB.out hb2)
    have hs2 : w.heap.size + 1 < w2.heap.size := by have := hb2.size; omega
    clear hb2
    obtain ⟨p0, p1, p2, p3, pf⟩ := HK.out.c4
    obtain ⟨q0, q1, q2, q3, qf⟩ := HX.out.c4
    go_wp2_with (go_at_call 61; refine (when_any _ _).mono ?_; rintro e w' ⟨rfl, rfl⟩)
    refine (refBetween_any _ l _ _ _ _ _ (HR.out.below HB.out) HN.out hl).mono ?_
    rintro e w3 ⟨A3, c3, rfl, hown3, hb3⟩
    clear p0 p1 p2 p3 pf q0 q1 q2 q3 qf
    replace HK := Lib.hid (HK.out.ext hb3)
    replace HX := Lib.hid (HX.out.ext hb3)
    replace HB := Lib.hid (below_step HB.out hb3)
    have hs3 : w.heap.size + 1 < w3.heap.size := by have := hb3.size; omega
    have hs30 : w.heap.size < w3.heap.size := by omega
    clear hb3 hown3
    obtain ⟨p0, p1, p2, p3, pf⟩ := HK.out.c4
    obtain ⟨q0, q1, q2, q3, qf⟩ := HX.out.c4
    rw [hlen.out]
    go_wp2_with fail
    refine (refAfter_any S _ l _ _ _ ?hrd HN.out hl (chkC_p HV.out)).mono ?_
    case hrd => exact HR.out.below (HB.out.setCell (by simp) _)
    rintro e w4 ⟨rfl, rfl⟩
    go_wp2_with fail
    refine (refSeal_any _ _ _ _ _ _).mono ?_
    rintro e w5 ⟨rfl, hb5⟩
    have hk5 : Box w5 w.heap.size [.int .i64 z, .int .i64 m, .int .u64 (aftF S l).toNat, .int .u64 se] := ((HK.out.set (i := 0) _ (by simp)).set (i := 2) _ (by simp)).ext hb5
    have hx5 : Box w5 (w.heap.size + 1) [.int .i64 0, .int .i64 0, .int .u64 0, .int .u64 0] := ((HX.out.far _ (by omega)).far _ (by omega)).ext hb5
    have HB5 := Lib.hid (below_step ((HB.out.setCell (by simp) _).setCell (by simp) _) hb5)
    have hs5 : w.heap.size + 1 < w5.heap.size := hx5.2.2
    clear p0 p1 p2 p3 pf q0 q1 q2 q3 qf hb5 HK HX
    obtain ⟨p0, p1, p2, p3, pf⟩ := hk5.c4
    obtain ⟨q0, q1, q2, q3, qf⟩ := hx5.c4
    clear hk5 hx5
    go_wp2
    refine bodyPost_ret (v := .tuple #[.agg #[.int .i64 z, .int .i64 m, .int .u64 (aftF S l).toNat, .int .u64 (sealI z m (aftF S l).toNat key)], .int .i64 0]) (by simp [results, Try.results45, go_sem, q0, q1, q2, q3]) rfl ?_
    unfold KPost
    rw [HF.out]
    exact ⟨rfl, ((((HB5.out.setCell (by simp) _).setCell (by simp) _).setCell (by simp) _).setCell (by simp) _).setCell (by simp) _⟩
end Go.Proofs.Ytalmeokljamhdaa
