/- Copies: the decision of a copy, in the program and in the reference. -/
import Derived.Test.YtalmeokljamhdaaMc
namespace Go.Proofs.Ytalmeokljamhdaa
open Go.RowKit

/-- The ways through a decision. -/
theorem dec_cases (a m : Int) (S : BitVec 64) (se key p now : Int) :
    (sealedB a m S.toNat se key = false ∧ decF a m S se key p now = (0, 8)) ∨
    (sealedB a m S.toNat se key = true ∧ inB 0 1099511627776 a = true ∧ inB 0 1099511627776 m = true ∧
      ((inB 0 63 p = false ∧ decF a m S se key p now = (0, 2)) ∨ (inB 0 63 p = true ∧ inB 0 1099511627776 now = false ∧ decF a m S se key p now = (0, 2)) ∨
       (inB 0 63 p = true ∧ inB 0 1099511627776 now = true ∧ ((now < a ∧ decF a m S se key p now = (0, 101)) ∨ (a ≤ now ∧ m < now - a ∧ decF a m S se key p now = (3, 0)) ∨ (a ≤ now ∧ now - a ≤ m ∧ decF a m S se key p now = (saidF S p, 0)))))) := by
  cases h : sealedB a m S.toNat se key
  · exact .inl ⟨rfl, by simp [decF, h]⟩
  · obtain ⟨h1, h2, _⟩ := sealedB_time h
    refine .inr ⟨rfl, h1, h2, ?_⟩
    cases hp : inB 0 63 p
    · exact .inl ⟨rfl, by simp [decF, h, hp]⟩
    · cases hn : inB 0 1099511627776 now
      · exact .inr (.inl ⟨rfl, rfl, by simp [decF, h, hn]⟩)
      · refine .inr (.inr ⟨rfl, rfl, ?_⟩)
        by_cases h3 : now < a
        · exact .inl ⟨h3, by simp [decF, h, hp, hn, h3]⟩
        · by_cases h4 : m < now - a
          · exact .inr (.inl ⟨by omega, h4, by simp [decF, h, hp, hn, h3, h4]⟩)
          · exact .inr (.inr ⟨by omega, by omega, by simp [decF, h, hp, hn, h3, h4]⟩)

set_option maxHeartbeats 1000000 in
theorem decide_any (a m : Int) (S : BitVec 64) (se key p now : Int) (w : World) :
    Calls Try.prog 38 #[.agg #[.int .i64 a, .int .i64 m, .int .u64 S.toNat, .int .u64 se], .int .i64 p, .int .i64 now, .int .u64 key] w fun e w' => e = .returned (.tuple #[.int .u8 (decF a m S se key p now).1, .int .i64 (decF a m S se key p now).2]) ∧ Below w.heap.size w w' := by
  rcases dec_cases a m S se key p now with ⟨hs, hd⟩ | ⟨hs, ha, hm, hr⟩
  · have HS := Lib.hid hs
    have HD := Lib.hid hd
    clear hs hd
    go_enter Try.func38, Try.ntmps38
    go_wp2_with fail
    refine (checkCopy_any _ _ _ _ _ _).mono ?_
    rintro e w1 ⟨rfl, hb1⟩
    rw [HS.out]
    simp only [errB, Bool.false_eq_true, if_false]
    have HB := Lib.hid (below_step (below_alloc w _) hb1)
    obtain ⟨p0, p1, p2, p3, pf⟩ := ((Box.new w 65 _).ext hb1).c4
    clear hb1
    go_wp2
    go_ret2
    exact ⟨by rw [HD.out]; rfl, HB.out⟩
  have HS := Lib.hid hs
  have ha' : 0 ≤ a ∧ a ≤ 1099511627776 := by simpa [inB] using ha
  have hm' : 0 ≤ m ∧ m ≤ 1099511627776 := by simpa [inB] using hm
  have hask : Hid ((if inB 0 63 p = false ∨ inB 0 1099511627776 now = false ∨ inB 0 1099511627776 a = false then (2 : Int) else if now < a then 101 else 0) = if (decF a m S se key p now).2 = 0 then 0 else (decF a m S se key p now).2) := by
    unfold Hid
    rcases hr with ⟨h1, h2⟩ | ⟨h1, h3, h2⟩ | ⟨h1, h3, ⟨h4, h2⟩ | ⟨h4, h5, h2⟩ | ⟨h4, h5, h2⟩⟩
    · rw [h2]; simp [h1]
    · rw [h2]; simp [h3]
    · rw [h2]; simp [h1, h3, ha, h4]
    · rw [h2]; simp [h1, h3, ha]; omega
    · rw [h2]; simp [h1, h3, ha]; omega
  clear hs ha hm
  rcases hr with ⟨h1, h2⟩ | ⟨h1, h3, h2⟩ | ⟨h1, h3, ⟨h4, h2⟩ | ⟨h4, h5, h2⟩ | ⟨h4, h5, h2⟩⟩
  all_goals
    have HD := Lib.hid h2
    rw [HD.out] at hask
    clear h2
    try (have hn' : 0 ≤ now ∧ now ≤ 1099511627776 := by simpa [inB] using h3)
    try (have hp' : 0 ≤ p ∧ p ≤ 63 := by simpa [inB] using h1)
    go_enter Try.func38, Try.ntmps38
    go_wp2_with fail
    refine (checkCopy_any _ _ _ _ _ _).mono ?_
    rintro e w1 ⟨rfl, hb1⟩
    rw [HS.out]
    simp only [errB, if_true]
    have HB := Lib.hid (below_step (below_alloc w _) hb1)
    obtain ⟨p0, p1, p2, p3, pf⟩ := ((Box.new w 65 _).ext hb1).c4
    clear hb1
    go_wp2_with fail
    refine (asked_any _ _ _ _).mono ?_
    rintro e w2 ⟨rfl, rfl⟩
    rw [hask.out]
    simp only [if_true, if_false, Int.reduceEq]
    go_wp2_with (go_at_call 64; refine (said_any _ _ _ hp'.1 hp'.2).mono ?_; rintro e w' ⟨rfl, rfl⟩)
    go_ret2
    exact ⟨by rw [HD.out]; rfl, HB.out⟩

set_option maxHeartbeats 1000000 in
theorem refDecide_any (a m : Int) (S : BitVec 64) (se key p now : Int) (w : World) :
    Calls Try.prog 39 #[.agg #[.int .i64 a, .int .i64 m, .int .u64 S.toNat, .int .u64 se], .int .i64 p, .int .i64 now, .int .u64 key] w fun e w' => e = .returned (.tuple #[.int .u8 (decF a m S se key p now).1, .int .i64 (decF a m S se key p now).2]) ∧ Below w.heap.size w w' := by
  rcases dec_cases a m S se key p now with ⟨hs, hd⟩ | ⟨hs, ha, hm, hr⟩
  · have HS := Lib.hid hs
    have HD := Lib.hid hd
    clear hs hd
    go_enter Try.func39, Try.ntmps39
    go_wp2_with fail
    refine (refSealed_any _ _ _ _ _ _).mono ?_
    rintro e w1 ⟨rfl, hb1⟩
    rw [HS.out]
    have HB := Lib.hid (below_step (below_alloc w _) hb1)
    obtain ⟨p0, p1, p2, p3, pf⟩ := ((Box.new w 65 _).ext hb1).c4
    clear hb1
    go_wp2
    go_ret2
    exact ⟨by rw [HD.out]; rfl, HB.out⟩
  have HS := Lib.hid hs
  have ha' : 0 ≤ a ∧ a ≤ 1099511627776 := by simpa [inB] using ha
  have hm' : 0 ≤ m ∧ m ≤ 1099511627776 := by simpa [inB] using hm
  clear hs ha hm
  rcases hr with ⟨h1, h2⟩ | ⟨h1, h3, h2⟩ | ⟨h1, h3, ⟨h4, h2⟩ | ⟨h4, h5, h2⟩ | ⟨h4, h5, h2⟩⟩
  all_goals
    have HD := Lib.hid h2
    clear h2
    try (have hn' : 0 ≤ now ∧ now ≤ 1099511627776 := by simpa [inB] using h3)
    try (have hp' : 0 ≤ p ∧ p ≤ 63 := by simpa [inB] using h1)
    go_enter Try.func39, Try.ntmps39
    go_wp2_with fail
    refine (refSealed_any _ _ _ _ _ _).mono ?_
    rintro e w1 ⟨rfl, hb1⟩
    rw [HS.out]
    have HB := Lib.hid (below_step (below_alloc w _) hb1)
    obtain ⟨p0, p1, p2, p3, pf⟩ := ((Box.new w 65 _).ext hb1).c4
    clear hb1
    go_wp2_with (first | (go_at_call 65; refine (person_any _ _).mono ?_; rintro e w' ⟨rfl, rfl⟩) | (go_at_call 61; refine (when_any _ _).mono ?_; rintro e w' ⟨rfl, rfl⟩) | (go_at_call 66; refine (refSaid_any _ _ _ hp'.1 hp'.2).mono ?_; rintro e w' ⟨rfl, rfl⟩))
    go_ret2
    exact ⟨by rw [HD.out]; rfl, HB.out⟩
end Go.Proofs.Ytalmeokljamhdaa
