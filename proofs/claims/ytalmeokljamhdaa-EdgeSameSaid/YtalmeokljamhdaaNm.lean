/- EdgeSame: copies by changes are copies. -/
import Derived.Test.YtalmeokljamhdaaNk
import Derived.Test.YtalmeokljamhdaaNf
namespace Go.Proofs.Ytalmeokljamhdaa
open Go.RowKit

/-- The copy after the changes since. -/
theorem apply_bet {l : List Chg} {t z m key : Int} (hv : chkC l = true) (ht : inB 0 1099511627776 t = true) (hz : inB 0 1099511627776 z = true) (hm : inB 0 1099511627776 m = true) (htz : t ≤ z) :
    applyF t m (aftF 0#64 (betF l (-1) t)) (sealI t m (aftF 0#64 (betF l (-1) t)).toNat key) (betF l t z) z key = (z, m, aftF 0#64 (betF l (-1) z), sealI z m (aftF 0#64 (betF l (-1) z)).toNat key, 0) := by
  have ht' : 0 ≤ t := by simp only [inB, decide_eq_true_eq] at ht; omega
  have h1 : aftF (aftF 0#64 (betF l (-1) t)) (betF l t z) = aftF 0#64 (betF l (-1) z) := by
    rw [← aftF_append, ← betF_split (by omega) htz l 0 (chkC_v hv)]
  unfold applyF
  rw [if_neg (by rw [sealedB_own, ht, hm, chkC_bet hv]; simp), if_neg (by rw [hz]; simp), if_neg (by rw [fits_bet]; simp; omega), h1]

set_option maxRecDepth 100000 in
set_option maxHeartbeats 8000000 in
theorem edgeSame_walk (A : Option Addr) (l : List Chg) (n c : Nat) (t mid z ma key : Int) (w : World) (hr : Rd w A (flat cenc l)) (hn : n = l.length) :
    Calls Try.prog 15 #[.slice A n c, .int .i64 t, .int .i64 mid, .int .i64 z, .int .i64 ma, .int .u64 key] w fun e w' => e = .returned (.bool true) ∧ Below w.heap.size w w' := by
  have HR := Lib.hid hr
  have HN := Lib.hid hn
  clear hr hn
  by_cases h60 : 60 < n
  · as_aux_lemma =>
    go_enter Try.func15, Try.ntmps15
    go_wp2_with fail
    refine (alive_any _).mono ?_
    rintro e w1 ⟨rfl, hb⟩
    go_wp2
    go_ret
    exact ⟨rfl, hb⟩
  have hl : n ≤ 1000 := by omega
  have hd60 : decide (60 < (n : Int)) = false := by simp; omega
  by_cases hg1 : mid < t
  · as_aux_lemma =>
    have hg1' : decide (mid < t) = true := by simpa using hg1
    go_enter Try.func15, Try.ntmps15
    go_wp2_with fail
    refine (alive_any _).mono ?_
    rintro e w1 ⟨rfl, hb⟩
    go_wp2
    go_ret
    exact ⟨rfl, hb⟩
  have hg1' : decide (mid < t) = false := by simpa using hg1
  by_cases hg2 : z < mid
  · as_aux_lemma =>
    have hg2' : decide (z < mid) = true := by simpa using hg2
    go_enter Try.func15, Try.ntmps15
    go_wp2_with fail
    refine (alive_any _).mono ?_
    rintro e w1 ⟨rfl, hb⟩
    go_wp2
    go_ret
    exact ⟨rfl, hb⟩
  have hg2' : decide (z < mid) = false := by simpa using hg2
  obtain ⟨rc1, rc2, rc3, rc4, rc5, hrc⟩ : ∃ a b d e f, copyF l t ma key = (a, b, d, e, f) := ⟨_, _, _, _, _, rfl⟩
  obtain ⟨rz1, rz2, rz3, rz4, rz5, hrz⟩ : ∃ a b d e f, copyF l z ma key = (a, b, d, e, f) := ⟨_, _, _, _, _, rfl⟩
  have hcs : Hid ((rc5 != 0) = true ∨ ((rc5 != 0) = false ∧ (rz5 != 0) = true) ∨ (rc5 = 0 ∧ rz5 = 0 ∧
      ∃ (S : BitVec 64) (q : Int), deltaF l t z = (betF l t z, 0) ∧ applyF rc1 rc2 rc3 rc4 (betF l t z) z key = (rz1, rz2, rz3, rz4, 0) ∧ deltaF l t mid = (betF l t mid, 0) ∧ deltaF l mid z = (betF l mid z, 0) ∧
        applyF rc1 rc2 rc3 rc4 (betF l t mid) mid key = (mid, rc2, S, q, 0) ∧ applyF mid rc2 S q (betF l mid z) z key = (rz1, rz2, rz3, rz4, 0) ∧ (betF l t mid).length + (betF l mid z).length = (betF l t z).length)) := by
    unfold Hid
    rcases copy_two l t ma key with ⟨K, h, hk⟩ | ⟨h0, h1, h2, h⟩
    · rw [hrc] at h
      simp only [Prod.mk.injEq] at h
      exact .inl (by rw [h.2.2.2.2]; exact hk)
    · rcases copy_two l z ma key with ⟨K, g, hk⟩ | ⟨_, g1, g2, g⟩
      · rw [hrz] at g
        rw [hrc] at h
        simp only [Prod.mk.injEq] at h g
        exact .inr (.inl ⟨by rw [h.2.2.2.2]; rfl, by rw [g.2.2.2.2]; exact hk⟩)
      · have htm : inB 0 1099511627776 mid = true := by
          simp only [inB, decide_eq_true_eq] at h1 g1 ⊢
          omega
        have ht0 : 0 ≤ t := by simp only [inB, decide_eq_true_eq] at h1; omega
        rw [hrz] at g
        rw [hrc] at h
        simp only [Prod.mk.injEq] at h g
        obtain ⟨hc1, hc2, hc3, hc4, hc5⟩ := h
        obtain ⟨gc1, gc2, gc3, gc4, gc5⟩ := g
        refine .inr (.inr ⟨hc5, gc5, aftF 0#64 (betF l (-1) mid), sealI mid ma (aftF 0#64 (betF l (-1) mid)).toNat key, ?_⟩)
        rw [hc1, hc2, hc3, hc4, gc1, gc2, gc3, gc4]
        refine ⟨deltaF_ok h0 h1 g1 (by omega), apply_bet h0 h1 g1 h2 (by omega), deltaF_ok h0 h1 htm (by omega), deltaF_ok h0 htm g1 (by omega), apply_bet h0 h1 htm h2 (by omega), apply_bet h0 htm g1 h2 (by omega), ?_⟩
        rw [betF_split (a := t) (b := mid) (z := z) (by omega) (by omega) l 0 (chkC_v h0), List.length_append]
  have HRC := Lib.hid hrc
  have HRZ := Lib.hid hrz
  clear hrc hrz
  go_enter Try.func15, Try.ntmps15
  go_wp2_with fail
  refine (alive_any _).mono ?_
  rintro e w1 ⟨rfl, hb⟩
  have HB := Lib.hid hb
  have HRD := Lib.hid (HR.out.below hb)
  clear hb
  go_wp2_with fail
  refine (copy_any _ l _ _ _ _ _ _ HRD.out HN.out hl).mono ?_
  rintro e w2 ⟨he, hb⟩
  rw [HRC.out] at he
  subst he
  replace HB := Lib.hid (below_step HB.out hb)
  replace HRD := Lib.hid (HRD.out.below hb)
  clear hb
  go_wp2_with fail
  refine (copy_any _ l _ _ _ _ _ _ (HRD.out.below (below_alloc _ _)) HN.out hl).mono ?_
  rintro e w3 ⟨he, hb⟩
  rw [HRZ.out] at he
  subst he
  have HXK := Lib.hid ((Box.new w2 65 #[.int .i64 rc1, .int .i64 rc2, .int .u64 rc3.toNat, .int .u64 rc4]).ext hb)
  replace HB := Lib.hid (below_step HB.out (below_step (below_alloc _ _) hb))
  replace HRD := Lib.hid ((HRD.out.below (below_alloc _ _)).below hb)
  clear hb
  rcases hcs.out with h1 | ⟨h1, h2⟩ | ⟨h1, h2, S, q, e1, e2, e3, e4, e5, e6, e7⟩
  · as_aux_lemma =>
    go_wp2
    go_ret
    exact ⟨rfl, below_more HB.out _⟩
  · as_aux_lemma =>
    go_wp2
    go_ret
    exact ⟨rfl, below_more HB.out _⟩
  subst h1; subst h2
  have E1 := Lib.hid e1
  have E2 := Lib.hid e2
  have E3 := Lib.hid e3
  have E4 := Lib.hid e4
  have E5 := Lib.hid e5
  have E6 := Lib.hid e6
  have E7 := Lib.hid e7
  have hl1 : (betF l t z).length ≤ 1000 := by have := betF_len l t z; have := HN.out; omega
  have hl2 : (betF l t mid).length ≤ 1000 := by have := betF_len l t mid; have := HN.out; omega
  have hl3 : (betF l mid z).length ≤ 1000 := by have := betF_len l mid z; have := HN.out; omega
  clear e1 e2 e3 e4 e5 e6 e7 hcs
  generalize betF l t z = L1 at *
  generalize betF l t mid = L2 at *
  generalize betF l mid z = L3 at *
  go_wp2_with fail
  replace HB := Lib.hid (below_more HB.out (.cells #[.int .i64 rz1, .int .i64 rz2, .int .u64 rz3.toNat, .int .u64 rz4] 65))
  replace HRD := Lib.hid (HRD.out.below (below_alloc w3 (.cells #[.int .i64 rz1, .int .i64 rz2, .int .u64 rz3.toNat, .int .u64 rz4] 65)))
  replace HXK := Lib.hid (HXK.out.alloc (.cells #[.int .i64 rz1, .int .i64 rz2, .int .u64 rz3.toNat, .int .u64 rz4] 65))
  have HXW := Lib.hid (Box.new w3 65 #[.int .i64 rz1, .int .i64 rz2, .int .u64 rz3.toNat, .int .u64 rz4])
  refine (delta_any _ l _ _ _ _ _ HRD.out HN.out hl).mono ?_
  rintro e w4 ⟨A4, c4, he, how, hb⟩
  rw [E1.out] at he how
  simp only at he how
  subst he
  replace HB := Lib.hid (below_step HB.out hb)
  replace HRD := Lib.hid (HRD.out.below hb)
  replace HXK := Lib.hid (HXK.out.ext hb)
  replace HXW := Lib.hid (HXW.out.ext hb)
  have HD1 := Lib.hid how.rd
  clear how hb
  obtain ⟨p00, p01, p02, p03, p0f⟩ := HXK.out.c4
  have hs0 := HXK.out.2.2
  go_wp2_with fail
  clear p00 p01 p02 p03 p0f hs0
  refine (apply_any _ _ rc3 _ _ L1 _ _ _ _ _ HD1.out rfl hl1).mono ?_
  rintro e w5 ⟨he, hb⟩
  rw [E2.out] at he
  subst he
  replace HB := Lib.hid (below_step HB.out hb)
  replace HRD := Lib.hid (HRD.out.below hb)
  replace HD1 := Lib.hid (HD1.out.below hb)
  replace HXK := Lib.hid (HXK.out.ext hb)
  replace HXW := Lib.hid (HXW.out.ext hb)
  clear hb
  go_wp2_with fail
  replace HB := Lib.hid (below_more HB.out (.cells #[.int .i64 rz1, .int .i64 rz2, .int .u64 rz3.toNat, .int .u64 rz4] 65))
  replace HRD := Lib.hid (HRD.out.below (below_alloc w5 (.cells #[.int .i64 rz1, .int .i64 rz2, .int .u64 rz3.toNat, .int .u64 rz4] 65)))
  replace HD1 := Lib.hid (HD1.out.below (below_alloc w5 (.cells #[.int .i64 rz1, .int .i64 rz2, .int .u64 rz3.toNat, .int .u64 rz4] 65)))
  replace HXK := Lib.hid (HXK.out.alloc (.cells #[.int .i64 rz1, .int .i64 rz2, .int .u64 rz3.toNat, .int .u64 rz4] 65))
  replace HXW := Lib.hid (HXW.out.alloc (.cells #[.int .i64 rz1, .int .i64 rz2, .int .u64 rz3.toNat, .int .u64 rz4] 65))
  have HX1 := Lib.hid (Box.new w5 65 #[.int .i64 rz1, .int .i64 rz2, .int .u64 rz3.toNat, .int .u64 rz4])
  refine (delta_any _ l _ _ _ _ _ HRD.out HN.out hl).mono ?_
  rintro e w6 ⟨A6, c6, he, how, hb⟩
  rw [E3.out] at he how
  simp only at he how
  subst he
  replace HB := Lib.hid (below_step HB.out hb)
  replace HRD := Lib.hid (HRD.out.below hb)
  replace HD1 := Lib.hid (HD1.out.below hb)
  replace HXK := Lib.hid (HXK.out.ext hb)
  replace HXW := Lib.hid (HXW.out.ext hb)
  replace HX1 := Lib.hid (HX1.out.ext hb)
  have HD2 := Lib.hid how.rd
  clear how hb
  go_wp2_with fail
  refine (delta_any _ l _ _ _ _ _ HRD.out HN.out hl).mono ?_
  rintro e w7 ⟨A7, c7, he, how, hb⟩
  rw [E4.out] at he how
  simp only at he how
  subst he
  replace HB := Lib.hid (below_step HB.out hb)
  replace HRD := Lib.hid (HRD.out.below hb)
  replace HD1 := Lib.hid (HD1.out.below hb)
  replace HD2 := Lib.hid (HD2.out.below hb)
  replace HXK := Lib.hid (HXK.out.ext hb)
  replace HXW := Lib.hid (HXW.out.ext hb)
  replace HX1 := Lib.hid (HX1.out.ext hb)
  have HD3 := Lib.hid how.rd
  clear how hb
  obtain ⟨p00, p01, p02, p03, p0f⟩ := HXK.out.c4
  have hs0 := HXK.out.2.2
  go_wp2_with fail
  clear p00 p01 p02 p03 p0f hs0
  refine (apply_any _ _ rc3 _ _ L2 _ _ _ _ _ HD2.out rfl hl2).mono ?_
  rintro e w8 ⟨he, hb⟩
  rw [E5.out] at he
  subst he
  replace HB := Lib.hid (below_step HB.out hb)
  replace HRD := Lib.hid (HRD.out.below hb)
  replace HD1 := Lib.hid (HD1.out.below hb)
  replace HD2 := Lib.hid (HD2.out.below hb)
  replace HD3 := Lib.hid (HD3.out.below hb)
  replace HXK := Lib.hid (HXK.out.ext hb)
  replace HXW := Lib.hid (HXW.out.ext hb)
  replace HX1 := Lib.hid (HX1.out.ext hb)
  clear hb
  go_wp2_with fail
  replace HB := Lib.hid (below_more HB.out (.cells #[.int .i64 mid, .int .i64 rc2, .int .u64 S.toNat, .int .u64 q] 65))
  replace HRD := Lib.hid (HRD.out.below (below_alloc w8 (.cells #[.int .i64 mid, .int .i64 rc2, .int .u64 S.toNat, .int .u64 q] 65)))
  replace HD1 := Lib.hid (HD1.out.below (below_alloc w8 (.cells #[.int .i64 mid, .int .i64 rc2, .int .u64 S.toNat, .int .u64 q] 65)))
  replace HD2 := Lib.hid (HD2.out.below (below_alloc w8 (.cells #[.int .i64 mid, .int .i64 rc2, .int .u64 S.toNat, .int .u64 q] 65)))
  replace HD3 := Lib.hid (HD3.out.below (below_alloc w8 (.cells #[.int .i64 mid, .int .i64 rc2, .int .u64 S.toNat, .int .u64 q] 65)))
  replace HXK := Lib.hid (HXK.out.alloc (.cells #[.int .i64 mid, .int .i64 rc2, .int .u64 S.toNat, .int .u64 q] 65))
  replace HXW := Lib.hid (HXW.out.alloc (.cells #[.int .i64 mid, .int .i64 rc2, .int .u64 S.toNat, .int .u64 q] 65))
  replace HX1 := Lib.hid (HX1.out.alloc (.cells #[.int .i64 mid, .int .i64 rc2, .int .u64 S.toNat, .int .u64 q] 65))
  have HXX := Lib.hid (Box.new w8 65 #[.int .i64 mid, .int .i64 rc2, .int .u64 S.toNat, .int .u64 q])
  refine (apply_any _ _ S _ _ L3 _ _ _ _ _ HD3.out rfl hl3).mono ?_
  rintro e w9 ⟨he, hb⟩
  rw [E6.out] at he
  subst he
  replace HB := Lib.hid (below_step HB.out hb)
  replace HRD := Lib.hid (HRD.out.below hb)
  replace HD1 := Lib.hid (HD1.out.below hb)
  replace HD2 := Lib.hid (HD2.out.below hb)
  replace HD3 := Lib.hid (HD3.out.below hb)
  replace HXK := Lib.hid (HXK.out.ext hb)
  replace HXW := Lib.hid (HXW.out.ext hb)
  replace HX1 := Lib.hid (HX1.out.ext hb)
  replace HXX := Lib.hid (HXX.out.ext hb)
  clear hb
  have e7 : (L2.length : Int) + L3.length = L1.length := by have := E7.out; omega
  have hs1 := HX1.out.2.2
  have hsw := HXW.out.2.2
  obtain ⟨a0, a1, a2, a3, af⟩ := HX1.out.c4
  obtain ⟨b0, b1, b2, b3, bf⟩ := HXW.out.c4
  have h77 : ((L2.length : Int) + L3.length == (L1.length : Int)) = true := by simpa using e7
  have h78 : (L2.length + L3.length == L1.length) = true := by simpa using E7.out
  clear e7
  go_wp2
  go_ret
  exact ⟨rfl, below_more HB.out _⟩
end Go.Proofs.Ytalmeokljamhdaa
