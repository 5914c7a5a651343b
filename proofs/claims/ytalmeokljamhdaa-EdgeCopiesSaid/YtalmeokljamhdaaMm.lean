/- EdgeCopies: copies, whether they are sealed, and copies after changes are as the document says. For every input. -/
import Derived.Test.YtalmeokljamhdaaMl
import Derived.Test.YtalmeokljamhdaaQg
namespace Go.Proofs.Ytalmeokljamhdaa
open Go.RowKit

theorem ext_cc {w : World} {x : ExtOf w} {a m s se key K : Int} (h : errB (sealedB a m s se key) = K) : Calls Try.prog 46 #[.agg #[.int .i64 a, .int .i64 m, .int .u64 s, .int .u64 se], .int .u64 key] x.wld fun e w'' => e = .returned (.int .i64 K) ∧ ∃ y : ExtOf w, w'' = y.wld := by
  subst h; exact ext_of (checkCopy_any _ _ _ _ _ _)
theorem ext_rc {w : World} {x : ExtOf w} {a m s se key K : Int} (h : errB (sealedB a m s se key) = K) : Calls Try.prog 47 #[.agg #[.int .i64 a, .int .i64 m, .int .u64 s, .int .u64 se], .int .u64 key] x.wld fun e w'' => e = .returned (.int .i64 K) ∧ ∃ y : ExtOf w, w'' = y.wld := by
  subst h; exact ext_of (refCheckCopy_any _ _ _ _ _ _)

set_option maxRecDepth 100000 in
set_option maxHeartbeats 8000000 in
theorem edgeCopies_walk (A : Option Addr) (l : List Chg) (n c : Nat) (a m : Int) (S : BitVec 64) (se t ma z key : Int) (w : World) (hr : Rd w A (flat cenc l)) (hn : n = l.length) :
    Calls Try.prog 6 #[.slice A n c, .agg #[.int .i64 a, .int .i64 m, .int .u64 S.toNat, .int .u64 se], .int .i64 t, .int .i64 ma, .int .i64 z, .int .u64 key] w fun e w' => e = .returned (.bool true) ∧ Below w.heap.size w w' := by
  have HR := Lib.hid hr
  have HN := Lib.hid hn
  clear hr hn
  by_cases h100 : 100 < n
  · go_enter Try.func6, Try.ntmps6
    go_wp2
    go_ret
    exact ⟨rfl, below_alloc _ _⟩
  have hl : n ≤ 1000 := by omega
  have hd100 : decide (100 < (n : Int)) = false := by simp; omega
  obtain ⟨i0, hi0, hz0, hz1, hz2⟩ := info_parts info62
  have HI := Lib.hid hi0
  have HZ0 := Lib.hid hz0
  have HZ1 := Lib.hid hz1
  have HZ2 := Lib.hid hz2
  clear hi0 hz0 hz1 hz2
  obtain ⟨rc, hrc⟩ : ∃ r, r = copyF l t ma key := ⟨_, rfl⟩
  obtain ⟨ra, hra⟩ : ∃ r, r = applyF a m S se l z key := ⟨_, rfl⟩
  have HRC := Lib.hid hrc
  have HRA := Lib.hid hra
  obtain ⟨K, hK⟩ : ∃ K, errB (sealedB a m S.toNat se key) = K := ⟨_, rfl⟩
  have HKK := Lib.hid hK
  clear hrc hra hK
  go_enter Try.func6, Try.ntmps6
  go_wp2_with (at_builtin; refine wpList_app_own _ rfl (.tmp 25) (.tmp 26) _ rfl (w.heap.size + 1) 62 i0 _ 3 24 Try.underlying44 HI.out HZ0.out HZ1.out HZ2.out rfl (by omega) (.slice (some ⟨w.heap.size + 1, 0, none⟩) 0 0) 0 [] rfl A n c (flat cenc l) rfl n (flat cenc l) ?_ (by omega) rfl ?h1 ?h2 ?h3 (cenc_one l) ?h4 ?h5 ?h6; intro A1 c1 w1 hown1 hb _ _; have HOW := Lib.hid hown1; have HBB := Lib.hid hb; obtain ⟨p0, p1, p2, p3, pf⟩ := (((Box.new w 65 #[.int .i64 a, .int .i64 m, .int .u64 S.toNat, .int .u64 se]).alloc _).below hb (by simp)).c4; clear hown1 hb)
  case h1 => exact own_empty_new _ _ _ _ _ (by simp only [World.size_alloc]) (Nat.le_refl _)
  case h2 => exact HR.out.below (below_more (below_alloc _ _) _)
  case h3 => rw [flat_length cenc 3 cenc_len, HN.out]
  case h4 => simp only [maxLen]; omega
  case h5 => omega
  case h6 => first | omega | (simp only [World.size_alloc]; omega)
  obtain ⟨A1', c1', he, how1⟩ := rd_of_own HOW.out
  injection he with he1 _ _
  subst he1
  have HBK : Hid (Box w1 w.heap.size [.int .i64 a, .int .i64 m, .int .u64 S.toNat, .int .u64 se]) := ((Box.new w 65 #[.int .i64 a, .int .i64 m, .int .u64 S.toNat, .int .u64 se]).alloc _).below HBB.out (by simp)
  have HB := Lib.hid ((below_more (below_alloc w _) _).trans (HBB.out.mono (by omega)))
  have HOW1 := Lib.hid how1.rd
  have HRQ := Lib.hid (HR.out.below HB.out)
  clear how1 HOW HBB
  clear p0 p1 p2 p3 pf
  refine (copy_any _ l _ _ _ _ _ _ HOW1.out HN.out hl).mono ?_
  rintro e w2 ⟨he, hb⟩
  rw [← HRC.out] at he
  subst he
  replace HB := Lib.hid (below_step HB.out hb)
  replace HRQ := Lib.hid (HRQ.out.below hb)
  replace HOW1 := Lib.hid (HOW1.out.below hb)
  replace HBK := Lib.hid (HBK.out.ext hb)
  clear hb
  obtain ⟨p0, p1, p2, p3, pf⟩ := HBK.out.c4
  have hszk := HBK.out.2.2
  go_wp2_with fail
  clear p0 p1 p2 p3 pf hszk
  replace HB := Lib.hid (below_more HB.out (.cells #[.int .i64 rc.1, .int .i64 rc.2.1, .int .u64 rc.2.2.1.toNat, .int .u64 rc.2.2.2.1] 65))
  replace HRQ := Lib.hid (HRQ.out.below (below_alloc w2 (.cells #[.int .i64 rc.1, .int .i64 rc.2.1, .int .u64 rc.2.2.1.toNat, .int .u64 rc.2.2.2.1] 65)))
  replace HOW1 := Lib.hid (HOW1.out.below (below_alloc w2 (.cells #[.int .i64 rc.1, .int .i64 rc.2.1, .int .u64 rc.2.2.1.toNat, .int .u64 rc.2.2.2.1] 65)))
  replace HBK := Lib.hid (HBK.out.alloc (.cells #[.int .i64 rc.1, .int .i64 rc.2.1, .int .u64 rc.2.2.1.toNat, .int .u64 rc.2.2.2.1] 65))
  have HX2 := Lib.hid (Box.new w2 65 #[.int .i64 rc.1, .int .i64 rc.2.1, .int .u64 rc.2.2.1.toNat, .int .u64 rc.2.2.2.1])
  refine (refCopy_any _ l _ _ _ _ _ _ HRQ.out HN.out hl).mono ?_
  rintro e w3 ⟨he, hb⟩
  rw [← HRC.out] at he
  subst he
  replace HB := Lib.hid (below_step HB.out hb)
  replace HRQ := Lib.hid (HRQ.out.below hb)
  replace HOW1 := Lib.hid (HOW1.out.below hb)
  replace HBK := Lib.hid (HBK.out.ext hb)
  replace HX2 := Lib.hid (HX2.out.ext hb)
  clear hb
  obtain ⟨p0, p1, p2, p3, pf⟩ := HBK.out.c4
  have hszk := HBK.out.2.2
  go_wp2_with fail
  clear p0 p1 p2 p3 pf hszk
  replace HB := Lib.hid (below_more HB.out (.cells #[.int .i64 rc.1, .int .i64 rc.2.1, .int .u64 rc.2.2.1.toNat, .int .u64 rc.2.2.2.1] 65))
  replace HRQ := Lib.hid (HRQ.out.below (below_alloc w3 (.cells #[.int .i64 rc.1, .int .i64 rc.2.1, .int .u64 rc.2.2.1.toNat, .int .u64 rc.2.2.2.1] 65)))
  replace HOW1 := Lib.hid (HOW1.out.below (below_alloc w3 (.cells #[.int .i64 rc.1, .int .i64 rc.2.1, .int .u64 rc.2.2.1.toNat, .int .u64 rc.2.2.2.1] 65)))
  replace HBK := Lib.hid (HBK.out.alloc (.cells #[.int .i64 rc.1, .int .i64 rc.2.1, .int .u64 rc.2.2.1.toNat, .int .u64 rc.2.2.2.1] 65))
  replace HX2 := Lib.hid (HX2.out.alloc (.cells #[.int .i64 rc.1, .int .i64 rc.2.1, .int .u64 rc.2.2.1.toNat, .int .u64 rc.2.2.2.1] 65))
  have HX3 := Lib.hid (Box.new w3 65 #[.int .i64 rc.1, .int .i64 rc.2.1, .int .u64 rc.2.2.1.toNat, .int .u64 rc.2.2.2.1])
  refine (apply_any _ _ _ _ _ l _ _ _ _ _ HOW1.out HN.out hl).mono ?_
  rintro e w4 ⟨he, hb⟩
  rw [← HRA.out] at he
  subst he
  replace HB := Lib.hid (below_step HB.out hb)
  replace HRQ := Lib.hid (HRQ.out.below hb)
  replace HOW1 := Lib.hid (HOW1.out.below hb)
  replace HBK := Lib.hid (HBK.out.ext hb)
  replace HX2 := Lib.hid (HX2.out.ext hb)
  replace HX3 := Lib.hid (HX3.out.ext hb)
  clear hb
  obtain ⟨p0, p1, p2, p3, pf⟩ := HBK.out.c4
  have hszk := HBK.out.2.2
  go_wp2_with fail
  clear p0 p1 p2 p3 pf hszk
  replace HB := Lib.hid (below_more HB.out (.cells #[.int .i64 ra.1, .int .i64 ra.2.1, .int .u64 ra.2.2.1.toNat, .int .u64 ra.2.2.2.1] 65))
  replace HRQ := Lib.hid (HRQ.out.below (below_alloc w4 (.cells #[.int .i64 ra.1, .int .i64 ra.2.1, .int .u64 ra.2.2.1.toNat, .int .u64 ra.2.2.2.1] 65)))
  replace HOW1 := Lib.hid (HOW1.out.below (below_alloc w4 (.cells #[.int .i64 ra.1, .int .i64 ra.2.1, .int .u64 ra.2.2.1.toNat, .int .u64 ra.2.2.2.1] 65)))
  replace HBK := Lib.hid (HBK.out.alloc (.cells #[.int .i64 ra.1, .int .i64 ra.2.1, .int .u64 ra.2.2.1.toNat, .int .u64 ra.2.2.2.1] 65))
  replace HX2 := Lib.hid (HX2.out.alloc (.cells #[.int .i64 ra.1, .int .i64 ra.2.1, .int .u64 ra.2.2.1.toNat, .int .u64 ra.2.2.2.1] 65))
  replace HX3 := Lib.hid (HX3.out.alloc (.cells #[.int .i64 ra.1, .int .i64 ra.2.1, .int .u64 ra.2.2.1.toNat, .int .u64 ra.2.2.2.1] 65))
  have HX4 := Lib.hid (Box.new w4 65 #[.int .i64 ra.1, .int .i64 ra.2.1, .int .u64 ra.2.2.1.toNat, .int .u64 ra.2.2.2.1])
  refine (refApply_any _ _ _ _ _ l _ _ _ _ _ HRQ.out HN.out hl).mono ?_
  rintro e w5 ⟨he, hb⟩
  rw [← HRA.out] at he
  subst he
  replace HB := Lib.hid (below_step HB.out hb)
  replace HRQ := Lib.hid (HRQ.out.below hb)
  replace HOW1 := Lib.hid (HOW1.out.below hb)
  replace HBK := Lib.hid (HBK.out.ext hb)
  replace HX2 := Lib.hid (HX2.out.ext hb)
  replace HX3 := Lib.hid (HX3.out.ext hb)
  replace HX4 := Lib.hid (HX4.out.ext hb)
  clear hb
  obtain ⟨p0, p1, p2, p3, pf⟩ := HBK.out.c4
  have hszk := HBK.out.2.2
  go_wp2
  clear p0 p1 p2 p3 pf hszk
  replace HB := Lib.hid (below_more HB.out (.cells #[.int .i64 ra.1, .int .i64 ra.2.1, .int .u64 ra.2.2.1.toNat, .int .u64 ra.2.2.2.1] 65))
  replace HRQ := Lib.hid (HRQ.out.below (below_alloc w5 (.cells #[.int .i64 ra.1, .int .i64 ra.2.1, .int .u64 ra.2.2.1.toNat, .int .u64 ra.2.2.2.1] 65)))
  replace HOW1 := Lib.hid (HOW1.out.below (below_alloc w5 (.cells #[.int .i64 ra.1, .int .i64 ra.2.1, .int .u64 ra.2.2.1.toNat, .int .u64 ra.2.2.2.1] 65)))
  replace HBK := Lib.hid (HBK.out.alloc (.cells #[.int .i64 ra.1, .int .i64 ra.2.1, .int .u64 ra.2.2.1.toNat, .int .u64 ra.2.2.2.1] 65))
  replace HX2 := Lib.hid (HX2.out.alloc (.cells #[.int .i64 ra.1, .int .i64 ra.2.1, .int .u64 ra.2.2.1.toNat, .int .u64 ra.2.2.2.1] 65))
  replace HX3 := Lib.hid (HX3.out.alloc (.cells #[.int .i64 ra.1, .int .i64 ra.2.1, .int .u64 ra.2.2.1.toNat, .int .u64 ra.2.2.2.1] 65))
  replace HX4 := Lib.hid (HX4.out.alloc (.cells #[.int .i64 ra.1, .int .i64 ra.2.1, .int .u64 ra.2.2.1.toNat, .int .u64 ra.2.2.2.1] 65))
  have HX5 := Lib.hid (Box.new w5 65 #[.int .i64 ra.1, .int .i64 ra.2.1, .int .u64 ra.2.2.1.toNat, .int .u64 ra.2.2.2.1])
  generalize w5.alloc (.cells #[.int .i64 ra.1, .int .i64 ra.2.1, .int .u64 ra.2.2.1.toNat, .int .u64 ra.2.2.2.1] 65) = W at *
  obtain ⟨rc1, rc2, rc3, rc4, rc5⟩ := rc
  obtain ⟨ra1, ra2, ra3, ra4, ra5⟩ := ra
  simp only at *
  obtain ⟨k0, k1, k2, k3, kf⟩ := HBK.out.c4
  obtain ⟨a0, a1, a2, a3, af⟩ := HX2.out.c4
  obtain ⟨b0, b1, b2, b3, bf⟩ := HX3.out.c4
  obtain ⟨d0, d1, d2, d3, df⟩ := HX4.out.c4
  obtain ⟨e0, e1, e2, e3, ef⟩ := HX5.out.c4
  have hs0 := HBK.out.2.2
  have hs2 := HX2.out.2.2
  have hs3 := HX3.out.2.2
  have hs4 := HX4.out.2.2
  have hs5 := HX5.out.2.2
  have hne : Nonempty (ExtOf W) := ⟨⟨W, Below.refl _ _⟩⟩
  refine wp_region_ext (by kernel_rfl) (by kernel_rfl) ?_
  iterate 11 (go_big_quiet_step (fail))
  iterate 1 (go_big_quiet_step ((go_at_call 46; exact ext_cc HKK.out)))
  iterate 2 (go_big_quiet_step (fail))
  iterate 1 (go_big_quiet_step ((go_at_call 47; exact ext_rc HKK.out)))
  iterate 15 (go_big_quiet_step (fail))
  iterate 1 (go_big_quiet_step ((go_at_call 37; exact ext_of (sameChanges_true _ _ l _ _ _ _ (HOW1.out.below (ExtOf.ext _)) (HRQ.out.below (ExtOf.ext _)) HN.out hl))))
  repeat (go_big_quiet_step (fail))
  refine wpQuiet_nil ?_
  intro X hw'
  obtain ⟨⟨X', hX⟩, hw''⟩ := hw'
  simp only at hw''
  subst hw''
  clear hne
  go_wp2
  go_ret
  exact ⟨rfl, below_step HB.out hX⟩
end Go.Proofs.Ytalmeokljamhdaa
