/- EdgeSealed: a changed copy is not sealed. -/
import Derived.Test.YtalmeokljamhdaaNf
import Derived.Test.YtalmeokljamhdaaNc
namespace Go.Proofs.Ytalmeokljamhdaa
open Go.RowKit

theorem seal_asOf {t z m : Int} {S key : BitVec 64} (h1 : inB 0 1099511627776 t = true) (h2 : inB 0 1099511627776 m = true) (h : z ≠ t) : sealedB z m S.toNat (sealI t m S.toNat key.toNat) key.toNat = false := by
  cases hz : inB 0 1099511627776 z
  · simp [sealedB, hz]
  · cases hs : sealedB z m S.toNat (sealI t m S.toNat key.toNat) key.toNat
    · rfl
    · obtain ⟨_, _, he⟩ := sealedB_time hs
      rw [sealI_eq S key h1 h2, sealI_eq S key hz h2] at he
      have := mixB_inj (mixB_inj1 (mixB_inj1 (toNat_inj64 he)))
      exact absurd (time_inj hz h1 this.symm) h
theorem seal_maxAge {t z m : Int} {S key : BitVec 64} (h1 : inB 0 1099511627776 t = true) (h2 : inB 0 1099511627776 m = true) (h : z ≠ m) : sealedB t z S.toNat (sealI t m S.toNat key.toNat) key.toNat = false := by
  cases hz : inB 0 1099511627776 z
  · simp [sealedB, hz]
  · cases hs : sealedB t z S.toNat (sealI t m S.toNat key.toNat) key.toNat
    · rfl
    · obtain ⟨_, _, he⟩ := sealedB_time hs
      rw [sealI_eq S key h1 h2, sealI_eq S key h1 hz] at he
      have := mixB_inj (toNat_inj64 he)
      exact absurd (time_inj hz h2 this.symm) h
theorem seal_set {t m : Int} {S Z key : BitVec 64} (h1 : inB 0 1099511627776 t = true) (h2 : inB 0 1099511627776 m = true) (h : Z ≠ S) : sealedB t m Z.toNat (sealI t m S.toNat key.toNat) key.toNat = false := by
  cases hs : sealedB t m Z.toNat (sealI t m S.toNat key.toNat) key.toNat
  · rfl
  · obtain ⟨_, _, he⟩ := sealedB_time hs
    rw [sealI_eq S key h1 h2, sealI_eq Z key h1 h2] at he
    exact absurd (mixB_inj (mixB_inj1 (toNat_inj64 he))).symm h
theorem seal_seal {t m s z key : Int} (h : z ≠ sealI t m s key) : sealedB t m s z key = false := by
  cases hs : sealedB t m s z key
  · rfl
  · exact absurd (sealedB_time hs).2.2 h
theorem decF_bad {a m : Int} {S : BitVec 64} {se key p now : Int} (h : sealedB a m S.toNat se key = false) : decF a m S se key p now = (0, 8) := by simp [decF, h]

set_option maxRecDepth 100000 in
set_option maxHeartbeats 4000000 in
theorem edgeSealed_walk (A : Option Addr) (l : List Chg) (n c : Nat) (t ma : Int) (key : BitVec 64) (fd z : Int) (Z : BitVec 64) (w : World) (hr : Rd w A (flat cenc l)) (hn : n = l.length) (hf0 : 0 ≤ fd) (hf1 : fd ≤ 255) :
    Calls Try.prog 8 #[.slice A n c, .int .i64 t, .int .i64 ma, .int .u64 key.toNat, .int .u8 fd, .int .i64 z, .int .u64 Z.toNat] w fun e w' => e = .returned (.bool true) ∧ Below w.heap.size w w' := by
  have HR := Lib.hid hr
  have HN := Lib.hid hn
  clear hr hn
  by_cases h60 : 60 < n
  · go_enter Try.func8, Try.ntmps8
    go_wp2_with fail
    refine (alive_any _).mono ?_
    rintro e w1 ⟨rfl, hb⟩
    go_wp2
    go_ret
    exact ⟨rfl, hb⟩
  have hl : n ≤ 1000 := by omega
  have hd60 : decide (60 < (n : Int)) = false := by simp; omega
  rcases copy_two l t ma key.toNat with ⟨K, h, hk⟩ | ⟨h0, h1, h2, h⟩
  · have HC := Lib.hid h
    clear h
    go_enter Try.func8, Try.ntmps8
    go_wp2_with fail
    refine (alive_any _).mono ?_
    rintro e w1 ⟨rfl, hb⟩
    have HB := Lib.hid hb
    have HRD := Lib.hid (HR.out.below hb)
    clear hb
    go_wp2_with fail
    refine (copy_any _ l _ _ _ _ _ _ HRD.out HN.out hl).mono ?_
    rintro e w2 ⟨he, hb⟩
    rw [HC.out] at he
    subst he
    go_wp2
    go_ret
    exact ⟨rfl, below_more (below_step HB.out hb) _⟩
  have HC := Lib.hid h
  have HSO := Lib.hid (sealedB_own t ma (aftF 0#64 (betF l (-1) t)).toNat key.toNat)
  rw [h1, h2] at HSO
  have HA := Lib.hid (fun (z : Int) => @seal_asOf t z ma (aftF 0#64 (betF l (-1) t)) key h1 h2)
  have HM := Lib.hid (fun (z : Int) => @seal_maxAge t z ma (aftF 0#64 (betF l (-1) t)) key h1 h2)
  have HS := Lib.hid (fun Z => @seal_set t ma (aftF 0#64 (betF l (-1) t)) Z key h1 h2)
  have HE := Lib.hid (fun z => @seal_seal t ma (aftF 0#64 (betF l (-1) t)).toNat z key.toNat)
  have HI1 := Lib.hid h1
  have HI2 := Lib.hid h2
  clear h h0 h1 h2
  generalize aftF 0#64 (betF l (-1) t) = S at *
  generalize sealI t ma S.toNat key.toNat = se at *
  go_enter Try.func8, Try.ntmps8
  go_wp2_with fail
  refine (alive_any _).mono ?_
  rintro e w1 ⟨rfl, hb⟩
  have HB := Lib.hid hb
  have HRD := Lib.hid (HR.out.below hb)
  clear hb
  go_wp2_with fail
  refine (copy_any _ l _ _ _ _ _ _ HRD.out HN.out hl).mono ?_
  rintro e w2 ⟨he, hb⟩
  rw [HC.out] at he
  subst he
  replace HB := Lib.hid (below_step HB.out hb)
  have hszB : w.heap.size ≤ w2.heap.size := HB.out.size
  clear hb HRD HC
  go_wp2_with fail
  refine (checkCopy_any _ _ _ _ _ _).mono ?_
  rintro e w3 ⟨rfl, hb⟩
  rw [HSO.out]
  simp only [errB, Bool.and_self, if_true]
  have HX := Lib.hid ((Box.new w2 65 #[.int .i64 t, .int .i64 ma, .int .u64 S.toNat, .int .u64 se]).ext hb)
  replace HB := Lib.hid (below_step HB.out (below_step (below_alloc _ _) hb))
  clear hb
  obtain ⟨p0, p1, p2, p3, pf⟩ := HX.out.c4
  have hs3 := HX.out.2.2
  have hw2 : w.heap.size ≤ w2.heap.size := hszB
  have hcs : fd % 4 = 0 ∨ fd % 4 = 1 ∨ fd % 4 = 2 ∨ fd % 4 = 3 := by omega
  rcases hcs with hm | hm | hm | hm
  · by_cases hz : z = t
    · as_aux_lemma =>
      subst hz
      go_wp2_with fail
      refine (decide_any z ma S _ _ _ _ _).mono ?_
      rintro e w4 ⟨rfl, hb⟩
      have hx4 : Box w4 w2.heap.size [.int .i64 z, .int .i64 ma, .int .u64 S.toNat, .int .u64 se] := ((HX.out.set (i := 0) _ (by simp)).alloc _).ext hb
      have hy4 : Box w4 w3.heap.size [.int .i64 z, .int .i64 ma, .int .u64 S.toNat, .int .u64 se] := by
        have := (Box.new (w3.setCell ⟨w2.heap.size, 0, none⟩ (.int .i64 z)) 65 #[.int .i64 z, .int .i64 ma, .int .u64 S.toNat, .int .u64 se]).ext hb
        simpa using this
      have HB4 := Lib.hid (below_step (HB.out.setCell (p := ⟨w2.heap.size, 0, none⟩) hw2 (.int .i64 z)) (below_step (below_alloc _ _) hb))
      clear hb p0 p1 p2 p3 pf
      generalize (decF z ma S _ key.toNat 0 1099511627776).1 = d1
      generalize (decF z ma S _ key.toNat 0 1099511627776).2 = d2
      obtain ⟨p0, p1, p2, p3, pf⟩ := hx4.c4
      obtain ⟨q0, q1, q2, q3, qf⟩ := hy4.c4
      clear hx4 hy4
      go_wp2
      go_ret
      exact ⟨rfl, HB4.out⟩
    · as_aux_lemma =>
      have hneg := Lib.hid (HA.out z hz)
      have HDB := Lib.hid (decF_bad (p := 0) (now := 1099511627776) hneg.out)
      have hzb : (z == t) = false := by simpa using hz
      clear hz
      go_wp2_with fail
      refine (decide_any z ma S _ _ _ _ _).mono ?_
      rintro e w4 ⟨rfl, hb⟩
      rw [HDB.out]
      have hx4 : Box w4 w2.heap.size [.int .i64 z, .int .i64 ma, .int .u64 S.toNat, .int .u64 se] := ((HX.out.set (i := 0) _ (by simp)).alloc _).ext hb
      have hy4 : Box w4 w3.heap.size [.int .i64 t, .int .i64 ma, .int .u64 S.toNat, .int .u64 se] := by
        have := (Box.new (w3.setCell ⟨w2.heap.size, 0, none⟩ (.int .i64 z)) 65 #[.int .i64 t, .int .i64 ma, .int .u64 S.toNat, .int .u64 se]).ext hb
        simpa using this
      have HB4 := Lib.hid (below_step (HB.out.setCell (p := ⟨w2.heap.size, 0, none⟩) hw2 (.int .i64 z)) (below_step (below_alloc _ _) hb))
      clear hb p0 p1 p2 p3 pf
      obtain ⟨p0, p1, p2, p3, pf⟩ := hx4.c4
      obtain ⟨q0, q1, q2, q3, qf⟩ := hy4.c4
      clear hx4 hy4
      go_wp2_with fail
      refine (checkCopy_any _ _ _ _ _ _).mono ?_
      rintro e w5 ⟨rfl, hb⟩
      rw [hneg.out]
      simp only [errB, Bool.false_eq_true, if_false]
      go_wp2
      go_ret
      exact ⟨rfl, below_step HB4.out hb⟩
  · by_cases hz : z = ma
    · as_aux_lemma =>
      subst hz
      go_wp2_with fail
      refine (decide_any t z S _ _ _ _ _).mono ?_
      rintro e w4 ⟨rfl, hb⟩
      have hx4 : Box w4 w2.heap.size [.int .i64 t, .int .i64 z, .int .u64 S.toNat, .int .u64 se] := ((HX.out.set (i := 1) _ (by simp)).alloc _).ext hb
      have hy4 : Box w4 w3.heap.size [.int .i64 t, .int .i64 z, .int .u64 S.toNat, .int .u64 se] := by
        have := (Box.new (w3.setCell ⟨w2.heap.size, 1, none⟩ (.int .i64 z)) 65 #[.int .i64 t, .int .i64 z, .int .u64 S.toNat, .int .u64 se]).ext hb
        simpa using this
      have HB4 := Lib.hid (below_step (HB.out.setCell (p := ⟨w2.heap.size, 1, none⟩) hw2 (.int .i64 z)) (below_step (below_alloc _ _) hb))
      clear hb p0 p1 p2 p3 pf
      generalize (decF t z S _ key.toNat 0 1099511627776).1 = d1
      generalize (decF t z S _ key.toNat 0 1099511627776).2 = d2
      obtain ⟨p0, p1, p2, p3, pf⟩ := hx4.c4
      obtain ⟨q0, q1, q2, q3, qf⟩ := hy4.c4
      clear hx4 hy4
      go_wp2
      go_ret
      exact ⟨rfl, HB4.out⟩
    · as_aux_lemma =>
      have hneg := Lib.hid (HM.out z hz)
      have HDB := Lib.hid (decF_bad (p := 0) (now := 1099511627776) hneg.out)
      have hzb : (z == ma) = false := by simpa using hz
      clear hz
      go_wp2_with fail
      refine (decide_any t z S _ _ _ _ _).mono ?_
      rintro e w4 ⟨rfl, hb⟩
      rw [HDB.out]
      have hx4 : Box w4 w2.heap.size [.int .i64 t, .int .i64 z, .int .u64 S.toNat, .int .u64 se] := ((HX.out.set (i := 1) _ (by simp)).alloc _).ext hb
      have hy4 : Box w4 w3.heap.size [.int .i64 t, .int .i64 ma, .int .u64 S.toNat, .int .u64 se] := by
        have := (Box.new (w3.setCell ⟨w2.heap.size, 1, none⟩ (.int .i64 z)) 65 #[.int .i64 t, .int .i64 ma, .int .u64 S.toNat, .int .u64 se]).ext hb
        simpa using this
      have HB4 := Lib.hid (below_step (HB.out.setCell (p := ⟨w2.heap.size, 1, none⟩) hw2 (.int .i64 z)) (below_step (below_alloc _ _) hb))
      clear hb p0 p1 p2 p3 pf
      obtain ⟨p0, p1, p2, p3, pf⟩ := hx4.c4
      obtain ⟨q0, q1, q2, q3, qf⟩ := hy4.c4
      clear hx4 hy4
      go_wp2_with fail
      refine (checkCopy_any _ _ _ _ _ _).mono ?_
      rintro e w5 ⟨rfl, hb⟩
      rw [hneg.out]
      simp only [errB, Bool.false_eq_true, if_false]
      go_wp2
      go_ret
      exact ⟨rfl, below_step HB4.out hb⟩
  · by_cases hz : Z = S
    · as_aux_lemma =>
      subst hz
      go_wp2_with fail
      refine (decide_any t ma Z _ _ _ _ _).mono ?_
      rintro e w4 ⟨rfl, hb⟩
      have hx4 : Box w4 w2.heap.size [.int .i64 t, .int .i64 ma, .int .u64 Z.toNat, .int .u64 se] := ((HX.out.set (i := 2) _ (by simp)).alloc _).ext hb
      have hy4 : Box w4 w3.heap.size [.int .i64 t, .int .i64 ma, .int .u64 Z.toNat, .int .u64 se] := by
        have := (Box.new (w3.setCell ⟨w2.heap.size, 2, none⟩ (.int .u64 Z.toNat)) 65 #[.int .i64 t, .int .i64 ma, .int .u64 Z.toNat, .int .u64 se]).ext hb
        simpa using this
      have HB4 := Lib.hid (below_step (HB.out.setCell (p := ⟨w2.heap.size, 2, none⟩) hw2 (.int .u64 Z.toNat)) (below_step (below_alloc _ _) hb))
      clear hb p0 p1 p2 p3 pf
      generalize (decF t ma Z _ key.toNat 0 1099511627776).1 = d1
      generalize (decF t ma Z _ key.toNat 0 1099511627776).2 = d2
      obtain ⟨p0, p1, p2, p3, pf⟩ := hx4.c4
      obtain ⟨q0, q1, q2, q3, qf⟩ := hy4.c4
      clear hx4 hy4
      go_wp2
      go_ret
      exact ⟨rfl, HB4.out⟩
    · as_aux_lemma =>
      have hneg := Lib.hid (HS.out Z hz)
      have HDB := Lib.hid (decF_bad (p := 0) (now := 1099511627776) hneg.out)
      have hzb : (Z.toNat == S.toNat) = false := by
        rw [beq_eq_false_iff_ne]
        intro he
        exact hz (BitVec.eq_of_toNat_eq he)
      have hzc : ((Z.toNat : Int) == (S.toNat : Int)) = false := by
        rw [beq_eq_false_iff_ne]
        intro he
        exact hz (toNat_inj64 he)
      clear hz
      go_wp2_with fail
      refine (decide_any t ma Z _ _ _ _ _).mono ?_
      rintro e w4 ⟨rfl, hb⟩
      rw [HDB.out]
      have hx4 : Box w4 w2.heap.size [.int .i64 t, .int .i64 ma, .int .u64 Z.toNat, .int .u64 se] := ((HX.out.set (i := 2) _ (by simp)).alloc _).ext hb
      have hy4 : Box w4 w3.heap.size [.int .i64 t, .int .i64 ma, .int .u64 S.toNat, .int .u64 se] := by
        have := (Box.new (w3.setCell ⟨w2.heap.size, 2, none⟩ (.int .u64 Z.toNat)) 65 #[.int .i64 t, .int .i64 ma, .int .u64 S.toNat, .int .u64 se]).ext hb
        simpa using this
      have HB4 := Lib.hid (below_step (HB.out.setCell (p := ⟨w2.heap.size, 2, none⟩) hw2 (.int .u64 Z.toNat)) (below_step (below_alloc _ _) hb))
      clear hb p0 p1 p2 p3 pf
      obtain ⟨p0, p1, p2, p3, pf⟩ := hx4.c4
      obtain ⟨q0, q1, q2, q3, qf⟩ := hy4.c4
      clear hx4 hy4
      go_wp2_with fail
      refine (checkCopy_any _ _ _ _ _ _).mono ?_
      rintro e w5 ⟨rfl, hb⟩
      rw [hneg.out]
      simp only [errB, Bool.false_eq_true, if_false]
      go_wp2
      go_ret
      exact ⟨rfl, below_step HB4.out hb⟩
  · by_cases hz : (Z.toNat : Int) = se
    · as_aux_lemma =>
      subst hz
      go_wp2_with fail
      refine (decide_any t ma S _ _ _ _ _).mono ?_
      rintro e w4 ⟨rfl, hb⟩
      have hx4 : Box w4 w2.heap.size [.int .i64 t, .int .i64 ma, .int .u64 S.toNat, .int .u64 Z.toNat] := ((HX.out.set (i := 3) _ (by simp)).alloc _).ext hb
      have hy4 : Box w4 w3.heap.size [.int .i64 t, .int .i64 ma, .int .u64 S.toNat, .int .u64 Z.toNat] := by
        have := (Box.new (w3.setCell ⟨w2.heap.size, 3, none⟩ (.int .u64 Z.toNat)) 65 #[.int .i64 t, .int .i64 ma, .int .u64 S.toNat, .int .u64 Z.toNat]).ext hb
        simpa using this
      have HB4 := Lib.hid (below_step (HB.out.setCell (p := ⟨w2.heap.size, 3, none⟩) hw2 (.int .u64 Z.toNat)) (below_step (below_alloc _ _) hb))
      clear hb p0 p1 p2 p3 pf
      generalize (decF t ma S _ key.toNat 0 1099511627776).1 = d1
      generalize (decF t ma S _ key.toNat 0 1099511627776).2 = d2
      obtain ⟨p0, p1, p2, p3, pf⟩ := hx4.c4
      obtain ⟨q0, q1, q2, q3, qf⟩ := hy4.c4
      clear hx4 hy4
      go_wp2
      go_ret
      exact ⟨rfl, HB4.out⟩
    · as_aux_lemma =>
      have hneg := Lib.hid (HE.out Z.toNat hz)
      have HDB := Lib.hid (decF_bad (p := 0) (now := 1099511627776) hneg.out)
      have hzb : ((Z.toNat : Int) == se) = false := by simpa using hz
      clear hz
      go_wp2_with fail
      refine (decide_any t ma S _ _ _ _ _).mono ?_
      rintro e w4 ⟨rfl, hb⟩
      rw [HDB.out]
      have hx4 : Box w4 w2.heap.size [.int .i64 t, .int .i64 ma, .int .u64 S.toNat, .int .u64 Z.toNat] := ((HX.out.set (i := 3) _ (by simp)).alloc _).ext hb
      have hy4 : Box w4 w3.heap.size [.int .i64 t, .int .i64 ma, .int .u64 S.toNat, .int .u64 se] := by
        have := (Box.new (w3.setCell ⟨w2.heap.size, 3, none⟩ (.int .u64 Z.toNat)) 65 #[.int .i64 t, .int .i64 ma, .int .u64 S.toNat, .int .u64 se]).ext hb
        simpa using this
      have HB4 := Lib.hid (below_step (HB.out.setCell (p := ⟨w2.heap.size, 3, none⟩) hw2 (.int .u64 Z.toNat)) (below_step (below_alloc _ _) hb))
      clear hb p0 p1 p2 p3 pf
      obtain ⟨p0, p1, p2, p3, pf⟩ := hx4.c4
      obtain ⟨q0, q1, q2, q3, qf⟩ := hy4.c4
      clear hx4 hy4
      go_wp2_with fail
      refine (checkCopy_any _ _ _ _ _ _).mono ?_
      rintro e w5 ⟨rfl, hb⟩
      rw [hneg.out]
      simp only [errB, Bool.false_eq_true, if_false]
      go_wp2
      go_ret
      exact ⟨rfl, below_step HB4.out hb⟩
end Go.Proofs.Ytalmeokljamhdaa
