/- Ridge: the fill of the program, where it goes on. No condition. -/
import Derived.Test.YtjelnbfnoliocaaPh
namespace Go.Proofs.Ytjelnbfnoliocaa
open Go.RowKit

theorem Env.mark {P : Pic} {b : Blk} {marks : List Bool} {w : World} {k : Nat} (h : Env P b marks w) (hk : k < marks.length) : Env P b (marks.set k true) (w.setCell ⟨b.m, k, none⟩ (.bool true)) := by
  have hf := h.far
  refine ⟨h.bw.far _ hf.1.symm, h.bh.far _ hf.2.1.symm, ?_, h.bp.far _ hf.2.2.2.1.symm, h.bb.far _ hf.2.2.2.2.1.symm, h.bd.far _ hf.2.2.2.2.2.1.symm, h.bf.far _ hf.2.2.2.2.2.2.symm, ?_, ?_, hf, h.apart, by rw [List.length_set]; exact h.len⟩
  · rw [List.length_set]; exact h.bs.far _ hf.2.2.1.symm
  · have := h.bm.set (.bool true) (i := k) (by simpa [bools] using hk)
    simpa [bools, List.map_set] using this
  · rcases h.rd with e | ⟨c, off, e1, e2, e3⟩
    · exact .inl e
    · refine .inr ⟨c, off, e1, by simpa using e2, fun j u hu => ?_⟩
      have hne : c ≠ b.m := fun e => h.apart off (by rw [e1, e])
      exact ((belX_of (Below.refl w.heap.size w) b.m).set k (.bool true)).cell (p := ⟨c, off + j, none⟩) e2 hne ▸ e3 j u hu

set_option maxRecDepth 100000 in
set_option maxHeartbeats 4000000 in
theorem fill_on (P : Pic) (b : Blk) (fuel : Nat) (marks : List Bool) (x y : Int) (w : World) (he : Env P b marks w)
    (ih : ∀ (T : List Bool) (X Y : Int) (w1 : World), openN T ≤ fuel → Env P b T w1 → (-1 ≤ X ∧ X ≤ 22) → (-1 ≤ Y ∧ Y ≤ 22) →
      Calls Try.prog 79 (#[.int .i64 X, .int .i64 Y] ++ b.ptrs) w1 fun e w' => ∃ T' v, e = .returned (.bool v) ∧ T'.length = T.length ∧ openN T' ≤ openN T ∧ Env P b T' w' ∧ BelX w1.heap.size b.m w1 w' ∧ FillXY P T T' X Y)
    (hf : openN marks ≤ fuel + 1)
    (hg1 : inB 0 (P.W + 1) x = true) (hg2 : inB 0 (P.H + 1) y = true) (hg3 : marks.getD (y * (P.W + 2) + x).toNat false = false) (hg4 : isF P.W P.H P.l (x - 1) (y - 1) = P.black) :
    Calls Try.prog 79 (#[.int .i64 x, .int .i64 y] ++ b.ptrs) w fun e w' => ∃ T', e = .returned (.bool true) ∧ T'.length = marks.length ∧ openN T' ≤ openN marks ∧ Env P b T' w' ∧ BelX w.heap.size b.m w w' ∧ FillXY P marks T' x y := by
  obtain ⟨hW, hH, _⟩ := valid_bd P.ok
  have HX := fun (w1 : World) => Lib.hid (show Calls Try.prog 58 #[.int .i64 x, .int .i64 0, .int .i64 (P.W + 1)] w1 fun e w' => e = .returned (.bool true) ∧ w1 = w' by have := within_any 0 (P.W + 1) x w1; rw [hg1] at this; exact this)
  have HY := fun (w1 : World) => Lib.hid (show Calls Try.prog 58 #[.int .i64 y, .int .i64 0, .int .i64 (P.H + 1)] w1 fun e w' => e = .returned (.bool true) ∧ w1 = w' by have := within_any 0 (P.H + 1) y w1; rw [hg2] at this; exact this)
  have hx : 0 ≤ x ∧ x ≤ P.W + 1 := by simpa [inB] using hg1
  have hy : 0 ≤ y ∧ y ≤ P.H + 1 := by simpa [inB] using hg2
  obtain ⟨p1, p2, p3, p4⟩ := place_lt (W := P.W + 2) (H := P.H + 2) he.len (by omega : 0 ≤ x ∧ x ≤ P.W + 2 - 1) (by omega : 0 ≤ y ∧ y ≤ P.H + 2 - 1)
  have hn4 : marks.length ≤ 484 := by
    have := he.len
    have b2 : (P.W + 2) * (P.H + 2) ≤ 22 * 22 := Int.mul_le_mul (by omega) (by omega) (by omega) (by omega)
    omega
  obtain ⟨k, hk⟩ := Int.eq_ofNat_of_zero_le p1
  have hkl : k < marks.length := by omega
  have hgd : marks.getD (y * (P.W + 2) + x).toNat false = marks[k] := by rw [hk, Int.toNat_natCast, List.getD_eq_getElem?_getD, List.getElem?_eq_getElem hkl]; rfl
  rw [hgd] at hg3
  have c3 := he.bm.1 k _ (bools_get hkl)
  rw [hg3] at c3
  have c2 := he.bs.1 0 _ rfl
  have hl2 := he.bs.2.2
  have hl3 := he.bm.2.2
  have c0 := he.bw.1 0 _ rfl
  have hl := he.bw.2.2
  have c1 := he.bh.1 0 _ rfl
  have hl1 := he.bh.2.2
  have HI := Lib.hid (fun (z : ExtOf w) => is_any P.W P.H (x - 1) (y - 1) P.A P.l P.n P.c z.wld P.ok (he.rd.below z.ext) P.len)
  have c4 := he.bp.1 0 _ rfl
  have c5 := he.bp.1 1 _ rfl
  have c6 := he.bp.1 2 _ rfl
  have hl4 := he.bp.2.2
  have c7 := he.bb.1 0 _ rfl
  have hl7 := he.bb.2.2
  rw [hg4] at HI
  have HE := Lib.hid he
  have HIH := Lib.hid ih
  have HF := Lib.hid hf
  have HG3 := Lib.hid (show marks[k]? = some false by rw [List.getElem?_eq_getElem hkl, hg3])
  have hix : idx P x y = k := by unfold idx; rw [hk]; rfl
  have hcc := idx_cx (P := P) (x := x) (y := y) ⟨hx, hy⟩
  rw [hix] at hcc
  have HKP := Lib.hid (show KP P k ∧ cx P k = x ∧ cy P k = y ∧ idx P x y = k from ⟨⟨by rw [← he.len]; omega, by rw [hcc.1, hcc.2]; exact hg4⟩, hcc.1, hcc.2, hix⟩)
  have HIN := Lib.hid (show inP P x y from ⟨hx, hy⟩)
  clear hix hcc
  have HG4 := Lib.hid hg4
  have cf := he.bm.2.1
  clear ih hf hg4
  generalize hq : y * (P.W + 2) = q at *
  have HQ := Lib.hid hq
  clear hq
  have e3 : IntKind.i64.wrap (y * (P.W + 2)) = q := by rw [HQ.out]; exact IntWalk.i64_in _ (by omega)
  have e4 : IntKind.i64.wrap (q + x) = (k : Int) := by rw [hk]; exact IntWalk.i64_in _ (by omega)
  clear hgd hg3 he
  generalize hN : marks.length = N at *
  have hkn : (k : Int) < (N : Int) := by omega
  have HK := Lib.hid hk
  have HNN := Lib.hid hN
  clear hk hN
  clear hg1 hg2
  have hkn0 : (0 : Int) ≤ (k : Int) := by omega
  show Calls Try.prog 79 #[.int .i64 x, .int .i64 y, .pointer (some ⟨b.bw, 0, none⟩), .pointer (some ⟨b.bh, 0, none⟩), .pointer (some ⟨b.bs, 0, none⟩), .pointer (some ⟨b.bp, 0, none⟩), .pointer (some ⟨b.bb, 0, none⟩), .pointer (some ⟨b.bd, 0, none⟩), .pointer (some ⟨b.bf, 0, none⟩)] w _
  have e1 : IntKind.i64.wrap (P.W + 2 - 1) = P.W + 1 := by rw [show P.W + 2 - 1 = P.W + 1 by omega]; exact IntWalk.i64_in _ (by omega)
  have e2 : IntKind.i64.wrap (P.H + 2 - 1) = P.H + 1 := by rw [show P.H + 2 - 1 = P.H + 1 by omega]; exact IntWalk.i64_in _ (by omega)
  go_enter Try.func79, Try.ntmps79
  go_wp2_with fail
  have hne : Nonempty (ExtOf w) := ⟨⟨w, Below.refl _ _⟩⟩
  refine wp_region_ext (by kernel_rfl) (by kernel_rfl) ?_
  iterate 3 (go_big_quiet_step (fail))
  go_big_quiet_step ((go_at_call 58; exact ext_same (HX _).out))
  iterate 5 (go_big_quiet_step (fail))
  go_big_quiet_step ((go_at_call 58; exact ext_same (HY _).out))
  iterate 18 (go_big_quiet_step (fail))
  go_big_quiet_step ((go_at_call 80; exact ext_of (HI.out _)))
  iterate 3 (go_big_quiet_step (fail))
  refine wpQuiet_nil ?_
  rintro _ ⟨z, rfl⟩
  obtain ⟨w0, hb0⟩ := z
  simp only at *
  have HE0 := Lib.hid (HE.out.below hb0)
  clear c0 c1 c2 c3 c4 c5 c6 c7 cf HX HY HI hl hl1 hl2 hl3 hl4 hl7
  have c0 := HE0.out.bw.1 0 _ rfl
  have c2 := HE0.out.bs.1 0 _ rfl
  rw [HNN.out] at c2
  have c3 := HE0.out.bm.1 k _ (bools_get (by rw [HNN.out]; omega))
  have cf := HE0.out.bm.2.1
  have hl := HE0.out.bw.2.2
  have hl2 := HE0.out.bs.2.2
  have hl3 := HE0.out.bm.2.2
  go_wp2_with fail
  refine (steps_any _).mono ?_
  rintro e w1 ⟨rfl, hb1⟩
  go_wp2_with fail
  have HE1 := Lib.hid ((HE0.out.mark (k := k) (by rw [HNN.out]; omega)).below hb1)
  have HB1 := Lib.hid (((belX_of hb0 b.m).set k (.bool true)).trans ((belX_of hb1 b.m).mono (by simpa using hb0.size)))
  clear c0 c2 c3 cf hl hl2 hl3 hb0 hb1 HE0
  have HO := Lib.hid (show openN (marks.set k true) ≤ fuel by have := openN_set marks k HG3.out; have := HF.out; omega)
  have HH := Lib.hid (Half.start (A := AP P) (T := mkd (marks.set k true)) HKP.out.1 (fun v => getD_set marks k (by rw [HNN.out]; omega) v))
  go_loopw [12, 13, 54] (fun _ _ u54 wr => ∃ (j : Nat) (T : List Bool), j ≤ 8 ∧ u54 = .int .i64 j ∧ Hid (T.length = marks.length ∧ (openN T ≤ fuel ∧ openN T ≤ openN marks) ∧ Env P b T wr ∧ BelX w.heap.size b.m w wr ∧ Half (KP P) (AP P) (mkd marks) (mkd T) (DP P j k) k)) (fun _ _ u54 _ => 20 - (intOf u54).toNat)
  case atStart => exact ⟨0, marks.set k true, by omega, rfl, Lib.hid ⟨by simp, ⟨HO.out, by have := openN_set marks k HG3.out; omega⟩, HE1.out, HB1.out, HH.out.sub, HH.out.at_, HH.out.new, HH.out.shut, fun u ⟨d, h, _⟩ => by omega⟩⟩
  case round =>
    obtain ⟨j, T, hj, rfl, hI⟩ := hrel
    by_cases hlt : j < 8
    · obtain ⟨i1, i2, i3, i4, i5⟩ := hI.out
      have I3 := Lib.hid i3
      have I1 := Lib.hid i1
      have I4 := Lib.hid i4
      have I5 := Lib.hid i5
      have hbd := d_bd j
      have hix : ∀ W2, (Instr.index 114 stepsV (.int .i64 (j : Int))).run Try.prog W2 = .ok (.agg #[.int .i64 (dx j), .int .i64 (dy j)]) W2 := fun W2 => index_step W2 j hlt
      have cd := i3.bd.1 0 _ rfl
      have hld := i3.bd.2.2
      have cf := i3.bf.1 0 _ rfl
      have hlf := i3.bf.2.2
      clear i1 i3 i4 i5 hI
      cases hal : allowF P j
      · have hd : P.diag = true ∧ j % 2 = 1 := by simpa [allowF] using hal
        rw [hd.1] at cd
        have hm : (j : Int) % 2 = 1 := by omega
        have HAL := Lib.hid hal
        clear hd hal
        go_wp2_with fail
        go_roundw
        case rel => exact ⟨j + 1, T, by omega, by go_num, Lib.hid ⟨I1.out, i2, I3.out.below (below_alloc _ _), I4.out.trans (belX_of ((below_alloc _ _).mono I4.out.size) _), half_pass HAL.out I5.out⟩⟩
        case measure => simp [intOf]; omega
      · have HAL := Lib.hid hal
        have hdd : P.diag = false ∨ (P.diag = true ∧ j % 2 = 0) := by cases hq : P.diag <;> simp_all [allowF]
        have HC := Lib.hid (fun (T : List Bool) (X Y : Int) (w1 : World) h1 h2 h3 h4 => (show Calls Try.prog 79 #[.int .i64 X, .int .i64 Y, .pointer (some ⟨b.bw, 0, none⟩), .pointer (some ⟨b.bh, 0, none⟩), .pointer (some ⟨b.bs, 0, none⟩), .pointer (some ⟨b.bp, 0, none⟩), .pointer (some ⟨b.bb, 0, none⟩), .pointer (some ⟨b.bd, 0, none⟩), .pointer (some ⟨b.bf, 0, none⟩)] w1 _ from HIH.out T X Y w1 h1 h2 h3 h4))
        clear hal
        rcases hdd with hd | ⟨hd, hm⟩
        · rw [hd] at cd
          clear hd
          go_wp2_with fail
          refine (HC.out T (x + dx j) (y + dy j) _ i2.1 (I3.out.below (below_alloc _ _)) (by omega) (by omega)).mono ?_
          rintro e w2 ⟨T', v, rfl, k1, k2, k3, k4, k5⟩
          have hr := Lib.hid (show T'.length = marks.length ∧ (openN T' ≤ fuel ∧ openN T' ≤ openN marks) ∧ Env P b T' w2 ∧ BelX w.heap.size b.m w w2 ∧ Half (KP P) (AP P) (mkd marks) (mkd T') (DP P (j + 1) k) k from ⟨k1.trans I1.out, ⟨by omega, by omega⟩, k3, (I4.out.trans (belX_of ((below_alloc _ _).mono I4.out.size) _)).trans (k4.mono (by have := I4.out.size; simp; omega)), half_step hW.1 hlt HAL.out HKP.out.1 I5.out (by rw [HKP.out.2.1, HKP.out.2.2.1]; exact k5)⟩)
          clear k1 k2 k3 k4 k5
          go_wp2_with fail
          go_roundw
          case rel => exact ⟨j + 1, T', by omega, by go_num, hr⟩
          case measure => simp [intOf]; omega
        · rw [hd] at cd
          have hm2 : (j : Int) % 2 = 0 := by omega
          clear hd hm
          go_wp2_with fail
          refine (HC.out T (x + dx j) (y + dy j) _ i2.1 (I3.out.below (below_alloc _ _)) (by omega) (by omega)).mono ?_
          rintro e w2 ⟨T', v, rfl, k1, k2, k3, k4, k5⟩
          have hr := Lib.hid (show T'.length = marks.length ∧ (openN T' ≤ fuel ∧ openN T' ≤ openN marks) ∧ Env P b T' w2 ∧ BelX w.heap.size b.m w w2 ∧ Half (KP P) (AP P) (mkd marks) (mkd T') (DP P (j + 1) k) k from ⟨k1.trans I1.out, ⟨by omega, by omega⟩, k3, (I4.out.trans (belX_of ((below_alloc _ _).mono I4.out.size) _)).trans (k4.mono (by have := I4.out.size; simp; omega)), half_step hW.1 hlt HAL.out HKP.out.1 I5.out (by rw [HKP.out.2.1, HKP.out.2.2.1]; exact k5)⟩)
          clear k1 k2 k3 k4 k5
          go_wp2_with fail
          go_roundw
          case rel => exact ⟨j + 1, T', by omega, by go_num, hr⟩
          case measure => simp [intOf]; omega
    · obtain rfl : j = 8 := by omega
      go_wp2_with fail
      go_ret
      obtain ⟨i1, i2, i3, i4, i5⟩ := hI.out
      refine ⟨T, rfl, i1.trans HNN.out, i2.2, i3, i4, fun _ => ?_, fun h => absurd HIN.out h⟩
      · rw [HKP.out.2.2.2]; exact i5.fill fun u _ a => a
end Go.Proofs.Ytjelnbfnoliocaa
