/- Ridge: Sure of the reference. No condition. -/
import Derived.Test.YtjelnbfnoliocaaBi
namespace Go.Proofs.Ytjelnbfnoliocaa
open Go.RowKit

set_option maxRecDepth 100000 in
set_option maxHeartbeats 1000000 in
theorem refSure_any (W H W' H' m : Int) (P A A' : Option Addr) (pix dark light : List Int) (np cp n c n' c' : Nat) (w : World) (hp : Rd w P (u8s pix)) (hr : Rd w A (u8s dark)) (hr' : Rd w A' (u8s light))
    (hnp : np = pix.length) (hn : n = dark.length) (hn' : n' = light.length) (u0 : U8 pix) (u1 : U8 dark) (u2 : U8 light) (s0 : Int) (hs : seenF W H np W' H' dark light = s0) :
    Calls Try.prog 24 #[.agg #[.int .i64 W, .int .i64 H, .slice P np cp], .agg #[.int .i64 W', .int .i64 H', .slice A n c, .slice A' n' c'], .int .i64 m] w (SurePost (sureL s0 m pix dark light) (sureE s0 m) w) := by
  have HC := Lib.hid (fun W1 (hb : Below w.heap.size w W1) => (seen_any W H W' H' P A A' dark light np cp n c n' c' W1 (hr.below hb) hn (hr'.below hb) hn').mono fun e w' h => by rwa [hs] at h)
  have hle : s0 = 0 → dark.length = pix.length ∧ light.length = pix.length ∧ np = pix.length ∧ n = np ∧ n' = np ∧ np ≤ 400 := fun h0 => by
    obtain ⟨l1, l2, l3, _⟩ := seen_len (by rw [hs]; exact h0)
    exact ⟨by rw [l1, hnp], by rw [l2, hnp], hnp, by rw [hn, l1], by rw [hn', l2], l3⟩
  have hs0 : s0 ≠ 0 → s0 = 10 ∨ s0 = 11 := fun h0 => (hs ▸ seenF_cases W H np W' H' dark light).resolve_left h0
  have HP := Lib.hid hp
  have HR := Lib.hid hr
  have HR' := Lib.hid hr'
  clear hp hr hr' hnp hn hn' hs
  have HB0 := Lib.hid (below_more (below_alloc w (.cells #[.int .i64 W, .int .i64 H, .slice P np cp] 24)) (.cells #[.int .i64 W', .int .i64 H', .slice A n c, .slice A' n' c'] 26))
  by_cases h0 : s0 = 0
  case neg =>
    have hse : sureE s0 m = s0 := if_neg h0
    have HL := Lib.hid (show sureL s0 m pix dark light = [] by rw [sureL, hse, if_neg h0])
    have HSE := Lib.hid hse
    have hs0 := hs0 h0
    clear h0 hle hse
    rcases hs0 with rfl | rfl
    all_goals
      go_enter Try.func24, Try.ntmps24
      go_wp2_with fail
      refine (HC.out _ HB0.out).mono ?_
      rintro e w1 ⟨rfl, hb1⟩
      go_wp2_with fail
      go_ret2
      exact ⟨none, 0, by rw [HL.out, HSE.out]; rfl, .inl (by rw [HL.out]; rfl), below_step HB0.out hb1⟩
  · obtain ⟨h01, h02, h03, h04, h05, h400⟩ := hle h0
    have HLN := Lib.hid h01
    have HLN' := Lib.hid h02
    have HNP := Lib.hid h03
    have HNN := Lib.hid h04
    have HNN' := Lib.hid h05
    have HLO := Lib.hid (offs_len pix dark light h01 h02)
    clear hle h01 h02 h03 h04 h05 hs0
    cases hm : inB 0 100 m
    · have HSE := Lib.hid (show sureE s0 m = 2 by simp [sureE, h0, hm])
      have HL := Lib.hid (show sureL s0 m pix dark light = [] by simp [sureL, HSE.out])
      subst h0
      go_enter Try.func24, Try.ntmps24
      go_wp2_with fail
      refine (HC.out _ HB0.out).mono ?_
      rintro e w1 ⟨rfl, hb1⟩
      go_wp2_with (go_at_call 59; refine (refWithin_any _ _ _ _).mono ?_; rintro e w' ⟨rfl, rfl⟩)
      go_ret2
      exact ⟨none, 0, by rw [HL.out, HSE.out]; rfl, .inl (by rw [HL.out]; rfl), below_step HB0.out hb1⟩
    · have HSE := Lib.hid (show sureE s0 m = 0 by simp [sureE, h0, hm])
      have HL := Lib.hid (show sureL s0 m pix dark light = sures m (offs pix dark light) by simp [sureL, HSE.out])
      have hmb : 0 ≤ m ∧ m ≤ 100 := by simpa [inB] using hm
      subst h0
      obtain ⟨i0, hi0, hz0, hz1, hz2⟩ := info_parts info4
      have HI := Lib.hid hi0
      have HZ0 := Lib.hid hz0
      have HZ1 := Lib.hid hz1
      have HZ2 := Lib.hid hz2
      clear hi0 hz0 hz1 hz2
      have B1 := Lib.hid ((Box.new w 24 #[.int .i64 W, .int .i64 H, .slice P np cp]).alloc (.cells #[.int .i64 W', .int .i64 H', .slice A n c, .slice A' n' c'] 26))
      have B2 := Lib.hid (Box.new (w.alloc (.cells #[.int .i64 W, .int .i64 H, .slice P np cp] 24)) 26 #[.int .i64 W', .int .i64 H', .slice A n c, .slice A' n' c'])
      go_enter Try.func24, Try.ntmps24
      go_wp2_with fail
      refine (HC.out _ HB0.out).mono ?_
      rintro e w1 ⟨rfl, hb1⟩
      have hall := Lib.hid (below_step HB0.out hb1)
      have HB1 := Lib.hid (B1.out.ext hb1)
      have HB2 := Lib.hid (B2.out.ext hb1)
      have hs1 : w.heap.size + 1 < w1.heap.size := by have := hb1.size; simp at this; omega
      clear hb1
      go_wp2_with (go_at_call 59; refine (refWithin_any _ _ _ _).mono ?_; rintro e w' ⟨rfl, rfl⟩)
      go_loopw [9, 10] (fun u9 u10 wr => ∃ (k : Nat) (A2 : Option Addr) (c2 : Nat), k ≤ np ∧ u10 = .int .i64 k ∧ u9 = .slice A2 k c2 ∧ Hid (wr.ownsRow w1.heap.size 4 1 (.slice A2 k c2) k (bools ((sures m (offs pix dark light)).take k))) ∧ Below w1.heap.size w1 wr) (fun _ u10 _ => np - (intOf u10).toNat)
      case atStart => exact ⟨0, none, 0, Nat.zero_le _, rfl, rfl, World.ownsRow_nil _ _ _ _, Below.refl _ _⟩
      case round =>
        obtain ⟨k, A2, c2, hk, rfl, rfl, ho, hb⟩ := hrel
        have hsz := hb.size
        have hall2 := Lib.hid (below_step hall.out hb)
        have HB1r := Lib.hid (HB1.out.ext hb)
        have HB2r := Lib.hid (HB2.out.ext hb)
        obtain ⟨a0, a1, a2, _⟩ := HB1r.out.c3
        obtain ⟨d0, d1, d2, d3, _⟩ := HB2r.out.c4
        simp only [World.size_alloc] at d0 d1 d2 d3
        by_cases hlt : k < np
        · have h0 : k < pix.length := by rw [← HNP.out]; exact hlt
          have h1 : k < dark.length := by rw [HLN.out]; exact h0
          have h2 : k < light.length := by rw [HLN'.out]; exact h0
          have j1 : k < n := by rw [HNN.out]; exact hlt
          have j2 : k < n' := by rw [HNN'.out]; exact hlt
          have HOFF := Lib.hid (fun W3 (hb3 : Below w.heap.size w W3) => off_any W H W' H' k P A A' pix dark light np cp n c n' c' k W3 rfl (HP.out.below hb3) (HR.out.below hb3) (HR'.out.below hb3) h0 h1 h2 hlt j1 j2 u0 u1 u2)
          have hsn := bools_snoc (sures_get (m := m) (show k < (offs pix dark light).length by rw [HLO.out]; exact h0))
          have hgt : (offs pix dark light)[k]'(by rw [HLO.out]; exact h0) = off1 pix[k] dark[k] light[k] := by
            have := offs_get pix dark light k h0 h1 h2
            rw [List.getElem?_eq_getElem (by rw [HLO.out]; exact h0)] at this
            injection this
          rw [hgt] at hsn
          clear hgt
          generalize off1 pix[k] dark[k] light[k] = x at *
          by_cases hx : 2 * m < x
          · rw [show sure1 m x = true by simp [sure1, hx]] at hsn
            have HSN := Lib.hid hsn
            clear hsn
            go_wp2_with fail
            refine (HOFF.out _ hall2.out).mono ?_
            rintro e wz ⟨rfl, hbz⟩
            have HOZ := Lib.hid (own_ext ho.out hbz)
            have hszz := hbz.size
            go_wp2_with (at_builtin; refine wpList_app1 _ rfl (.tmp 27) (.tmp 44) _ (by rfl) w1.heap.size 4 i0 _ 1 Try.underlying32 HI.out HZ0.out HZ1.out HZ2.out rfl _ k (bools ((sures m (offs pix dark light)).take k)) (by rfl) _ (.bool true) (by rfl) ?_ (HOZ.out.alloc _) (by simp [go_sem]) rfl (by unfold maxLen; omega) (by omega) (by first | omega | (simp; omega)); intro A3 c3 wy how hby _)
            have HOW := Lib.hid (own_cast how rfl HSN.out)
            have HBL := Lib.hid (((hb.trans (hbz.mono hsz)).alloc (by omega) (.cells #[.bool true] 4)).trans hby)
            go_roundw
            case rel => exact ⟨k + 1, A3, c3, by omega, by go_num, rfl, HOW, HBL.out⟩
            case measure => simp [intOf]; omega
          · rw [show sure1 m x = (decide (2 * m < x) || decide (x < -2 * m)) by unfold sure1; rw [show -(2 * m) = -2 * m by omega]] at hsn
            have HSN := Lib.hid hsn
            clear hsn
            go_wp2_with fail
            refine (HOFF.out _ hall2.out).mono ?_
            rintro e wz ⟨rfl, hbz⟩
            have HOZ := Lib.hid (own_ext ho.out hbz)
            have hszz := hbz.size
            obtain ⟨p0, p1, p2, _⟩ := (HB1r.out.ext hbz).c3
            obtain ⟨q0, q1, q2, q3, _⟩ := (HB2r.out.ext hbz).c4
            simp only [World.size_alloc] at q0 q1 q2 q3
            go_wp2_with fail
            refine (HOFF.out _ (below_step hall2.out hbz)).mono ?_
            rintro e wz2 ⟨rfl, hbz2⟩
            have HOZ2 := Lib.hid (own_ext HOZ.out hbz2)
            have hszz2 := hbz2.size
            go_wp2_with (at_builtin; refine wpList_app1 _ rfl (.tmp 27) (.tmp 44) _ (by rfl) w1.heap.size 4 i0 _ 1 Try.underlying32 HI.out HZ0.out HZ1.out HZ2.out rfl _ k (bools ((sures m (offs pix dark light)).take k)) (by rfl) _ (.bool (decide (2 * m < x) || decide (x < -2 * m))) (by rfl) ?_ (HOZ2.out.alloc _) (by simp [go_sem]) rfl (by unfold maxLen; omega) (by omega) (by first | omega | (simp; omega)); intro A3 c3 wy how hby _)
            have HOW := Lib.hid (own_cast how rfl HSN.out)
            have HBL := Lib.hid ((((hb.trans (hbz.mono hsz)).trans (hbz2.mono (by omega))).alloc (by omega) (.cells #[.bool (decide (2 * m < x) || decide (x < -2 * m))] 4)).trans hby)
            go_roundw
            case rel => exact ⟨k + 1, A3, c3, by omega, by go_num, rfl, HOW, HBL.out⟩
            case measure => simp [intOf]; omega
        · obtain rfl : k = np := by omega
          have HNL := Lib.hid (show k = (offs pix dark light).length by rw [HLO.out, ← HNP.out])
          have HOW := Lib.hid (own_cast ho.out rfl (show bools ((sures m (offs pix dark light)).take k) = bools (sures m (offs pix dark light)) by rw [List.take_of_length_le (by rw [sures_len, ← HNL.out]; exact Nat.le_refl _)]))
          go_wp2_with fail
          go_ret2
          refine ⟨A2, c2, by rw [HL.out, HSE.out, sures_len, ← HNL.out]; rfl, ?_, below_step hall.out hb⟩
          obtain ⟨A', c', e, h⟩ := rd_of_own HOW.out
          injection e with e1
          subst e1
          rw [HL.out]
          exact h.mono hall.out.size
end Go.Proofs.Ytjelnbfnoliocaa
