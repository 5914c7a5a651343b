/- Ridge: Binary of the reference. No condition. -/
import Derived.Test.YtjelnbfnoliocaaBf
import Derived.Deep.RegionLaw
namespace Go.Proofs.Ytjelnbfnoliocaa
open Go.RowKit

set_option maxRecDepth 100000 in
set_option maxHeartbeats 1000000 in
theorem refBinary_any (W H W' H' : Int) (P A A' : Option Addr) (pix dark light : List Int) (np cp n c n' c' : Nat) (w : World) (hp : Rd w P (u8s pix)) (hr : Rd w A (u8s dark)) (hr' : Rd w A' (u8s light))
    (hnp : np = pix.length) (hn : n = dark.length) (hn' : n' = light.length) (u0 : U8 pix) (u1 : U8 dark) (u2 : U8 light) (s0 : Int) (hs : seenF W H np W' H' dark light = s0) :
    Calls Try.prog 21 #[.agg #[.int .i64 W, .int .i64 H, .slice P np cp], .agg #[.int .i64 W', .int .i64 H', .slice A n c, .slice A' n' c']] w (BinPost (binW s0 W) (binW s0 H) (binL s0 pix dark light) s0 w) := by
  have HC := Lib.hid (fun W1 (hb : Below w.heap.size w W1) => (seen_any W H W' H' P A A' dark light np cp n c n' c' W1 (hr.below hb) hn (hr'.below hb) hn').mono fun e w' h => by rwa [hs] at h)
  have hle : s0 = 0 → dark.length = pix.length ∧ light.length = pix.length ∧ np = pix.length ∧ n = np ∧ n' = np ∧ np ≤ 400 := fun h0 => by
    obtain ⟨l1, l2, l3, _⟩ := seen_len (by rw [hs]; exact h0)
    exact ⟨by rw [l1, hnp], by rw [l2, hnp], hnp, by rw [hn, l1], by rw [hn', l2], l3⟩
  have hs0 : s0 ≠ 0 → s0 = 10 ∨ s0 = 11 := fun h0 => (hs ▸ seenF_cases W H np W' H' dark light).resolve_left h0
  have HP := Lib.hid hp
  have HR := Lib.hid hr
  have HR' := Lib.hid hr'
  clear hp hr hr' hnp hn hn' hs
  have hb0 : Below w.heap.size w (((w.alloc (.cells #[.int .i64 W, .int .i64 H, .slice P np cp] 24)).alloc (.cells #[.int .i64 W', .int .i64 H', .slice A n c, .slice A' n' c'] 26)).alloc (.cells #[.int .i64 0, .int .i64 0, .slice none 0 0] 34)) := below_more (below_more (below_alloc _ _) _) _
  have HB0 := Lib.hid hb0
  clear hb0
  by_cases h0 : s0 = 0
  case neg =>
    have HW := Lib.hid (show binW s0 W = 0 from if_neg h0)
    have HH := Lib.hid (show binW s0 H = 0 from if_neg h0)
    have HL := Lib.hid (show binL s0 pix dark light = [] from if_neg h0)
    have hs0 := hs0 h0
    clear h0 hle
    have B3 := Lib.hid (Box.new ((w.alloc (.cells #[.int .i64 W, .int .i64 H, .slice P np cp] 24)).alloc (.cells #[.int .i64 W', .int .i64 H', .slice A n c, .slice A' n' c'] 26)) 34 #[.int .i64 0, .int .i64 0, .slice none 0 0])
    rcases hs0 with rfl | rfl
    all_goals
      go_enter Try.func21, Try.ntmps21
      go_wp2_with fail
      refine (HC.out _ HB0.out).mono ?_
      rintro e w1 ⟨rfl, hb1⟩
      obtain ⟨c0, c1, c2, cf⟩ := (B3.out.ext hb1).c3
      simp only [World.size_alloc] at c0 c1 c2 cf
      go_wp2_with fail
      refine bodyPost_ret (v := .tuple #[.agg #[.int .i64 0, .int .i64 0, .slice none 0 0], .int .i64 _]) (by simp [results, Try.results21, go_sem, *]; rfl) rfl ⟨none, 0, by rw [HW.out, HH.out, HL.out]; rfl, .inl (by rw [HL.out]; rfl), ?_⟩
      exact (((below_step HB0.out hb1).setCell (by simp only; omega) _).setCell (by simp only; omega) _).setCell (by simp only; omega) _
  · obtain ⟨h01, h02, h03, h04, h05, h400⟩ := hle h0
    have HW := Lib.hid (show binW s0 W = W from if_pos h0)
    have HH := Lib.hid (show binW s0 H = H from if_pos h0)
    have HL := Lib.hid (show binL s0 pix dark light = neg (offs pix dark light) from if_pos h0)
    subst h0
    have HLN := Lib.hid h01
    have HLN' := Lib.hid h02
    have HNP := Lib.hid h03
    have HNN := Lib.hid h04
    have HNN' := Lib.hid h05
    have HLO := Lib.hid (offs_len pix dark light h01 h02)
    clear hle h01 h02 h03 h04 h05 hs0
    have B1 := Lib.hid (((Box.new w 24 #[.int .i64 W, .int .i64 H, .slice P np cp]).alloc (.cells #[.int .i64 W', .int .i64 H', .slice A n c, .slice A' n' c'] 26)).alloc (.cells #[.int .i64 0, .int .i64 0, .slice none 0 0] 34))
    have B2 := Lib.hid ((Box.new (w.alloc (.cells #[.int .i64 W, .int .i64 H, .slice P np cp] 24)) 26 #[.int .i64 W', .int .i64 H', .slice A n c, .slice A' n' c']).alloc (.cells #[.int .i64 0, .int .i64 0, .slice none 0 0] 34))
    have B3 := Lib.hid (Box.new ((w.alloc (.cells #[.int .i64 W, .int .i64 H, .slice P np cp] 24)).alloc (.cells #[.int .i64 W', .int .i64 H', .slice A n c, .slice A' n' c'] 26)) 34 #[.int .i64 0, .int .i64 0, .slice none 0 0])
    obtain ⟨i0, hi0, hz0, hz1, hz2⟩ := info_parts info4
    have HI := Lib.hid hi0
    have HZ0 := Lib.hid hz0
    have HZ1 := Lib.hid hz1
    have HZ2 := Lib.hid hz2
    clear hi0 hz0 hz1 hz2
    go_enter Try.func21, Try.ntmps21
    go_wp2_with fail
    refine (HC.out _ HB0.out).mono ?_
    rintro e w1 ⟨rfl, hb1⟩
    obtain ⟨a0, a1, a2, _⟩ := (B1.out.ext hb1).c3
    have hs1 : w.heap.size + 2 < w1.heap.size := by have := hb1.size; simp at this; omega
    have hs2 : w.heap.size < w1.heap.size := by omega
    have hs3 : w.heap.size + 1 + 1 < w1.heap.size := by omega
    have hs4 : w.heap.size + 1 < w1.heap.size := by omega
    go_wp2_with fail
    have q0 := Lib.hid (Box.new w1 34 #[.int .i64 W, .int .i64 H, .slice none 0 0])
    have hall := Lib.hid (below_step HB0.out hb1)
    have hbw := Lib.hid (below_alloc w1 (.cells #[.int .i64 W, .int .i64 H, .slice none 0 0] 34))
    have HB1 := Lib.hid (B1.out.ext hb1)
    have HB2 := Lib.hid (B2.out.ext hb1)
    have HB3 := Lib.hid (B3.out.ext hb1)
    clear a0 a1 a2 hb1
    generalize w1.alloc (.cells #[.int .i64 W, .int .i64 H, .slice none 0 0] 34) = W1 at *
    go_loopw [8] (fun u8 wr => ∃ (k : Nat) (A2 : Option Addr) (c2 : Nat), k ≤ np ∧ u8 = .int .i64 k ∧ Hid (Box wr w1.heap.size [.int .i64 W, .int .i64 H, .slice A2 k c2]) ∧ Hid (wr.ownsRow (w1.heap.size + 1) 4 1 (.slice A2 k c2) k (bools ((neg (offs pix dark light)).take k))) ∧ Below w1.heap.size W1 wr) (fun u8 _ => np - (intOf u8).toNat)
    case atStart => exact ⟨0, none, 0, Nat.zero_le _, rfl, q0.out, World.ownsRow_nil _ _ _ _, Below.refl _ _⟩
    case round =>
      obtain ⟨k, A2, c2, hk, rfl, hq, ho, hb⟩ := hrel
      obtain ⟨g0, g1, g2, gf⟩ := hq.out.c3
      have hsz : w1.heap.size < wr.heap.size := hq.out.2.2
      have hall2 := Lib.hid (below_step hall.out (hbw.out.trans hb))
      obtain ⟨a0, a1, a2, _⟩ := (HB1.out.below (hbw.out.trans hb) hs2).c3
      obtain ⟨d0, d1, d2, d3, _⟩ := (HB2.out.below (hbw.out.trans hb) (by simpa using hs4)).c4
      simp only [World.size_alloc] at d0 d1 d2 d3
      by_cases hlt : k < np
      · have h0 : k < pix.length := by rw [← HNP.out]; exact hlt
        have h1 : k < dark.length := by rw [HLN.out]; exact h0
        have h2 : k < light.length := by rw [HLN'.out]; exact h0
        have j1 : k < n := by rw [HNN.out]; exact hlt
        have j2 : k < n' := by rw [HNN'.out]; exact hlt
        have HOFF := Lib.hid (fun W3 (hb3 : Below w.heap.size w W3) => off_any W H W' H' k P A A' pix dark light np cp n c n' c' k W3 rfl (HP.out.below hb3) (HR.out.below hb3) (HR'.out.below hb3) h0 h1 h2 hlt j1 j2 u0 u1 u2)
        have HSN := Lib.hid (bools_snoc (neg_get (show k < (offs pix dark light).length by rw [HLO.out]; exact h0)))
        have hgt : (offs pix dark light)[k]'(by rw [HLO.out]; exact h0) = off1 pix[k] dark[k] light[k] := by
          have := offs_get pix dark light k h0 h1 h2
          rw [List.getElem?_eq_getElem (by rw [HLO.out]; exact h0)] at this
          injection this
        have hsn' := HSN.out
        rw [hgt] at hsn'
        have HSN' := Lib.hid hsn'
        clear HSN hsn' hgt
        generalize off1 pix[k] dark[k] light[k] = x at *
        go_wp2_with fail
        go_region_law (first | (refine step_app1 _ rfl (.tmp 29) (.tmp 35) _ (by rfl) (w1.heap.size + 1) 4 i0 _ 1 Try.underlying32 HI.out HZ0.out HZ1.out HZ2.out rfl _ k (bools ((neg (offs pix dark light)).take k)) (by rfl) _ (.bool (decide (x < 0))) (by rfl) ?_ (HOZ.out.alloc _) (by simp [go_sem]) rfl (by unfold maxLen; omega) (by omega) (by first | omega | (simp; omega)); intro A3 c3 wy how hby _; have HBX := Lib.hid ((HQZ.out.alloc _).below hby (by omega)); obtain ⟨y0, y1, y2, yf⟩ := HBX.out.c3; have hsy : w1.heap.size < wy.heap.size := HBX.out.2.2) | (go_simp; go_at_call 57; refine (HOFF.out _ (by exact hall2.out.drew)).mono ?_; rintro e wz ⟨rfl, hbz⟩; have HOZ := Lib.hid (own_ext (w := wr.drew) ho.out hbz); have HQZ := Lib.hid (Box.ext (w := wr.drew) hq.out hbz); obtain ⟨z0, z1, z2, zf⟩ := HQZ.out.c3; have hsz2 : w1.heap.size < wz.heap.size := HQZ.out.2.2))
        all_goals
          have HOW := Lib.hid (own_cast (own_set how (show w1.heap.size < w1.heap.size + 1 by omega) (o := 2) (.slice A3 (k + 1) c3)) rfl HSN'.out)
          have HBL := Lib.hid (((((hb.drew).trans (hbz.mono (by have := hb.size; simp; omega))).alloc (by omega) (.cells #[.bool (decide (x < 0))] 4)).trans (hby.mono (by omega))).setCell (p := ⟨w1.heap.size, 2, none⟩) (Nat.le_refl _) (.slice A3 (k + 1) c3))
          go_wp2_with fail
          go_roundw
          case rel => exact ⟨k + 1, A3, c3, by omega, by go_num, HBX.out.set (.slice A3 (k + 1) c3) (i := 2) (by simp), HOW, HBL.out⟩
          case measure => simp [intOf]; omega
      · obtain rfl : k = np := by omega
        have HNL : k = (offs pix dark light).length := by rw [HLO.out, ← HNP.out]
        have HOW := Lib.hid (own_cast ho.out rfl (show bools ((neg (offs pix dark light)).take k) = bools (neg (offs pix dark light)) by rw [List.take_of_length_le (by rw [neg_len, HNL]; exact Nat.le_refl _)]))
        have HKL := Lib.hid HNL
        clear HNL
        have HBL := hall2
        obtain ⟨r0, r1, r2, rf⟩ := (HB3.out.below (hbw.out.trans hb) (by simp; omega)).c3
        simp only [World.size_alloc] at r0 r1 r2 rf
        have hs5 : w.heap.size + 1 + 1 < wr.heap.size := by omega
        go_wp2_with fail
        refine bodyPost_ret (v := .tuple #[.agg #[.int .i64 W, .int .i64 H, .slice A2 k c2], .int .i64 0]) (by simp [results, Try.results21, go_sem, *]) rfl ⟨A2, c2, by rw [HW.out, HH.out, HL.out, neg_len, ← HKL.out], ?_, ?_⟩
        · obtain ⟨A', c', e, h⟩ := rd_of_own (own_set (own_set (own_set HOW.out (show w.heap.size + 1 + 1 < w1.heap.size + 1 by omega) (o := 0) (.int .i64 W)) (show w.heap.size + 1 + 1 < w1.heap.size + 1 by omega) (o := 1) (.int .i64 H)) (show w.heap.size + 1 + 1 < w1.heap.size + 1 by omega) (o := 2) (.slice A2 k c2))
          injection e with e1
          subst e1
          rw [HL.out]
          exact h.mono (by omega)
        · exact ((HBL.out.setCell (by simp only; omega) _).setCell (by simp only; omega) _).setCell (by simp only; omega) _
end Go.Proofs.Ytjelnbfnoliocaa
