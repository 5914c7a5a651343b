/- Ridge: the reference's devices; the error of a sample and a device. No condition. -/
import Derived.Test.YtjelnbfnoliocaaBc
namespace Go.Proofs.Ytjelnbfnoliocaa
open Go.RowKit

theorem sized12 (W H : Int) (n m : Nat) : sized2B W H n m = (sized1B W H n && decide (m = n)) := by
  simp only [sized2B, sized1B, Bool.and_assoc]
  congr 1
  rw [Bool.eq_iff_iff]
  simp
  omega
set_option maxRecDepth 100000 in
set_option maxHeartbeats 1000000 in
theorem validDevice_any (W H : Int) (A A' : Option Addr) (dark light : List Int) (n c n' c' : Nat) (w : World) (hr : Rd w A (u8s dark)) (hn : n = dark.length) (hr' : Rd w A' (u8s light)) (hn' : n' = light.length) :
    Calls Try.prog 55 #[.agg #[.int .i64 W, .int .i64 H, .slice A n c, .slice A' n' c']] w fun e w' => e = .returned (.bool (deviceB W H dark light)) ∧ Below w.heap.size w w' := by
  have HR := Lib.hid hr
  have HN := Lib.hid hn
  have HR' := Lib.hid hr'
  have HN' := Lib.hid hn'
  cases hb : sized1B W H n
  · have HP := Lib.hid (show deviceB W H dark light = false by rw [deviceB, ← hn, ← hn', sized12, hb]; rfl)
    have HB := Lib.hid hb
    clear hb hr hn hr' hn'
    go_enter Try.func55, Try.ntmps55
    go_wp2_with fail
    refine (refSized_any W H n _).mono ?_
    rintro e w1 ⟨rfl, rfl⟩
    rw [HB.out]
    go_wp2_with fail
    go_ret
    exact ⟨by rw [HP.out]; rfl, below_alloc _ _⟩
  by_cases hm : n' = n
  case neg =>
    have HP := Lib.hid (show deviceB W H dark light = false by rw [deviceB, ← hn, ← hn', sized12, hb]; simp [hm])
    have HB := Lib.hid hb
    have hm1 : ((n' : Int) != (n : Int)) = true := by simp; omega
    clear hb hr hn hr' hn' hm
    go_enter Try.func55, Try.ntmps55
    go_wp2_with fail
    refine (refSized_any W H n _).mono ?_
    rintro e w1 ⟨rfl, rfl⟩
    rw [HB.out]
    go_wp2_with fail
    go_ret
    exact ⟨by rw [HP.out]; rfl, below_alloc _ _⟩
  · have hle : n ≤ 400 := (sized2_eq (W := W) (H := H) (n := n) (m := n) (by rw [sized12, hb]; simp)).2
    have HP := Lib.hid (show deviceB W H dark light = lessB dark light by rw [deviceB, ← hn, ← hn', sized12, hb, hm]; simp)
    have HB := Lib.hid hb
    have HNN := Lib.hid hm
    have hm1 : ((n' : Int) != (n : Int)) = false := by simp; omega
    clear hb hr hn hr' hn' hm
    obtain ⟨d0, d1, d2, d3, _⟩ := (Box.new w 26 #[.int .i64 W, .int .i64 H, .slice A n c, .slice A' n' c']).c4
    go_enter Try.func55, Try.ntmps55
    go_wp2_with fail
    refine (refSized_any W H n _).mono ?_
    rintro e w1 ⟨rfl, rfl⟩
    rw [HB.out]
    go_wp2_with fail
    have HR1 := Lib.hid (HR.out.below (below_alloc w (.cells #[.int .i64 W, .int .i64 H, .slice A n c, .slice A' n' c'] 26)))
    have HR1' := Lib.hid (HR'.out.below (below_alloc w (.cells #[.int .i64 W, .int .i64 H, .slice A n c, .slice A' n' c'] 26)))
    have hfin := Lib.hid (below_alloc w (.cells #[.int .i64 W, .int .i64 H, .slice A n c, .slice A' n' c'] 26))
    generalize w.alloc (.cells #[.int .i64 W, .int .i64 H, .slice A n c, .slice A' n' c'] 26) = W0 at *
    go_loopw [3] (fun u3 wr => ∃ k d : Nat, k ≤ n ∧ u3 = .int .i64 k ∧ Hid (lessB dark light = lessB (dark.drop k) (light.drop k)) ∧ wr = W0.drewN d) (fun u3 _ => n - (intOf u3).toNat)
    case atStart => exact ⟨0, 0, Nat.zero_le _, rfl, rfl, rfl⟩
    case round =>
      obtain ⟨k, d, hk, rfl, hq, rfl⟩ := hrel
      by_cases hlt : k < n
      · have h1 : k < dark.length := by rw [← HN.out]; exact hlt
        have h2 : k < light.length := by rw [← HN'.out, HNN.out]; exact hlt
        have h3 : k < n' := by rw [HNN.out]; exact hlt
        obtain ⟨b, off, rfl, hbs, hc⟩ := HR1.out.at_ (u8s_get h1)
        obtain ⟨b', off', rfl, hbs', hc'⟩ := HR1'.out.at_ (u8s_get h2)
        have hc0 := hc k _ (u8s_get h1)
        have hc1 := hc' k _ (u8s_get h2)
        have i1 : (k : Int) < (n : Int) := by omega
        have i2 : (k : Int) < (n' : Int) := by omega
        clear hc hc'
        by_cases hx : dark[k] < light[k]
        · have he := Lib.hid (lessB_go h1 h2 hq.out hx)
          generalize dark[k] = x at *
          generalize light[k] = y at *
          go_wp2_with fail
          go_quiet (fail)
          go_wp2_with fail
          go_roundw
          case rel => exact ⟨k + 1, _, by omega, by go_num, he, rfl⟩
          case measure => simp [intOf]; omega
        · have he := Lib.hid (lessB_no h1 h2 hq.out hx)
          generalize dark[k] = x at *
          generalize light[k] = y at *
          go_wp2_with fail
          go_quiet (fail)
          go_wp2_with fail
          go_ret
          exact ⟨by rw [HP.out, he.out]; rfl, below_drewN (below_drewN hfin.out _) _⟩
      · go_wp2_with fail
        go_ret
        exact ⟨by rw [HP.out, lessB_end (by rw [← HN.out]; omega) hq.out]; rfl, below_drewN hfin.out _⟩
theorem refCheckDevice_any (W H : Int) (A A' : Option Addr) (dark light : List Int) (n c n' c' : Nat) (w : World) (hr : Rd w A (u8s dark)) (hn : n = dark.length) (hr' : Rd w A' (u8s light)) (hn' : n' = light.length) :
    Calls Try.prog 19 #[.agg #[.int .i64 W, .int .i64 H, .slice A n c, .slice A' n' c']] w fun e w' => e = .returned (.int .i64 (errS (deviceB W H dark light) 11)) ∧ Below w.heap.size w w' := by
  have HC := fun W1 (hb : Below w.heap.size w W1) => validDevice_any W H A A' dark light n c n' c' W1 (hr.below hb) hn (hr'.below hb) hn'
  clear hr hn hr' hn'
  cases hb : deviceB W H dark light
  all_goals
    rw [hb] at HC
    have H1 := Lib.hid HC
    clear hb HC
    go_enter Try.func19, Try.ntmps19
    go_wp2_with fail
    refine (H1.out _ (below_alloc _ _)).mono ?_
    rintro e w1 ⟨rfl, hb1⟩
    go_wp2_with fail
    go_ret
    exact ⟨rfl, below1 hb1⟩
/-- The error of a sample and a device. -/
def seenF (W H : Int) (np : Nat) (W' H' : Int) (dark light : List Int) : Int :=
  if sized1B W H np then (if deviceB W' H' dark light && (decide (W' = W) && decide (H' = H)) then 0 else 11) else 10
set_option maxRecDepth 100000 in
set_option maxHeartbeats 1000000 in
theorem seen_any (W H W' H' : Int) (P A A' : Option Addr) (dark light : List Int) (np cp n c n' c' : Nat) (w : World) (hr : Rd w A (u8s dark)) (hn : n = dark.length) (hr' : Rd w A' (u8s light)) (hn' : n' = light.length) :
    Calls Try.prog 43 #[.agg #[.int .i64 W, .int .i64 H, .slice P np cp], .agg #[.int .i64 W', .int .i64 H', .slice A n c, .slice A' n' c']] w fun e w' => e = .returned (.int .i64 (seenF W H np W' H' dark light)) ∧ Below w.heap.size w w' := by
  have HC := fun W1 (hb : Below w.heap.size w W1) => validDevice_any W' H' A A' dark light n c n' c' W1 (hr.below hb) hn (hr'.below hb) hn'
  clear hr hn hr' hn'
  have hb0 : Below w.heap.size w ((w.alloc (.cells #[.int .i64 W, .int .i64 H, .slice P np cp] 24)).alloc (.cells #[.int .i64 W', .int .i64 H', .slice A n c, .slice A' n' c'] 26)) := below_more (below_alloc _ _) _
  have B1 := Lib.hid ((Box.new w 24 #[.int .i64 W, .int .i64 H, .slice P np cp]).alloc (.cells #[.int .i64 W', .int .i64 H', .slice A n c, .slice A' n' c'] 26))
  have B2 := Lib.hid (Box.new (w.alloc (.cells #[.int .i64 W, .int .i64 H, .slice P np cp] 24)) 26 #[.int .i64 W', .int .i64 H', .slice A n c, .slice A' n' c'])
  have HB0 := Lib.hid hb0
  clear hb0
  cases h1 : sized1B W H np
  · have HP := Lib.hid (show seenF W H np W' H' dark light = 10 by simp [seenF, h1])
    have H1 := Lib.hid h1
    clear h1 HC
    go_enter Try.func43, Try.ntmps43
    go_wp2_with fail
    refine (validSample_any W H P np cp _).mono ?_
    rintro e w1 ⟨rfl, hb1⟩
    rw [H1.out]
    go_wp2_with fail
    go_ret
    exact ⟨by rw [HP.out]; rfl, below_step HB0.out hb1⟩
  cases h2 : deviceB W' H' dark light
  · have HP := Lib.hid (show seenF W H np W' H' dark light = 11 by simp [seenF, h1, h2])
    rw [h2] at HC
    have H1 := Lib.hid h1
    have H2 := Lib.hid HC
    clear h1 h2 HC
    go_enter Try.func43, Try.ntmps43
    go_wp2_with fail
    refine (validSample_any W H P np cp _).mono ?_
    rintro e w1 ⟨rfl, hb1⟩
    rw [H1.out]
    obtain ⟨c0, c1, c2, c3, _⟩ := (B2.out.ext hb1).c4
    simp only [World.size_alloc] at c0 c1 c2 c3
    go_wp2_with fail
    refine (H2.out _ (below_step HB0.out hb1)).mono ?_
    rintro e w2 ⟨rfl, hb2⟩
    go_wp2_with fail
    go_ret
    exact ⟨by rw [HP.out]; rfl, below_step (below_step HB0.out hb1) hb2⟩
  rw [h2] at HC
  by_cases hw : W' = W
  case neg =>
    have HP := Lib.hid (show seenF W H np W' H' dark light = 11 by simp [seenF, h1, h2, hw])
    have g1 : (W' != W) = true := by simpa using hw
    have H1 := Lib.hid h1
    have H2 := Lib.hid HC
    clear h1 h2 HC hw
    go_enter Try.func43, Try.ntmps43
    go_wp2_with fail
    refine (validSample_any W H P np cp _).mono ?_
    rintro e w1 ⟨rfl, hb1⟩
    rw [H1.out]
    obtain ⟨c0, c1, c2, c3, _⟩ := (B2.out.ext hb1).c4
    simp only [World.size_alloc] at c0 c1 c2 c3
    go_wp2_with fail
    refine (H2.out _ (below_step HB0.out hb1)).mono ?_
    rintro e w2 ⟨rfl, hb2⟩
    clear c0 c1 c2 c3
    obtain ⟨c0, c1, c2, c3, _⟩ := ((B2.out.ext hb1).ext hb2).c4
    obtain ⟨a0, a1, a2, _⟩ := ((B1.out.ext hb1).ext hb2).c3
    simp only [World.size_alloc] at c0 c1 c2 c3
    go_wp2_with fail
    go_ret
    exact ⟨by rw [HP.out]; rfl, below_step (below_step HB0.out hb1) hb2⟩
  by_cases hh : H' = H
  case neg =>
    have HP := Lib.hid (show seenF W H np W' H' dark light = 11 by simp [seenF, h1, h2, hh])
    have g1 : (W' != W) = false := by simpa using hw
    have g2 : (H' != H) = true := by simpa using hh
    have H1 := Lib.hid h1
    have H2 := Lib.hid HC
    clear h1 h2 HC hw hh
    go_enter Try.func43, Try.ntmps43
    go_wp2_with fail
    refine (validSample_any W H P np cp _).mono ?_
    rintro e w1 ⟨rfl, hb1⟩
    rw [H1.out]
    obtain ⟨c0, c1, c2, c3, _⟩ := (B2.out.ext hb1).c4
    simp only [World.size_alloc] at c0 c1 c2 c3
    go_wp2_with fail
    refine (H2.out _ (below_step HB0.out hb1)).mono ?_
    rintro e w2 ⟨rfl, hb2⟩
    clear c0 c1 c2 c3
    obtain ⟨c0, c1, c2, c3, _⟩ := ((B2.out.ext hb1).ext hb2).c4
    obtain ⟨a0, a1, a2, _⟩ := ((B1.out.ext hb1).ext hb2).c3
    simp only [World.size_alloc] at c0 c1 c2 c3
    go_wp2_with fail
    go_ret
    exact ⟨by rw [HP.out]; rfl, below_step (below_step HB0.out hb1) hb2⟩
  · have HP := Lib.hid (show seenF W H np W' H' dark light = 0 by rw [seenF, h1, h2, if_pos rfl]; simp [hw, hh])
    have g1 : (W' != W) = false := by simpa using hw
    have g2 : (H' != H) = false := by simpa using hh
    have H1 := Lib.hid h1
    have H2 := Lib.hid HC
    clear h1 h2 HC hw hh
    go_enter Try.func43, Try.ntmps43
    go_wp2_with fail
    refine (validSample_any W H P np cp _).mono ?_
    rintro e w1 ⟨rfl, hb1⟩
    rw [H1.out]
    obtain ⟨c0, c1, c2, c3, _⟩ := (B2.out.ext hb1).c4
    simp only [World.size_alloc] at c0 c1 c2 c3
    go_wp2_with fail
    refine (H2.out _ (below_step HB0.out hb1)).mono ?_
    rintro e w2 ⟨rfl, hb2⟩
    clear c0 c1 c2 c3
    obtain ⟨c0, c1, c2, c3, _⟩ := ((B2.out.ext hb1).ext hb2).c4
    obtain ⟨a0, a1, a2, _⟩ := ((B1.out.ext hb1).ext hb2).c3
    simp only [World.size_alloc] at c0 c1 c2 c3
    go_wp2_with fail
    go_ret
    exact ⟨by rw [HP.out]; rfl, below_step (below_step HB0.out hb1) hb2⟩
end Go.Proofs.Ytjelnbfnoliocaa
