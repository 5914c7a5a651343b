/- Ridge: Quality of the reference. No condition. -/
import Derived.Test.YtjelnbfnoliocaaBj
import Derived.Test.YtjelnbfnoliocaaBk
namespace Go.Proofs.Ytjelnbfnoliocaa
open Go.RowKit

set_option maxRecDepth 100000 in
set_option maxHeartbeats 1000000 in
theorem refQuality_any (W H W' H' m : Int) (P A A' : Option Addr) (pix dark light : List Int) (np cp n c n' c' : Nat) (w : World) (hp : Rd w P (u8s pix)) (hr : Rd w A (u8s dark)) (hr' : Rd w A' (u8s light))
    (hnp : np = pix.length) (hn : n = dark.length) (hn' : n' = light.length) (u0 : U8 pix) (u1 : U8 dark) (u2 : U8 light) (s0 : Int) (hs : seenF W H np W' H' dark light = s0) :
    Calls Try.prog 27 #[.agg #[.int .i64 W, .int .i64 H, .slice P np cp], .agg #[.int .i64 W', .int .i64 H', .slice A n c, .slice A' n' c'], .int .i64 m] w fun e w' => e = .returned (.tuple #[.int .i64 (qualR (sureE s0 m) (sureL s0 m pix dark light)), .int .i64 (sureE s0 m)]) ∧ Below w.heap.size w w' := by
  have HC := fun W1 (hb : Below w.heap.size w W1) => refSure_any W H W' H' m P A A' pix dark light np cp n c n' c' W1 (hp.below hb) (hr.below hb) (hr'.below hb) hnp hn hn' u0 u1 u2 s0 hs
  have hsl := sureL_len (m := m) hs hnp
  have hsc := sureE_cases W H np W' H' dark light m s0 hs
  clear hp hr hr' hnp hn hn' u0 u1 u2 hs
  have HB0 := Lib.hid (below_more (below_alloc w (.cells #[.int .i64 W, .int .i64 H, .slice P np cp] 24)) (.cells #[.int .i64 W', .int .i64 H', .slice A n c, .slice A' n' c'] 26))
  generalize sureL s0 m pix dark light = l at *
  generalize sureE s0 m = e0 at *
  have HC := Lib.hid HC
  rcases hsc with h0 | h0
  · subst h0
    obtain ⟨l1, l4⟩ := hsl rfl
    have HQ := Lib.hid (show qualR 0 l = qualF l from if_pos rfl)
    clear hsl
    go_enter Try.func27, Try.ntmps27
    go_wp2_with fail
    refine (HC.out _ HB0.out).mono ?_
    rintro e w1 ⟨A1, c1, rfl, hrd1, hb1⟩
    have HRD := Lib.hid hrd1.rd
    have hall := Lib.hid (below_step HB0.out hb1)
    clear hrd1 hb1
    go_wp2_with fail
    go_loop [10, 11] (fun u10 u25 => ∃ k : Nat, k ≤ l.length ∧ u25 = .int .i64 k ∧ u10 = .int .i64 (cntT (l.take k) : Int)) (fun _ u25 => l.length - (intOf u25).toNat)
    case atStart => exact ⟨0, Nat.zero_le _, rfl, rfl⟩
    case round =>
      obtain ⟨k, hk, rfl, rfl⟩ := hrel
      have hck := cntT_le l k
      by_cases hlt : k < l.length
      · obtain ⟨b, off, rfl, hbs, hc⟩ := HRD.out.at_ (bools_get hlt)
        have k0 := hc k _ (bools_get hlt)
        have HSN := Lib.hid (cntT_snoc hlt)
        clear hc
        generalize l[k] = x at *
        cases x
        all_goals
          go_wp2_with fail
          go_round
          case rel => exact ⟨k + 1, by omega, by go_num, by rw [HSN.out]; first | rfl | (simp; omega)⟩
          case measure => simp [intOf]; omega
      · obtain rfl : k = l.length := by omega
        have HT := Lib.hid (show l.take l.length = l from List.take_of_length_le (Nat.le_refl _))
        have hcb : cntT l ≤ 400 := by have := cntT_le l l.length; rw [HT.out] at this; omega
        go_wp2_with fail
        go_ret2
        refine ⟨?_, hall.out⟩
        rw [HQ.out, qualF, ← div_ok _ l.length (by have := cntT_le l l.length; rw [HT.out] at this; omega) l1]
        rfl
  · have hne : e0 ≠ 0 := by omega
    have HQ := Lib.hid (show qualR e0 l = 0 from if_neg hne)
    clear hsl hne
    rcases h0 with rfl | rfl | rfl
    all_goals
      go_enter Try.func27, Try.ntmps27
      go_wp2_with fail
      refine (HC.out _ HB0.out).mono ?_
      rintro e w1 ⟨A1, c1, rfl, hrd1, hb1⟩
      go_wp2_with fail
      go_ret2
      exact ⟨by rw [HQ.out]; rfl, below_step HB0.out hb1⟩
end Go.Proofs.Ytjelnbfnoliocaa
