/- Ridge: Quality of the program. No condition. -/
import Derived.Test.YtjelnbfnoliocaaBi
namespace Go.Proofs.Ytjelnbfnoliocaa
open Go.RowKit

def cntT (l : List Bool) : Nat := l.countP id
theorem cntT_snoc {l : List Bool} {k : Nat} (h : k < l.length) : cntT (l.take (k + 1)) = cntT (l.take k) + (if l[k] then 1 else 0) := by
  unfold cntT
  rw [List.take_add_one, List.getElem?_eq_getElem h, List.countP_append]
  cases l[k] <;> simp
theorem cntT_le (l : List Bool) (k : Nat) : cntT (l.take k) ≤ k := by
  have := List.countP_le_length (p := id) (l := l.take k)
  have := List.length_take_le k l
  unfold cntT
  omega
def qualF (l : List Bool) : Int := (100 * (cntT l : Int)) / (l.length : Int)
def qualR (e : Int) (l : List Bool) : Int := if e = 0 then qualF l else 0
theorem div_ok (c n : Nat) (hc : c ≤ 400) (hn : 1 ≤ n) : wrap64 ((100 * (c : Int)).tdiv (n : Int)) = (100 * (c : Int)) / (n : Int) := by
  rw [Int.tdiv_eq_ediv_of_nonneg (by omega)]
  refine IntWalk.wrap64_in _ ⟨?_, ?_⟩
  · have : 0 ≤ (100 * (c : Int)) / (n : Int) := Int.ediv_nonneg (by omega) (by omega)
    omega
  · have : (100 * (c : Int)) / (n : Int) ≤ 100 * (c : Int) := Int.ediv_le_self _ (by omega)
    omega
theorem sureL_len {W H W' H' : Int} {np : Nat} {p d l : List Int} {s0 m : Int} (hs : seenF W H np W' H' d l = s0) (hnp : np = p.length) (h0 : sureE s0 m = 0) : 1 ≤ (sureL s0 m p d l).length ∧ (sureL s0 m p d l).length ≤ 400 := by
  have hs0 : s0 = 0 := by
    unfold sureE at h0
    split at h0
    · assumption
    · exact h0
  obtain ⟨l1, l2, l3, l4, _⟩ := seen_len (by rw [hs]; exact hs0)
  rw [sureL, if_pos h0, sures_len, offs_len _ _ _ (by rw [l1, hnp]) (by rw [l2, hnp]), ← hnp]
  exact ⟨l4, l3⟩
theorem sureE_cases (W H : Int) (np : Nat) (W' H' : Int) (d l : List Int) (m s0 : Int) (hs : seenF W H np W' H' d l = s0) : sureE s0 m = 0 ∨ (sureE s0 m = 10 ∨ sureE s0 m = 11 ∨ sureE s0 m = 2) := by
  rcases seenF_cases W H np W' H' d l with h | h | h <;> rw [h] at hs <;> subst hs <;> unfold sureE
  · rw [if_pos rfl]
    split
    · exact .inl rfl
    · exact .inr (.inr (.inr rfl))
  · exact .inr (.inl rfl)
  · exact .inr (.inr (.inl rfl))
set_option maxRecDepth 100000 in
set_option maxHeartbeats 1000000 in
theorem quality_any (W H W' H' m : Int) (P A A' : Option Addr) (pix dark light : List Int) (np cp n c n' c' : Nat) (w : World) (hp : Rd w P (u8s pix)) (hr : Rd w A (u8s dark)) (hr' : Rd w A' (u8s light))
    (hnp : np = pix.length) (hn : n = dark.length) (hn' : n' = light.length) (u0 : U8 pix) (u1 : U8 dark) (u2 : U8 light) (s0 : Int) (hs : seenF W H np W' H' dark light = s0) :
    Calls Try.prog 26 #[.agg #[.int .i64 W, .int .i64 H, .slice P np cp], .agg #[.int .i64 W', .int .i64 H', .slice A n c, .slice A' n' c'], .int .i64 m] w fun e w' => e = .returned (.tuple #[.int .i64 (qualR (sureE s0 m) (sureL s0 m pix dark light)), .int .i64 (sureE s0 m)]) ∧ Below w.heap.size w w' := by
  have HC := fun W1 (hb : Below w.heap.size w W1) => sure_any W H W' H' m P A A' pix dark light np cp n c n' c' W1 (hp.below hb) (hr.below hb) (hr'.below hb) hnp hn hn' u0 u1 u2 s0 hs
  have hsl := sureL_len (m := m) hs hnp
  have hsc := sureE_cases W H np W' H' dark light m s0 hs
  clear hp hr hr' hnp hn hn' u0 u1 u2 hs
  have HB0 := Lib.hid (below_more (below_alloc w (.cells #[.int .i64 W, .int .i64 H, .slice P np cp] 24)) (.cells #[.int .i64 W', .int .i64 H', .slice A n c, .slice A' n' c'] 26))
  generalize sureL s0 m pix dark light = l at *
  generalize sureE s0 m = e0 at *
  have HC := Lib.hid HC
  rcases hsc with h0 | h0
  · subst h0
    obtain ⟨l1, l4⟩ := hsl rfl
    have HQ := Lib.hid (show qualR 0 l = qualF l from if_pos rfl)
    clear hsl
    go_enter Try.func26, Try.ntmps26
    go_wp2_with fail
    refine (HC.out _ HB0.out).mono ?_
    rintro e w1 ⟨A1, c1, rfl, hrd1, hb1⟩
    have HRD := Lib.hid hrd1.rd
    have hall := Lib.hid (below_step HB0.out hb1)
    clear hrd1 hb1
    go_wp2_with fail
    go_loop [10, 12, 25] (fun u10 _ u25 => ∃ k : Nat, k ≤ l.length ∧ u25 = .int .i64 k ∧ u10 = .int .i64 (100 * (cntT (l.take k) : Int))) (fun _ _ u25 => l.length - (intOf u25).toNat)
    case atStart => exact ⟨0, Nat.zero_le _, rfl, rfl⟩
    case round =>
      obtain ⟨k, hk, rfl, rfl⟩ := hrel
      have hck := cntT_le l k
      by_cases hlt : k < l.length
      · obtain ⟨b, off, rfl, hbs, hc⟩ := HRD.out.at_ (bools_get hlt)
        have k0 := hc k _ (bools_get hlt)
        have HSN := Lib.hid (cntT_snoc hlt)
        clear hc
        generalize l[k] = x at *
        cases x
        all_goals
          go_wp2_with fail
          go_round
          case rel => exact ⟨k + 1, by omega, by go_num, by rw [HSN.out]; first | rfl | (simp; omega)⟩
          case measure => simp [intOf]; omega
      · obtain rfl : k = l.length := by omega
        have HT := Lib.hid (show l.take l.length = l from List.take_of_length_le (Nat.le_refl _))
        go_wp2_with fail
        go_ret2
        refine ⟨?_, hall.out⟩
        rw [HQ.out, qualF, ← div_ok _ l.length (by have := cntT_le l l.length; rw [HT.out] at this; omega) l1]
        rfl
  · have hne : e0 ≠ 0 := by omega
    have HQ := Lib.hid (show qualR e0 l = 0 from if_neg hne)
    clear hsl hne
    rcases h0 with rfl | rfl | rfl
    all_goals
      go_enter Try.func26, Try.ntmps26
      go_wp2_with fail
      refine (HC.out _ HB0.out).mono ?_
      rintro e w1 ⟨A1, c1, rfl, hrd1, hb1⟩
      go_wp2_with fail
      go_ret2
      exact ⟨by rw [HQ.out]; rfl, below_step HB0.out hb1⟩
end Go.Proofs.Ytjelnbfnoliocaa
