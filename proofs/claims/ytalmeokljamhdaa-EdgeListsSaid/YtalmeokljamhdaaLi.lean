/- EdgeLists: mixing, lists, decisions online and changes are as the document says; the changes stay. For every input. -/
import Derived.Test.YtalmeokljamhdaaLh
import Derived.Test.YtalmeokljamhdaaQg
namespace Go.Proofs.Ytalmeokljamhdaa
open Go.RowKit

set_option maxRecDepth 100000 in
set_option maxHeartbeats 8000000 in
theorem edgeLists_walk (x y p t tz : Int) (A : Option Addr) (l : List Chg) (n c : Nat) (w : World) (hr : Rd w A (flat cenc l)) (hn : n = l.length) :
    Calls Try.prog 4 #[.int .u64 x, .int .u64 y, .slice A n c, .int .i64 p, .int .i64 t, .int .i64 tz] w fun e w' => e = .returned (.bool true) ∧ Below w.heap.size w w' := by
  have HR := Lib.hid hr
  have HN := Lib.hid hn
  clear hr hn
  by_cases h100 : 100 < n
  · go_enter Try.func4, Try.ntmps4
    go_wp2
    go_ret
    exact ⟨rfl, Below.refl _ _⟩
  have hl : n ≤ 1000 := by omega
  have hd100 : decide (100 < (n : Int)) = false := by simp; omega
  obtain ⟨i0, hi0, hz0, hz1, hz2⟩ := info_parts info62
  have HI := Lib.hid hi0
  have HZ0 := Lib.hid hz0
  have HZ1 := Lib.hid hz1
  have HZ2 := Lib.hid hz2
  clear hi0 hz0 hz1 hz2
  obtain ⟨rd, hrd⟩ : ∃ r, r = deltaF l t tz := ⟨_, rfl⟩
  have hdl : rd.1.length ≤ 1000 := by
    rw [hrd]; unfold deltaF
    have := HN.out
    have := betF_len l t tz
    split <;> (try split) <;> simp <;> omega
  have HRD := Lib.hid hrd
  clear hrd
  go_enter Try.func4, Try.ntmps4
  go_wp2_with (at_builtin; refine wpList_app_own _ rfl (.tmp 31) (.tmp 32) _ rfl w.heap.size 62 i0 _ 3 24 Try.underlying44 HI.out HZ0.out HZ1.out HZ2.out rfl (by omega) (.slice (some ⟨w.heap.size, 0, none⟩) 0 0) 0 [] rfl A n c (flat cenc l) rfl n (flat cenc l) ?_ (by omega) rfl ?h1 ?h2 ?h3 (cenc_one l) ?h4 ?h5 ?h6; intro A1 c1 w1 hown1 hb _ _; have HOW := Lib.hid hown1; have HBB := Lib.hid hb; clear hown1 hb)
  case h1 => exact own_empty_new _ _ _ _ _ rfl (Nat.le_refl _)
  case h2 => exact HR.out.below (below_alloc _ _)
  case h3 => rw [flat_length cenc 3 cenc_len, HN.out]
  case h4 => simp only [maxLen]; omega
  case h5 => omega
  case h6 => simp only [World.size_alloc]; omega
  obtain ⟨A1', c1', he, how1⟩ := rd_of_own HOW.out
  injection he with he1 _ _
  subst he1
  have HB := Lib.hid ((below_alloc w _).trans HBB.out)
  have HOW1 := Lib.hid how1.rd
  have hob1 : ∀ b off, A1 = some ⟨b, off, none⟩ → flat cenc l = [] ∨ b < w1.heap.size := by
    intro b off h
    rcases how1.rd with h' | ⟨b', off', h1, h2, _⟩
    · exact .inl h'
    · rw [h] at h1
      injection h1 with h1
      injection h1 with h1 _
      exact .inr (by omega)
  have HOB1 := Lib.hid hob1
  have hobq : ∀ b off, A = some ⟨b, off, none⟩ → flat cenc l = [] ∨ b < w.heap.size := by
    intro b off h
    rcases HR.out with h' | ⟨b', off', h1, h2, _⟩
    · exact .inl h'
    · rw [h] at h1
      injection h1 with h1
      injection h1 with h1 _
      exact .inr (by omega)
  have HOBQ := Lib.hid hobq
  have HRQ := Lib.hid (HR.out.below HB.out)
  have hsz1 : w.heap.size ≤ w1.heap.size := HB.out.size
  clear how1 hob1 hobq HOW HBB
  refine (list_any _ l _ _ _ _ HOW1.out HN.out hl).mono ?_
  rintro e w2 ⟨rfl, hb⟩
  replace HB := Lib.hid (below_step HB.out hb)
  replace HRQ := Lib.hid (HRQ.out.below hb)
  replace HOW1 := Lib.hid (HOW1.out.below hb)
  have hsz2 : w1.heap.size ≤ w2.heap.size := hb.size
  clear hb
  go_wp2_with fail
  refine (refList_any _ l _ _ _ _ HRQ.out HN.out hl).mono ?_
  rintro e w3 ⟨rfl, hb⟩
  replace HB := Lib.hid (below_step HB.out hb)
  replace HRQ := Lib.hid (HRQ.out.below hb)
  replace HOW1 := Lib.hid (HOW1.out.below hb)
  have hsz3 : w2.heap.size ≤ w3.heap.size := hb.size
  clear hb
  go_wp2_with fail
  refine (online_any _ l _ _ _ _ _ HOW1.out HN.out hl).mono ?_
  rintro e w4 ⟨rfl, hb⟩
  replace HB := Lib.hid (below_step HB.out hb)
  replace HRQ := Lib.hid (HRQ.out.below hb)
  replace HOW1 := Lib.hid (HOW1.out.below hb)
  have hsz4 : w3.heap.size ≤ w4.heap.size := hb.size
  clear hb
  go_wp2_with fail
  refine (refOnline_any _ l _ _ _ _ _ HRQ.out HN.out hl).mono ?_
  rintro e w5 ⟨rfl, hb⟩
  replace HB := Lib.hid (below_step HB.out hb)
  replace HRQ := Lib.hid (HRQ.out.below hb)
  replace HOW1 := Lib.hid (HOW1.out.below hb)
  have hsz5 : w4.heap.size ≤ w5.heap.size := hb.size
  clear hb
  go_wp2_with fail
  refine (delta_any _ l _ _ _ _ _ HOW1.out HN.out hl).mono ?_
  rintro e w6 ⟨A6, c6, he, how, hb⟩
  replace HB := Lib.hid (below_step HB.out hb)
  replace HRQ := Lib.hid (HRQ.out.below hb)
  replace HOW1 := Lib.hid (HOW1.out.below hb)
  have hsz6 : w5.heap.size ≤ w6.heap.size := hb.size
  rw [← HRD.out] at he how
  subst he
  have HOW6 := Lib.hid how.rd
  have HWR6 := Lib.hid how.wr
  clear how
  clear hb
  go_wp2_with fail
  refine (refDelta_any _ l _ _ _ _ _ HRQ.out HN.out hl).mono ?_
  rintro e w7 ⟨A7, c7, he, how, hb⟩
  replace HB := Lib.hid (below_step HB.out hb)
  replace HRQ := Lib.hid (HRQ.out.below hb)
  replace HOW1 := Lib.hid (HOW1.out.below hb)
  replace HOW6 := Lib.hid (HOW6.out.below hb)
  replace HWR6 := Lib.hid (HWR6.out.below hb)
  have hsz7 : w6.heap.size ≤ w7.heap.size := hb.size
  rw [← HRD.out] at he how
  subst he
  have HRD7 := Lib.hid how.rd
  clear how
  clear hb
  generalize (listF l t).1.toNat = L1
  generalize (listF l t).2 = L2
  generalize (onlineF l p t).1 = O1
  generalize (onlineF l p t).2 = O2
  go_wp2_with (first | (go_at_call 33; refine (mix_any _ _ _).mono ?_; rintro e w' ⟨rfl, rfl⟩) | (go_at_call 34; refine (refMix_any _ _ _).mono ?_; rintro e w' ⟨rfl, rfl⟩))
  refine (checkChanges_any _ l _ _ _ HOW1.out HN.out hl).mono ?_
  rintro e w8 ⟨rfl, hb⟩
  replace HB := Lib.hid (below_step HB.out hb)
  replace HRQ := Lib.hid (HRQ.out.below hb)
  replace HOW1 := Lib.hid (HOW1.out.below hb)
  replace HOW6 := Lib.hid (HOW6.out.below hb)
  replace HWR6 := Lib.hid (HWR6.out.below hb)
  replace HRD7 := Lib.hid (HRD7.out.below hb)
  have hsz8 : w7.heap.size ≤ w8.heap.size := hb.size
  clear hb
  go_wp2_with fail
  refine (refCheckChanges_any _ l _ _ _ HRQ.out HN.out hl).mono ?_
  rintro e w9 ⟨rfl, hb⟩
  replace HB := Lib.hid (below_step HB.out hb)
  replace HRQ := Lib.hid (HRQ.out.below hb)
  replace HOW1 := Lib.hid (HOW1.out.below hb)
  replace HOW6 := Lib.hid (HOW6.out.below hb)
  replace HWR6 := Lib.hid (HWR6.out.below hb)
  replace HRD7 := Lib.hid (HRD7.out.below hb)
  have hsz9 : w8.heap.size ≤ w9.heap.size := hb.size
  clear hb
  go_wp2_with fail
  refine (sameChanges_true _ _ rd.1 _ _ _ _ HOW6.out HRD7.out rfl hdl).mono ?_
  rintro e w10 ⟨rfl, hb⟩
  replace HB := Lib.hid (below_step HB.out hb)
  replace HRQ := Lib.hid (HRQ.out.below hb)
  replace HOW1 := Lib.hid (HOW1.out.below hb)
  replace HOW6 := Lib.hid (HOW6.out.below hb)
  replace HWR6 := Lib.hid (HWR6.out.below hb)
  replace HRD7 := Lib.hid (HRD7.out.below hb)
  have hsz10 : w9.heap.size ≤ w10.heap.size := hb.size
  clear hb
  rw [flat_length cenc 3 cenc_len] at HWR6
  generalize rd.1.length = m6 at hdl HWR6 ⊢
  go_wp2
  go_loopw [120] (fun u120 wr => ∃ (k : Nat), k ≤ m6 ∧ u120 = .int .i64 k ∧ Only w5.heap.size w6.heap.size w10 wr ∧ Hid (Wr wr w5.heap.size w6.heap.size A6 (m6 * 3))) (fun u120 _ => m6 - (intOf u120).toNat)
  case atStart => exact ⟨0, Nat.zero_le _, rfl, Only.refl _ _ _, HWR6.out⟩
  case round =>
    obtain ⟨k, hk, rfl, ho, hwr⟩ := hrel
    by_cases hlt : k < m6
    · rcases hwr.out with h0 | ⟨b4, off4, rfl, hlo, hhi, hbw, hcell, hfr⟩
      · exact absurd h0 (by omega)
      obtain ⟨v4, hv4⟩ := Option.isSome_iff_exists.1 (hcell (k * 3) (by omega))
      have hkm : (k : Int) < m6 := by omega
      clear hcell
      go_wp2
      go_roundw
      case rel => exact ⟨k + 1, by omega, by go_num, ho.set hlo hhi _, Wr.set hwr.out _ _⟩
      case measure => simp [intOf]; omega
    · have hzq := Lib.hid (HRQ.out.only ho (fun b off h => (HOBQ.out b off h).imp_right (fun h => .inl (by omega))))
      have hz1 := Lib.hid (HOW1.out.only ho (fun b off h => (HOB1.out b off h).imp_right (fun h => .inl (by omega))))
      have hzb := Lib.hid (HB.out.trans ((ho.below (by omega)).mono (by omega)))
      clear ho hwr
      go_wp2_with fail
      refine (sameChanges_true _ _ l _ _ _ _ hz1.out hzq.out HN.out hl).mono ?_
      rintro e w11 ⟨rfl, hb11⟩
      go_wp2
      go_ret
      exact ⟨rfl, below_step hzb.out hb11⟩
end Go.Proofs.Ytalmeokljamhdaa
