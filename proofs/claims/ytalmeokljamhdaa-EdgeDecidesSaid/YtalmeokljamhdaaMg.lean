/- EdgeDecides: the decision of a copy, and the changes that it has missed, are as the document says. For every input. -/
import Derived.Test.YtalmeokljamhdaaMf
import Derived.Test.YtalmeokljamhdaaQg
namespace Go.Proofs.Ytalmeokljamhdaa
open Go.RowKit

theorem lateF_len (l : List Chg) (a p now : Int) : (lateF l a p now).1.length ≤ l.length := by
  unfold lateF
  have := betF_len l a now
  have := selP_len p (betF l a now)
  split
  · simp
  · split
    · simp
    · split <;> simp <;> omega

set_option maxRecDepth 100000 in
set_option maxHeartbeats 8000000 in
theorem edgeDecides_walk (A : Option Addr) (l : List Chg) (n c : Nat) (a m : Int) (S : BitVec 64) (se p now key : Int) (w : World) (hr : Rd w A (flat cenc l)) (hn : n = l.length) :
    Calls Try.prog 5 #[.slice A n c, .agg #[.int .i64 a, .int .i64 m, .int .u64 S.toNat, .int .u64 se], .int .i64 p, .int .i64 now, .int .u64 key] w fun e w' => e = .returned (.bool true) ∧ Below w.heap.size w w' := by
  have HR := Lib.hid hr
  have HN := Lib.hid hn
  clear hr hn
  by_cases h100 : 100 < n
  · go_enter Try.func5, Try.ntmps5
    go_wp2
    go_ret
    exact ⟨rfl, below_alloc _ _⟩
  have hl : n ≤ 1000 := by omega
  have hd100 : decide (100 < (n : Int)) = false := by simp; omega
  obtain ⟨i0, hi0, hz0, hz1, hz2⟩ := info_parts info62
  have HI := Lib.hid hi0
  have HZ0 := Lib.hid hz0
  have HZ1 := Lib.hid hz1
  have HZ2 := Lib.hid hz2
  clear hi0 hz0 hz1 hz2
  obtain ⟨rd, hrd⟩ : ∃ r, r = lateF l a p now := ⟨_, rfl⟩
  have hdl : rd.1.length ≤ 1000 := by
    rw [hrd]
    have := HN.out
    have := lateF_len l a p now
    omega
  have HRD := Lib.hid hrd
  clear hrd
  go_enter Try.func5, Try.ntmps5
  go_wp2_with (at_builtin; refine wpList_app_own _ rfl (.tmp 25) (.tmp 26) _ rfl (w.heap.size + 1) 62 i0 _ 3 24 Try.underlying44 HI.out HZ0.out HZ1.out HZ2.out rfl (by omega) (.slice (some ⟨w.heap.size + 1, 0, none⟩) 0 0) 0 [] rfl A n c (flat cenc l) rfl n (flat cenc l) ?_ (by omega) rfl ?h1 ?h2 ?h3 (cenc_one l) ?h4 ?h5 ?h6; intro A1 c1 w1 hown1 hb _ _; have HOW := Lib.hid hown1; have HBB := Lib.hid hb; obtain ⟨p0, p1, p2, p3, pf⟩ := (((Box.new w 65 #[.int .i64 a, .int .i64 m, .int .u64 S.toNat, .int .u64 se]).alloc _).below hb (by simp)).c4; clear hown1 hb)
  case h1 => exact own_empty_new _ _ _ _ _ (by simp only [World.size_alloc]) (Nat.le_refl _)
  case h2 => exact HR.out.below (below_more (below_alloc _ _) _)
  case h3 => rw [flat_length cenc 3 cenc_len, HN.out]
  case h4 => simp only [maxLen]; omega
  case h5 => omega
  case h6 => first | omega | (simp only [World.size_alloc]; omega)
  obtain ⟨A1', c1', he, how1⟩ := rd_of_own HOW.out
  injection he with he1 _ _
  subst he1
  have HBK : Hid (Box w1 w.heap.size [.int .i64 a, .int .i64 m, .int .u64 S.toNat, .int .u64 se]) := ((Box.new w 65 #[.int .i64 a, .int .i64 m, .int .u64 S.toNat, .int .u64 se]).alloc _).below HBB.out (by simp)
  have HB := Lib.hid ((below_more (below_alloc w _) _).trans (HBB.out.mono (by omega)))
  have HOW1 := Lib.hid how1.rd
  have hob1 : ∀ b off, A1 = some ⟨b, off, none⟩ → flat cenc l = [] ∨ b < w1.heap.size := by
    intro b off h
    rcases how1.rd with h' | ⟨b', off', h1, h2, _⟩
    · exact .inl h'
    · rw [h] at h1
      injection h1 with h1
      injection h1 with h1 _
      exact .inr (by omega)
  have HOB1 := Lib.hid hob1
  have hobq : ∀ b off, A = some ⟨b, off, none⟩ → flat cenc l = [] ∨ b < w.heap.size := by
    intro b off h
    rcases HR.out with h' | ⟨b', off', h1, h2, _⟩
    · exact .inl h'
    · rw [h] at h1
      injection h1 with h1
      injection h1 with h1 _
      exact .inr (by omega)
  have HOBQ := Lib.hid hobq
  have HRQ := Lib.hid (HR.out.below HB.out)
  have hsz1 : w.heap.size ≤ w1.heap.size := HB.out.size
  clear how1 hob1 hobq HOW HBB
  refine (decide_any _ _ _ _ _ _ _ _).mono ?_
  rintro e w2 ⟨rfl, hb⟩
  replace HB := Lib.hid (below_step HB.out hb)
  replace HBK := Lib.hid (HBK.out.ext hb)
  clear p0 p1 p2 p3 pf
  obtain ⟨p0, p1, p2, p3, pf⟩ := HBK.out.c4
  replace HRQ := Lib.hid (HRQ.out.below hb)
  replace HOW1 := Lib.hid (HOW1.out.below hb)
  have hsz2 : w1.heap.size ≤ w2.heap.size := hb.size
  clear hb
  go_wp2_with fail
  refine (refDecide_any _ _ _ _ _ _ _ _).mono ?_
  rintro e w3 ⟨rfl, hb⟩
  replace HB := Lib.hid (below_step HB.out hb)
  replace HBK := Lib.hid (HBK.out.ext hb)
  clear p0 p1 p2 p3 pf
  obtain ⟨p0, p1, p2, p3, pf⟩ := HBK.out.c4
  replace HRQ := Lib.hid (HRQ.out.below hb)
  replace HOW1 := Lib.hid (HOW1.out.below hb)
  have hsz3 : w2.heap.size ≤ w3.heap.size := hb.size
  clear hb
  go_wp2_with fail
  refine (late_any _ l _ _ _ _ _ _ _ _ _ HOW1.out HN.out hl).mono ?_
  rintro e w4 ⟨A6, c6, he, how, hb⟩
  replace HB := Lib.hid (below_step HB.out hb)
  replace HBK := Lib.hid (HBK.out.ext hb)
  clear p0 p1 p2 p3 pf
  obtain ⟨p0, p1, p2, p3, pf⟩ := HBK.out.c4
  replace HRQ := Lib.hid (HRQ.out.below hb)
  replace HOW1 := Lib.hid (HOW1.out.below hb)
  have hsz4 : w3.heap.size ≤ w4.heap.size := hb.size
  rw [← HRD.out] at he how
  subst he
  have HOW6 := Lib.hid how.rd
  have HWR6 := Lib.hid how.wr
  clear how
  clear hb
  go_wp2_with fail
  refine (refLate_any _ l _ _ _ _ _ _ _ _ _ HRQ.out HN.out hl).mono ?_
  rintro e w5 ⟨A7, c7, he, how, hb⟩
  replace HB := Lib.hid (below_step HB.out hb)
  replace HBK := Lib.hid (HBK.out.ext hb)
  clear p0 p1 p2 p3 pf
  obtain ⟨p0, p1, p2, p3, pf⟩ := HBK.out.c4
  replace HRQ := Lib.hid (HRQ.out.below hb)
  replace HOW1 := Lib.hid (HOW1.out.below hb)
  replace HOW6 := Lib.hid (HOW6.out.below hb)
  replace HWR6 := Lib.hid (HWR6.out.below hb)
  have hsz5 : w4.heap.size ≤ w5.heap.size := hb.size
  rw [← HRD.out] at he how
  subst he
  have HRD7 := Lib.hid how.rd
  clear how
  clear hb
  generalize (decF a m S se key p now).1 = O1
  generalize (decF a m S se key p now).2 = O2
  go_wp2_with fail
  refine (sameChanges_true _ _ rd.1 _ _ _ _ HOW6.out HRD7.out rfl hdl).mono ?_
  rintro e w6 ⟨rfl, hb⟩
  replace HB := Lib.hid (below_step HB.out hb)
  replace HBK := Lib.hid (HBK.out.ext hb)
  clear p0 p1 p2 p3 pf
  obtain ⟨p0, p1, p2, p3, pf⟩ := HBK.out.c4
  replace HRQ := Lib.hid (HRQ.out.below hb)
  replace HOW1 := Lib.hid (HOW1.out.below hb)
  replace HOW6 := Lib.hid (HOW6.out.below hb)
  replace HWR6 := Lib.hid (HWR6.out.below hb)
  replace HRD7 := Lib.hid (HRD7.out.below hb)
  have hsz6 : w5.heap.size ≤ w6.heap.size := hb.size
  clear hb
  rw [flat_length cenc 3 cenc_len] at HWR6
  generalize rd.1.length = m6 at hdl HWR6 ⊢
  go_wp2
  go_loopw [80] (fun u120 wr => ∃ (k : Nat), k ≤ m6 ∧ u120 = .int .i64 k ∧ Only w3.heap.size w4.heap.size w6 wr ∧ Hid (Wr wr w3.heap.size w4.heap.size A6 (m6 * 3))) (fun u120 _ => m6 - (intOf u120).toNat)
  case atStart => exact ⟨0, Nat.zero_le _, rfl, Only.refl _ _ _, HWR6.out⟩
  case round =>
    obtain ⟨k, hk, rfl, ho, hwr⟩ := hrel
    by_cases hlt : k < m6
    · rcases hwr.out with h0 | ⟨b4, off4, rfl, hlo, hhi, hbw, hcell, hfr⟩
      · exact absurd h0 (by omega)
      obtain ⟨v4, hv4⟩ := Option.isSome_iff_exists.1 (hcell (k * 3) (by omega))
      have hkm : (k : Int) < m6 := by omega
      clear hcell
      go_wp2
      go_roundw
      case rel => exact ⟨k + 1, by omega, by go_num, ho.set hlo hhi _, Wr.set hwr.out _ _⟩
      case measure => simp [intOf]; omega
    · have hzq := Lib.hid (HRQ.out.only ho (fun b off h => (HOBQ.out b off h).imp_right (fun h => .inl (by omega))))
      have hz1 := Lib.hid (HOW1.out.only ho (fun b off h => (HOB1.out b off h).imp_right (fun h => .inl (by omega))))
      have hzb := Lib.hid (HB.out.trans ((ho.below (by omega)).mono (by omega)))
      clear ho hwr
      go_wp2_with fail
      refine (sameChanges_true _ _ l _ _ _ _ hz1.out hzq.out HN.out hl).mono ?_
      rintro e w11 ⟨rfl, hb11⟩
      go_wp2
      go_ret
      exact ⟨rfl, below_step hzb.out hb11⟩
end Go.Proofs.Ytalmeokljamhdaa
