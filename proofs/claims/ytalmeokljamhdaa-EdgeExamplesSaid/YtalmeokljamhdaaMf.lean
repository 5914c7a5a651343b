/- Copies: the changes that a copy has missed, for any arguments, in the program and in the reference. -/
import Derived.Test.YtalmeokljamhdaaMe
namespace Go.Proofs.Ytalmeokljamhdaa
open Go.RowKit

theorem late_cases (l : List Chg) (a p now : Int) :
    (chkC l = false ∧ lateF l a p now = ([], 8)) ∨ (chkC l = true ∧ inB 0 63 p = false ∧ lateF l a p now = ([], 2)) ∨ (chkC l = true ∧ inB 0 63 p = true ∧ inB 0 1099511627776 now = false ∧ lateF l a p now = ([], 2)) ∨
    (chkC l = true ∧ inB 0 63 p = true ∧ inB 0 1099511627776 now = true ∧ inB 0 1099511627776 a = false ∧ lateF l a p now = ([], 2)) ∨
    (chkC l = true ∧ inB 0 63 p = true ∧ inB 0 1099511627776 now = true ∧ inB 0 1099511627776 a = true ∧ now < a ∧ lateF l a p now = ([], 101)) ∨
    (chkC l = true ∧ inB 0 63 p = true ∧ inB 0 1099511627776 now = true ∧ inB 0 1099511627776 a = true ∧ a ≤ now ∧ lateF l a p now = (selP p (betF l a now), 0)) := by
  cases h1 : chkC l
  · exact .inl ⟨rfl, by simp [lateF, h1]⟩
  cases h2 : inB 0 63 p
  · exact .inr (.inl ⟨rfl, rfl, by simp [lateF, h1, h2]⟩)
  cases h3 : inB 0 1099511627776 now
  · exact .inr (.inr (.inl ⟨rfl, rfl, rfl, by simp [lateF, h1, h3]⟩))
  cases h4 : inB 0 1099511627776 a
  · exact .inr (.inr (.inr (.inl ⟨rfl, rfl, rfl, rfl, by simp [lateF, h1, h4]⟩)))
  by_cases h5 : now < a
  · exact .inr (.inr (.inr (.inr (.inl ⟨rfl, rfl, rfl, rfl, h5, by simp [lateF, h1, h2, h3, h4, h5]⟩))))
  · exact .inr (.inr (.inr (.inr (.inr ⟨rfl, rfl, rfl, rfl, by omega, by simp [lateF, h1, h2, h3, h4, h5]⟩))))

set_option maxHeartbeats 1000000 in
theorem late_any (A : Option Addr) (l : List Chg) (n c : Nat) (a m s se p now : Int) (w : World) (hr : Rd w A (flat cenc l)) (hn : n = l.length) (hl : n ≤ 1000) :
    Calls Try.prog 40 #[.slice A n c, .agg #[.int .i64 a, .int .i64 m, .int .u64 s, .int .u64 se], .int .i64 p, .int .i64 now] w (CPost (lateF l a p now) w) := by
  rcases late_cases l a p now with ⟨hv, hf⟩ | ⟨hv, h2, hf⟩ | ⟨hv, h2, h3, hf⟩ | ⟨hv, h2, h3, h4, hf⟩ | ⟨hv, h2, h3, h4, h5, hf⟩ | ⟨hv, h2, h3, h4, h5, hf⟩
  · have HR := Lib.hid hr
    have HN := Lib.hid hn
    have HV := Lib.hid hv
    have HF := Lib.hid hf
    clear hr hn hv hf
    go_enter Try.func40, Try.ntmps40
    go_wp2_with fail
    refine (checkChanges_any _ l _ _ _ (HR.out.below (below_more (below_alloc _ _) _)) HN.out hl).mono ?_
    rintro e w1 ⟨rfl, hb1⟩
    rw [HV.out]
    simp only [errB, Bool.false_eq_true, if_false]
    have HB1 := Lib.hid (below_step (below_more (below_alloc w _) _) hb1)
    clear hb1
    go_wp2
    go_ret2
    exact CPost.nil 8 _ HF.out HB1.out
  case inr.inr.inr.inr.inr => rw [hf]; exact late_ok A l n c a m s se p now w hr hn hl hv h2 h3 h4 h5
  all_goals
    have HR := Lib.hid hr
    have HN := Lib.hid hn
    have HV := Lib.hid hv
    have HF := Lib.hid hf
    clear hr hn hv hf
    obtain ⟨K, hK, hask⟩ : ∃ K : Int, Hid (lateF l a p now = ([], K) ∧ (K != 0) = true) ∧ Hid ((if inB 0 63 p = false ∨ inB 0 1099511627776 now = false ∨ inB 0 1099511627776 a = false then (2 : Int) else if now < a then 101 else 0) = K) := by
      first
        | exact ⟨2, ⟨HF.out, by decide⟩, (by unfold Hid; simp [*])⟩
        | exact ⟨101, ⟨HF.out, by decide⟩, (by unfold Hid; simp [*])⟩
    go_enter Try.func40, Try.ntmps40
    go_wp2_with fail
    refine (checkChanges_any _ l _ _ _ (HR.out.below (below_more (below_alloc _ _) _)) HN.out hl).mono ?_
    rintro e w1 ⟨rfl, hb1⟩
    rw [HV.out]
    simp only [errB, if_true]
    have HB1 := Lib.hid (below_step (below_more (below_alloc w _) _) hb1)
    have hbk := ((Box.new w 65 _).alloc _).ext hb1
    have hbp := (Box.new _ 3 _).ext hb1
    obtain ⟨p0, p1, p2, p3, pf⟩ := hbk.c4
    obtain ⟨q0, qf⟩ := hbp.c1
    simp only [World.size_alloc] at q0 qf
    clear hb1 hbk hbp
    go_wp2_with fail
    refine (asked_any _ _ _ _).mono ?_
    rintro e w2 ⟨rfl, rfl⟩
    rw [hask.out]
    have hk0 := hK.out.2
    go_wp2
    go_ret2
    exact CPost.nil K _ hK.out.1 HB1.out

set_option maxRecDepth 100000 in
set_option maxHeartbeats 2000000 in
theorem refLate_ok (A : Option Addr) (l : List Chg) (n c : Nat) (a m s se p now : Int) (w : World) (hr : Rd w A (flat cenc l)) (hn : n = l.length) (hl : n ≤ 1000) (hv : chkC l = true) (h2 : inB 0 63 p = true) (h3 : inB 0 1099511627776 now = true) (h4 : inB 0 1099511627776 a = true) (h5 : a ≤ now) :
    Calls Try.prog 41 #[.slice A n c, .agg #[.int .i64 a, .int .i64 m, .int .u64 s, .int .u64 se], .int .i64 p, .int .i64 now] w (CPost (selP p (betF l a now), 0) w) := by
  have HR := Lib.hid hr
  have HN := Lib.hid hn
  have HV := Lib.hid hv
  clear hr hn hv
  obtain ⟨i0, hi0, hz0, hz1, hz2⟩ := info_parts info62
  have HI := Lib.hid hi0
  have HZ0 := Lib.hid hz0
  have HZ1 := Lib.hid hz1
  have HZ2 := Lib.hid hz2
  clear hi0 hz0 hz1 hz2
  go_enter Try.func41, Try.ntmps41
  go_wp2_with fail
  refine (validChanges_any _ l _ _ _ (HR.out.below (below_alloc _ _)) HN.out hl).mono ?_
  rintro e w1 ⟨rfl, hb1⟩
  rw [HV.out]
  have HB1 := Lib.hid (below_step (below_alloc w _) hb1)
  obtain ⟨p0, p1, p2, p3, pf⟩ := ((Box.new w 65 _).ext hb1).c4
  clear hb1
  go_wp2_with (first | (go_at_call 65; refine (person_any _ _).mono ?_; rintro e w' ⟨rfl, rfl⟩) | (go_at_call 61; refine (when_any _ _).mono ?_; rintro e w' ⟨rfl, rfl⟩))
  refine (refBetween_any _ l _ _ _ _ _ (HR.out.below HB1.out) HN.out hl).mono ?_
  rintro e w2 ⟨A2, c2, rfl, hown2, hb2⟩
  obtain ⟨A3, c3, he, how⟩ := rd_of_own hown2
  injection he with he1 _ _
  subst he1
  have hlen : (betF l a now).length ≤ 1000 := by have := betF_len l a now; have := HN.out; omega
  have HO := Lib.hid how.rd
  have HB2 := Lib.hid (below_step HB1.out hb2)
  clear hown2 how hb2 p0 p1 p2 p3 pf
  generalize betF l a now = L at *
  obtain ⟨n2, hn2⟩ : ∃ n2, n2 = L.length := ⟨_, rfl⟩
  rw [← hn2] at hlen ⊢
  have HN2 := Lib.hid hn2
  clear hn2
  go_wp2
  go_loopw [11, 12] (fun u7 u8 wr => ∃ (k m c1 : Nat) (A1 : Option Addr), k ≤ n2 ∧ m ≤ k ∧ u7 = .slice A1 m c1 ∧ u8 = .int .i64 k ∧ Hid (m = (selP p (L.take k)).length) ∧ Hid (wr.ownsRow w2.heap.size 62 3 (.slice A1 m c1) m (flat cenc (selP p (L.take k)))) ∧ Below w2.heap.size w2 wr) (fun _ u8 _ => n2 - (intOf u8).toNat)
  case atStart => exact ⟨0, 0, 0, none, Nat.zero_le _, Nat.le_refl _, rfl, rfl, rfl, World.ownsRow_nil _ _ _ _, Below.refl _ _⟩
  case round =>
    obtain ⟨k, m, c1, A1, hk, hm, rfl, rfl, hml, ho, hb⟩ := hrel
    by_cases hlt : k < n2
    · have hlt' : k < L.length := by rw [← HN2.out]; exact hlt
      obtain ⟨b, off, rfl, hbs, hc0, hc1, hc2⟩ := chg_at HO.out hb hlt'
      have hs := Lib.hid (selP_snoc p (L.take k) L[k])
      have HT := Lib.hid (take_snocC L hlt')
      generalize L[k] = g at hc0 hc1 hc2 HT hs
      rcases g with ⟨gt, gp, go⟩
      simp only at hc0 hc1 hc2
      cases hin : (gp == p)
      · have hnew : Hid (selP p (L.take (k + 1)) = selP p (L.take k)) := by
          unfold Hid; rw [HT.out, hs.out, hin]; simp
        go_wp2
        go_roundw
        case rel => exact ⟨k + 1, m, c1, A1, by omega, by omega, rfl, by go_num, (by unfold Hid; rw [hnew.out, ← hml.out]), (by unfold Hid; rw [hnew.out]; exact ho.out), hb⟩
        case measure => simp [intOf]; omega
      · have hnew : Hid (selP p (L.take (k + 1)) = selP p (L.take k) ++ [⟨gt, gp, go⟩]) := by
          unfold Hid; rw [HT.out, hs.out, hin, if_pos rfl]
        go_wp2_with (at_builtin; refine wpList_app_own _ rfl (.tmp 52) (.tmp 57) _ rfl w2.heap.size 62 i0 _ 3 24 Try.underlying44 HI.out HZ0.out HZ1.out HZ2.out rfl (by omega) (.slice A1 m c1) m (flat cenc (selP p (L.take k))) rfl _ 1 1 (cenc ⟨gt, gp, go⟩) rfl (m + 1) (flat cenc (selP p (L.take (k + 1)))) ?_ rfl ?h0 ?h1 ?h3 rfl ?h4 ?h5 ?h6 ?h7; intro A4 c4 w4 hown4 hb4 _ _; have HO4 := Lib.hid hown4; have HB4 := Lib.hid hb4; clear hown4 hb4)
        case h0 => rw [hnew.out, flat_append, flat_cons, flat_nil, List.append_nil]
        case h1 => exact own_ext ho.out (below_alloc _ _)
        case h3 => exact rd_newC _ _ _ _ rfl
        case h4 => intro u hu; exact cenc_one [⟨gt, gp, go⟩] u (by simpa [flat] using hu)
        case h5 => simp only [maxLen]; omega
        case h6 => omega
        case h7 => have := hb.size; first | omega | (simp only [World.size_alloc]; omega)
        go_roundw
        case rel => exact ⟨k + 1, m + 1, c4, A4, by omega, by omega, rfl, by go_num, (by unfold Hid; rw [hnew.out, List.length_append, ← hml.out]; rfl), HO4.out, (hb.alloc hb.size _).trans HB4.out⟩
        case measure => simp [intOf]; omega
    · have hfin : Hid (L.take k = L) := List.take_of_length_le (by rw [← HN2.out]; omega)
      rw [hfin.out] at hml ho
      go_wp2
      go_ret2
      have hm' := hml.out
      subst hm'
      obtain ⟨A5, c5, he, how⟩ := rd_of_own ho.out
      injection he with he1 _ _
      subst he1
      exact ⟨A1, c1, rfl, how.mono HB2.out.size, below_step HB2.out hb⟩

set_option maxHeartbeats 1000000 in
theorem refLate_any (A : Option Addr) (l : List Chg) (n c : Nat) (a m s se p now : Int) (w : World) (hr : Rd w A (flat cenc l)) (hn : n = l.length) (hl : n ≤ 1000) :
    Calls Try.prog 41 #[.slice A n c, .agg #[.int .i64 a, .int .i64 m, .int .u64 s, .int .u64 se], .int .i64 p, .int .i64 now] w (CPost (lateF l a p now) w) := by
  rcases late_cases l a p now with ⟨hv, hf⟩ | ⟨hv, h2, hf⟩ | ⟨hv, h2, h3, hf⟩ | ⟨hv, h2, h3, h4, hf⟩ | ⟨hv, h2, h3, h4, h5, hf⟩ | ⟨hv, h2, h3, h4, h5, hf⟩
  case inr.inr.inr.inr.inr => rw [hf]; exact refLate_ok A l n c a m s se p now w hr hn hl hv h2 h3 h4 h5
  all_goals
    have HR := Lib.hid hr
    have HN := Lib.hid hn
    have HV := Lib.hid hv
    have HF := Lib.hid hf
    clear hr hn hv hf
    go_enter Try.func41, Try.ntmps41
    go_wp2_with fail
    refine (validChanges_any _ l _ _ _ (HR.out.below (below_alloc _ _)) HN.out hl).mono ?_
    rintro e w1 ⟨rfl, hb1⟩
    rw [HV.out]
    have HB1 := Lib.hid (below_step (below_alloc w _) hb1)
    obtain ⟨p0, p1, p2, p3, pf⟩ := ((Box.new w 65 _).ext hb1).c4
    clear hb1
    go_wp2_with (first | (go_at_call 65; refine (person_any _ _).mono ?_; rintro e w' ⟨rfl, rfl⟩) | (go_at_call 61; refine (when_any _ _).mono ?_; rintro e w' ⟨rfl, rfl⟩))
    go_ret2
    exact CPost.nil _ _ HF.out HB1.out
end Go.Proofs.Ytalmeokljamhdaa
