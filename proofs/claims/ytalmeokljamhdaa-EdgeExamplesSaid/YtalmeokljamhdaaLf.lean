/- Changes: the list at a time and the decision online, in the program and in the reference. -/
import Derived.Test.YtalmeokljamhdaaLe
namespace Go.Proofs.Ytalmeokljamhdaa
open Go.RowKit Go.Shelf

theorem between_any (A : Option Addr) (n c : Nat) (a z : Int) (w : World) :
    Calls Try.prog 59 #[.slice A n c, .int .i64 a, .int .i64 z] w fun e w' => e = .returned (.func (.func 81) #[] #[.pointer (some ⟨w.heap.size, 0, none⟩), .pointer (some ⟨w.heap.size + 2, 0, none⟩), .pointer (some ⟨w.heap.size + 1, 0, none⟩)]) ∧
      ((w.alloc (.cells #[.slice A n c] 44)).alloc (.cells #[.int .i64 a] 3)).alloc (.cells #[.int .i64 z] 3) = w' := by
  go_enter Try.func59, Try.ntmps59
  go_wp2
  go_ret
  exact ⟨rfl, rfl⟩

theorem vGo_tail {t : Int} {c : Chg} {l : List Chg} (h : vGo t (c :: l) = true) : okC c = true ∧ t ≤ c.time ∧ vGo c.time l = true := by
  simp only [vGo, Bool.and_eq_true, decide_eq_true_eq] at h
  exact ⟨h.1.1, h.1.2, h.2⟩
theorem vGo_ge : ∀ (l : List Chg) (t : Int), vGo t l = true → ∀ c ∈ l, okC c = true ∧ t ≤ c.time
  | [], _, _, c, hc => by simp at hc
  | x :: l, t, h, c, hc => by
    obtain ⟨h1, h2, h3⟩ := vGo_tail h
    rcases List.mem_cons.1 hc with rfl | hc
    · exact ⟨h1, h2⟩
    · have := vGo_ge l x.time h3 c hc
      exact ⟨this.1, by omega⟩
theorem betW_eq (a z : Int) : ∀ (l : List Chg) (t : Int), vGo t l = true → betW a z l = betF l a z
  | [], _, _ => rfl
  | x :: l, t, h => by
    obtain ⟨h1, h2, h3⟩ := vGo_tail h
    rw [betW]
    by_cases hz : z < x.time
    · rw [if_pos hz]
      symm
      apply List.filter_eq_nil_iff.2
      intro c hc
      have : x.time ≤ c.time := by
        rcases List.mem_cons.1 hc with rfl | hc
        · omega
        · exact (vGo_ge l x.time h3 c hc).2
      simp
      omega
    · rw [if_neg hz, betW_eq a z l x.time h3]
      unfold betF
      rw [List.filter_cons]
      by_cases ha : a < x.time
      · rw [if_pos ha, if_pos (by simp; omega)]
      · rw [if_neg ha, if_neg (by simp; omega)]
theorem chkC_len {l : List Chg} (h : chkC l = true) : l.length ≤ 60 := by simp [chkC] at h; exact h.1
theorem chkC_v {l : List Chg} (h : chkC l = true) : vGo 0 l = true := by simp [chkC] at h; exact h.2
theorem chkC_ok {l : List Chg} (h : chkC l = true) : ∀ c ∈ l, okC c = true := fun c hc => (vGo_ge l 0 (chkC_v h) c hc).1
theorem okC_p {c : Chg} (h : okC c = true) : 0 ≤ c.person ∧ c.person ≤ 63 := by
  simp only [okC, inB, Bool.and_eq_true, decide_eq_true_eq] at h
  exact h.2
theorem chkC_p {l : List Chg} (h : chkC l = true) : ∀ c ∈ l, 0 ≤ c.person ∧ c.person ≤ 63 := fun c hc => okC_p (chkC_ok h c hc)

def listF (l : List Chg) (t : Int) : BitVec 64 × Int := if chkC l = false then (0#64, 8) else if inB 0 1099511627776 t = false then (0#64, 2) else (aftF 0#64 (betF l (-1) t), 0)
theorem listF_bad {l : List Chg} {t : Int} (h : chkC l = false) : listF l t = (0#64, 8) := by unfold listF; rw [if_pos h]
theorem listF_arg {l : List Chg} {t : Int} (h : chkC l = true) (h2 : inB 0 1099511627776 t = false) : listF l t = (0#64, 2) := by unfold listF; rw [if_neg (by rw [h]; simp), if_pos h2]
theorem listF_ok {l : List Chg} {t : Int} (h : chkC l = true) (h2 : inB 0 1099511627776 t = true) : listF l t = (aftF 0#64 (betF l (-1) t), 0) := by unfold listF; rw [if_neg (by rw [h]; simp), if_neg (by rw [h2]; simp)]

set_option maxHeartbeats 1000000 in
theorem list_any (A : Option Addr) (l : List Chg) (n c : Nat) (t : Int) (w : World) (hr : Rd w A (flat cenc l)) (hn : n = l.length) (hl : n ≤ 1000) :
    Calls Try.prog 27 #[.slice A n c, .int .i64 t] w fun e w' => e = .returned (.tuple #[.int .u64 (listF l t).1.toNat, .int .i64 (listF l t).2]) ∧ Below w.heap.size w w' := by
  have HR := Lib.hid hr
  have HN := Lib.hid hn
  clear hr hn
  cases hv : chkC l
  · have HF := Lib.hid (listF_bad (t := t) hv)
    have HV := Lib.hid hv
    clear hv
    go_enter Try.func27, Try.ntmps27
    go_wp2_with fail
    refine (checkChanges_any _ l _ _ _ HR.out HN.out hl).mono ?_
    rintro e w1 ⟨rfl, hb1⟩
    rw [HV.out]
    simp only [errB, Bool.false_eq_true, if_false]
    go_wp2
    go_ret2
    exact ⟨by rw [HF.out]; rfl, hb1⟩
  · have HV := Lib.hid hv
    clear hv
    cases ht : inB 0 1099511627776 t
    · have HF := Lib.hid (listF_arg HV.out ht)
      go_enter Try.func27, Try.ntmps27
      go_wp2_with fail
      refine (checkChanges_any _ l _ _ _ HR.out HN.out hl).mono ?_
      rintro e w1 ⟨rfl, hb1⟩
      rw [HV.out]
      simp only [errB, if_true]
      go_wp2_with (go_at_call 57; refine (isTime_any _ _).mono ?_; rintro e w' ⟨rfl, rfl⟩)
      go_ret2
      exact ⟨by rw [HF.out]; rfl, hb1⟩
    · have HF := Lib.hid (listF_ok HV.out ht)
      go_enter Try.func27, Try.ntmps27
      go_wp2_with fail
      refine (checkChanges_any _ l _ _ _ HR.out HN.out hl).mono ?_
      rintro e w1 ⟨rfl, hb1⟩
      rw [HV.out]
      simp only [errB, if_true]
      have HB1 := Lib.hid hb1
      clear hb1
      go_wp2_with (first | (go_at_call 57; refine (isTime_any _ _).mono ?_; rintro e w' ⟨rfl, rfl⟩) | (go_at_call 59; refine (between_any _ _ _ _ _ _).mono ?_; rintro e w' ⟨rfl, rfl⟩))
      refine (after_any 0#64 81 _ (betW (-1) t l) l.length _ (enters_of Try.func81 (by kernel_rfl) rfl) (betw_stops 9 (by omega) w1.heap.size (w1.heap.size + 2) (w1.heap.size + 1) A l n c (-1) t _ ((HR.out.below HB1.out).below (below_more (below_more (below_alloc _ _) _) _)) HN.out hl (chkC_p HV.out) ?h1 ?h2 ?h3 ?c1 ?c2 ?c3)).mono ?_
      case h1 => simp only [World.size_alloc]; omega
      case h2 => simp only [World.size_alloc]; omega
      case h3 => simp only [World.size_alloc]; omega
      case c1 => simp [go_sem]
      case c2 => simp [go_sem]
      case c3 => simp [go_sem]
      rintro e w2 ⟨rfl, hb2⟩
      go_wp2
      go_ret2
      exact ⟨by rw [HF.out, betW_eq _ _ l 0 (chkC_v HV.out)]; rfl, below_step HB1.out (below_step (below_more (below_more (below_alloc _ _) _) _) hb2)⟩

set_option maxHeartbeats 1000000 in
theorem refListed_any (A : Option Addr) (l : List Chg) (n c : Nat) (t : Int) (w : World) (hr : Rd w A (flat cenc l)) (hn : n = l.length) (hl : n ≤ 1000) (hv : chkC l = true) :
    Calls Try.prog 62 #[.slice A n c, .int .i64 t] w fun e w' => e = .returned (.int .u64 (aftF 0#64 (betF l (-1) t)).toNat) ∧ Below w.heap.size w w' := by
  have HR := Lib.hid hr
  have HN := Lib.hid hn
  have HV := Lib.hid hv
  clear hr hn hv
  go_enter Try.func62, Try.ntmps62
  go_wp2_with fail
  refine (refBetween_any _ l _ _ _ _ _ HR.out HN.out hl).mono ?_
  rintro e w1 ⟨A1, c1, rfl, hown1, hb1⟩
  obtain ⟨A2, c2, he, how⟩ := rd_of_own hown1
  injection he with he1 _ _
  subst he1
  have HO := Lib.hid how
  have HB := Lib.hid hb1
  clear hown1 how hb1
  go_wp2_with fail
  refine (refAfter_any 0#64 _ (betF l (-1) t) _ _ _ HO.out.rd rfl (by have := betF_len l (-1) t; have := HN.out; omega) (fun c hc => chkC_p HV.out c (List.mem_filter.1 hc).1)).mono ?_
  rintro e w2 ⟨rfl, rfl⟩
  go_wp2
  go_ret
  exact ⟨rfl, HB.out⟩

set_option maxHeartbeats 1000000 in
theorem refList_any (A : Option Addr) (l : List Chg) (n c : Nat) (t : Int) (w : World) (hr : Rd w A (flat cenc l)) (hn : n = l.length) (hl : n ≤ 1000) :
    Calls Try.prog 28 #[.slice A n c, .int .i64 t] w fun e w' => e = .returned (.tuple #[.int .u64 (listF l t).1.toNat, .int .i64 (listF l t).2]) ∧ Below w.heap.size w w' := by
  have HR := Lib.hid hr
  have HN := Lib.hid hn
  clear hr hn
  cases hv : chkC l
  · have HF := Lib.hid (listF_bad (t := t) hv)
    have HV := Lib.hid hv
    clear hv
    go_enter Try.func28, Try.ntmps28
    go_wp2_with fail
    refine (validChanges_any _ l _ _ _ HR.out HN.out hl).mono ?_
    rintro e w1 ⟨rfl, hb1⟩
    rw [HV.out]
    go_wp2
    go_ret2
    exact ⟨by rw [HF.out]; rfl, hb1⟩
  · have HV := Lib.hid hv
    clear hv
    cases ht : inB 0 1099511627776 t
    · have HF := Lib.hid (listF_arg HV.out ht)
      go_enter Try.func28, Try.ntmps28
      go_wp2_with fail
      refine (validChanges_any _ l _ _ _ HR.out HN.out hl).mono ?_
      rintro e w1 ⟨rfl, hb1⟩
      rw [HV.out]
      go_wp2_with (go_at_call 61; refine (when_any _ _).mono ?_; rintro e w' ⟨rfl, rfl⟩)
      go_ret2
      exact ⟨by rw [HF.out]; rfl, hb1⟩
    · have HF := Lib.hid (listF_ok HV.out ht)
      go_enter Try.func28, Try.ntmps28
      go_wp2_with fail
      refine (validChanges_any _ l _ _ _ HR.out HN.out hl).mono ?_
      rintro e w1 ⟨rfl, hb1⟩
      rw [HV.out]
      have HB1 := Lib.hid hb1
      clear hb1
      go_wp2_with (go_at_call 61; refine (when_any _ _).mono ?_; rintro e w' ⟨rfl, rfl⟩)
      refine (refListed_any _ l _ _ _ _ (HR.out.below HB1.out) HN.out hl HV.out).mono ?_
      rintro e w2 ⟨rfl, hb2⟩
      go_wp2
      go_ret2
      exact ⟨by rw [HF.out]; rfl, below_step HB1.out hb2⟩
end Go.Proofs.Ytalmeokljamhdaa
