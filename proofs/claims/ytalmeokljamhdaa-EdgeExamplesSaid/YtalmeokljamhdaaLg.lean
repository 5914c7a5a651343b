/- Changes: the decision online, and the changes between two times, in the program and in the reference. -/
import Derived.Test.YtalmeokljamhdaaLf
namespace Go.Proofs.Ytalmeokljamhdaa
open Go.RowKit Go.Shelf
attribute [local go_sem] Oper.semAt_some

def onlineF (l : List Chg) (p t : Int) : Int × Int := if chkC l = false then (0, 8) else if inB 0 63 p = false ∨ inB 0 1099511627776 t = false then (0, 2) else (saidF (aftF 0#64 (betF l (-1) t)) p, 0)
theorem onlineF_bad {l : List Chg} {p t : Int} (h : chkC l = false) : onlineF l p t = (0, 8) := by unfold onlineF; rw [if_pos h]
theorem onlineF_arg {l : List Chg} {p t : Int} (h : chkC l = true) (h2 : inB 0 63 p = false ∨ inB 0 1099511627776 t = false) : onlineF l p t = (0, 2) := by unfold onlineF; rw [if_neg (by rw [h]; simp), if_pos h2]
theorem onlineF_ok {l : List Chg} {p t : Int} (h : chkC l = true) (h2 : inB 0 63 p = true) (h3 : inB 0 1099511627776 t = true) : onlineF l p t = (saidF (aftF 0#64 (betF l (-1) t)) p, 0) := by
  unfold onlineF; rw [if_neg (by rw [h]; simp), if_neg (by rw [h2, h3]; simp)]

set_option maxHeartbeats 1000000 in
theorem online_any (A : Option Addr) (l : List Chg) (n c : Nat) (p t : Int) (w : World) (hr : Rd w A (flat cenc l)) (hn : n = l.length) (hl : n ≤ 1000) :
    Calls Try.prog 29 #[.slice A n c, .int .i64 p, .int .i64 t] w fun e w' => e = .returned (.tuple #[.int .u8 (onlineF l p t).1, .int .i64 (onlineF l p t).2]) ∧ Below w.heap.size w w' := by
  have HR := Lib.hid hr
  have HN := Lib.hid hn
  clear hr hn
  cases hv : chkC l
  · have HF := Lib.hid (onlineF_bad (p := p) (t := t) hv)
    have HL := Lib.hid (listF_bad (t := t) hv)
    clear hv
    go_enter Try.func29, Try.ntmps29
    go_wp2_with fail
    refine (list_any _ l _ _ _ _ HR.out HN.out hl).mono ?_
    rintro e w1 ⟨rfl, hb1⟩
    rw [HL.out]
    go_wp2
    go_ret2
    exact ⟨by rw [HF.out]; rfl, hb1⟩
  · have HV := Lib.hid hv
    clear hv
    cases ht : inB 0 1099511627776 t
    · have HF := Lib.hid (onlineF_arg (p := p) HV.out (.inr ht))
      have HL := Lib.hid (listF_arg HV.out ht)
      go_enter Try.func29, Try.ntmps29
      go_wp2_with fail
      refine (list_any _ l _ _ _ _ HR.out HN.out hl).mono ?_
      rintro e w1 ⟨rfl, hb1⟩
      rw [HL.out]
      go_wp2
      go_ret2
      exact ⟨by rw [HF.out]; rfl, hb1⟩
    · have HL := Lib.hid (listF_ok HV.out ht)
      cases hp : inB 0 63 p
      · have HF := Lib.hid (onlineF_arg (t := t) HV.out (.inl hp))
        go_enter Try.func29, Try.ntmps29
        go_wp2_with fail
        refine (list_any _ l _ _ _ _ HR.out HN.out hl).mono ?_
        rintro e w1 ⟨rfl, hb1⟩
        rw [HL.out]
        go_wp2_with (go_at_call 63; refine (isPerson_any _ _).mono ?_; rintro e w' ⟨rfl, rfl⟩)
        go_ret2
        exact ⟨by rw [HF.out]; rfl, hb1⟩
      · have HF := Lib.hid (onlineF_ok HV.out hp ht)
        have hp' : 0 ≤ p ∧ p ≤ 63 := by simpa [inB] using hp
        go_enter Try.func29, Try.ntmps29
        go_wp2_with fail
        refine (list_any _ l _ _ _ _ HR.out HN.out hl).mono ?_
        rintro e w1 ⟨rfl, hb1⟩
        rw [HL.out]
        go_wp2_with (first | (go_at_call 63; refine (isPerson_any _ _).mono ?_; rintro e w' ⟨rfl, rfl⟩) | (go_at_call 64; refine (said_any _ _ _ hp'.1 hp'.2).mono ?_; rintro e w' ⟨rfl, rfl⟩))
        go_ret2
        exact ⟨by rw [HF.out]; rfl, hb1⟩

set_option maxHeartbeats 1000000 in
theorem refOnline_any (A : Option Addr) (l : List Chg) (n c : Nat) (p t : Int) (w : World) (hr : Rd w A (flat cenc l)) (hn : n = l.length) (hl : n ≤ 1000) :
    Calls Try.prog 30 #[.slice A n c, .int .i64 p, .int .i64 t] w fun e w' => e = .returned (.tuple #[.int .u8 (onlineF l p t).1, .int .i64 (onlineF l p t).2]) ∧ Below w.heap.size w w' := by
  have HR := Lib.hid hr
  have HN := Lib.hid hn
  clear hr hn
  cases hv : chkC l
  · have HF := Lib.hid (onlineF_bad (p := p) (t := t) hv)
    have HV := Lib.hid hv
    clear hv
    go_enter Try.func30, Try.ntmps30
    go_wp2_with fail
    refine (validChanges_any _ l _ _ _ HR.out HN.out hl).mono ?_
    rintro e w1 ⟨rfl, hb1⟩
    rw [HV.out]
    go_wp2
    go_ret2
    exact ⟨by rw [HF.out]; rfl, hb1⟩
  · have HV := Lib.hid hv
    clear hv
    cases hp : inB 0 63 p
    · have HF := Lib.hid (onlineF_arg (t := t) HV.out (.inl hp))
      go_enter Try.func30, Try.ntmps30
      go_wp2_with fail
      refine (validChanges_any _ l _ _ _ HR.out HN.out hl).mono ?_
      rintro e w1 ⟨rfl, hb1⟩
      rw [HV.out]
      go_wp2_with (go_at_call 65; refine (person_any _ _).mono ?_; rintro e w' ⟨rfl, rfl⟩)
      go_ret2
      exact ⟨by rw [HF.out]; rfl, hb1⟩
    · cases ht : inB 0 1099511627776 t
      · have HF := Lib.hid (onlineF_arg (p := p) HV.out (.inr ht))
        go_enter Try.func30, Try.ntmps30
        go_wp2_with fail
        refine (validChanges_any _ l _ _ _ HR.out HN.out hl).mono ?_
        rintro e w1 ⟨rfl, hb1⟩
        rw [HV.out]
        go_wp2_with (first | (go_at_call 65; refine (person_any _ _).mono ?_; rintro e w' ⟨rfl, rfl⟩) | (go_at_call 61; refine (when_any _ _).mono ?_; rintro e w' ⟨rfl, rfl⟩))
        go_ret2
        exact ⟨by rw [HF.out]; rfl, hb1⟩
      · have HF := Lib.hid (onlineF_ok HV.out hp ht)
        have hp' : 0 ≤ p ∧ p ≤ 63 := by simpa [inB] using hp
        go_enter Try.func30, Try.ntmps30
        go_wp2_with fail
        refine (validChanges_any _ l _ _ _ HR.out HN.out hl).mono ?_
        rintro e w1 ⟨rfl, hb1⟩
        rw [HV.out]
        have HB1 := Lib.hid hb1
        clear hb1
        go_wp2_with (first | (go_at_call 65; refine (person_any _ _).mono ?_; rintro e w' ⟨rfl, rfl⟩) | (go_at_call 61; refine (when_any _ _).mono ?_; rintro e w' ⟨rfl, rfl⟩))
        refine (refListed_any _ l _ _ _ _ (HR.out.below HB1.out) HN.out hl HV.out).mono ?_
        rintro e w2 ⟨rfl, hb2⟩
        go_wp2_with (go_at_call 66; refine (refSaid_any _ _ _ hp'.1 hp'.2).mono ?_; rintro e w' ⟨rfl, rfl⟩)
        go_ret2
        exact ⟨by rw [HF.out]; rfl, below_step HB1.out hb2⟩
end Go.Proofs.Ytalmeokljamhdaa
