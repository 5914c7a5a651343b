/- EdgeOld: a copy decides as long as it is not stale. -/
import Derived.Test.YtalmeokljamhdaaNb
namespace Go.Proofs.Ytalmeokljamhdaa
open Go.RowKit

/-- A copy that was made: its fields, and what its times are; or an error. -/
theorem copy_two (l : List Chg) (t m key : Int) :
    (∃ K : Int, copyF l t m key = (0, 0, 0#64, 0, K) ∧ (K != 0) = true) ∨
    (chkC l = true ∧ inB 0 1099511627776 t = true ∧ inB 0 1099511627776 m = true ∧ copyF l t m key = (t, m, aftF 0#64 (betF l (-1) t), sealI t m (aftF 0#64 (betF l (-1) t)).toNat key, 0)) := by
  rcases copy_cases l t m key with ⟨_, h⟩ | ⟨_, _, h⟩ | ⟨_, _, _, h⟩ | h
  · exact .inl ⟨_, h, by decide⟩
  · exact .inl ⟨_, h, by decide⟩
  · exact .inl ⟨_, h, by decide⟩
  · exact .inr h
theorem saidF_two (S : BitVec 64) (p : Int) : saidF S p = 1 ∨ saidF S p = 2 := by
  unfold saidF
  split
  · exact .inr rfl
  · exact .inl rfl

set_option maxRecDepth 100000 in
set_option maxHeartbeats 4000000 in
theorem edgeOld_walk (A : Option Addr) (l : List Chg) (n c : Nat) (p t ma more now key : Int) (w : World) (hr : Rd w A (flat cenc l)) (hn : n = l.length) :
    Calls Try.prog 7 #[.slice A n c, .int .i64 p, .int .i64 t, .int .i64 ma, .int .i64 more, .int .i64 now, .int .u64 key] w fun e w' => e = .returned (.bool true) ∧ Below w.heap.size w w' := by
  have HR := Lib.hid hr
  have HN := Lib.hid hn
  clear hr hn
  by_cases h60 : 60 < n
  · go_enter Try.func7, Try.ntmps7
    go_wp2_with fail
    refine (alive_any _).mono ?_
    rintro e w1 ⟨rfl, hb⟩
    go_wp2
    go_ret
    exact ⟨rfl, hb⟩
  have hl : n ≤ 1000 := by omega
  have hd60 : decide (60 < (n : Int)) = false := by simp; omega
  obtain ⟨rc1, rc2, rc3, rc4, rc5, hrc⟩ : ∃ a b d e f, copyF l t ma key = (a, b, d, e, f) := ⟨_, _, _, _, _, rfl⟩
  obtain ⟨rj1, rj2, rj3, rj4, rj5, hrj⟩ : ∃ a b d e f, copyF l t more key = (a, b, d, e, f) := ⟨_, _, _, _, _, rfl⟩
  obtain ⟨x1, x2, hx⟩ : ∃ a b, decF rc1 rc2 rc3 rc4 key p now = (a, b) := ⟨_, _, rfl⟩
  obtain ⟨y1, y2, hy⟩ : ∃ a b, decF rj1 rj2 rj3 rj4 key p now = (a, b) := ⟨_, _, rfl⟩
  have hcs : Hid ((rc5 != 0) = true ∨ ((rc5 != 0) = false ∧ (rj5 != 0) = true) ∨ ((rc5 != 0) = false ∧ (rj5 != 0) = false ∧ (x2 != 0) = true) ∨
      ((rc5 != 0) = false ∧ (rj5 != 0) = false ∧ (x2 != 0) = false ∧ (y2 != 0) = false ∧ (0 ≤ t ∧ t ≤ 1099511627776 ∧ 0 ≤ now ∧ now ≤ 1099511627776) ∧
        ((x1 = 3 ∧ ma < now - t) ∨ ((x1 == 3) = false ∧ now - t ≤ ma ∧ (more < ma ∨ x1 = y1))))) := by
    unfold Hid
    rcases copy_two l t ma key with ⟨K, h, hk⟩ | ⟨h0, h1, h2, h⟩
    · rw [hrc] at h
      injections
      subst_vars
      exact .inl hk
    · rw [hrc] at h
      rcases copy_two l t more key with ⟨K, g, hk⟩ | ⟨_, _, g2, g⟩
      · rw [hrj] at g
        simp only [Prod.mk.injEq] at h g
        obtain ⟨_, _, _, _, h5⟩ := h
        obtain ⟨_, _, _, _, g5⟩ := g
        rw [h5, g5]
        exact .inr (.inl ⟨rfl, hk⟩)
      · rw [hrj] at g
        simp only [Prod.mk.injEq] at h g
        obtain ⟨rfl, rfl, rfl, rfl, rfl⟩ := h
        obtain ⟨rfl, rfl, rfl, rfl, rfl⟩ := g
        rw [decF_own h1 h2] at hx
        rw [decF_own h1 g2] at hy
        by_cases c1 : inB 0 63 p = false ∨ inB 0 1099511627776 now = false
        · rw [if_pos c1] at hx
          simp only [Prod.mk.injEq] at hx
          obtain ⟨rfl, rfl⟩ := hx
          exact .inr (.inr (.inl ⟨rfl, rfl, by decide⟩))
        · rw [if_neg c1] at hx hy
          by_cases c2 : now < rj1
          · rw [if_pos c2] at hx
            simp only [Prod.mk.injEq] at hx
            obtain ⟨rfl, rfl⟩ := hx
            exact .inr (.inr (.inl ⟨rfl, rfl, by decide⟩))
          · rw [if_neg c2] at hx hy
            have hnow : inB 0 1099511627776 now = true := by
              cases hq : inB 0 1099511627776 now
              · exact absurd (.inr hq) c1
              · rfl
            simp only [inB, decide_eq_true_eq] at h1 hnow
            refine .inr (.inr (.inr ⟨rfl, rfl, ?_⟩))
            have hs := saidF_two (aftF 0#64 (betF l (-1) rj1)) p
            by_cases c3 : rc2 < now - rj1
            · rw [if_pos c3] at hx
              simp only [Prod.mk.injEq] at hx
              obtain ⟨rfl, rfl⟩ := hx
              refine ⟨rfl, ?_, by omega, .inl ⟨rfl, c3⟩⟩
              split at hy <;> (simp only [Prod.mk.injEq] at hy; rw [← hy.2]; rfl)
            · rw [if_neg c3] at hx
              simp only [Prod.mk.injEq] at hx
              refine ⟨by rw [← hx.2]; rfl, ?_, by omega, .inr ⟨by rw [← hx.1]; rcases hs with h | h <;> rw [h] <;> rfl, by omega, ?_⟩⟩
              · split at hy <;> (simp only [Prod.mk.injEq] at hy; rw [← hy.2]; rfl)
              · by_cases c4 : rj2 < rc2
                · exact .inl c4
                · rw [if_neg (by omega)] at hy
                  simp only [Prod.mk.injEq] at hy
                  exact .inr (hx.1.symm.trans hy.1)
  have HRC := Lib.hid hrc
  have HRJ := Lib.hid hrj
  have HX := Lib.hid hx
  have HY := Lib.hid hy
  clear hrc hrj hx hy
  go_enter Try.func7, Try.ntmps7
  go_wp2_with fail
  refine (alive_any _).mono ?_
  rintro e w1 ⟨rfl, hb⟩
  have HB := Lib.hid hb
  have HRD := Lib.hid (HR.out.below hb)
  clear hb
  go_wp2_with fail
  refine (copy_any _ l _ _ _ _ _ _ HRD.out HN.out hl).mono ?_
  rintro e w2 ⟨he, hb⟩
  rw [HRC.out] at he
  subst he
  replace HB := Lib.hid (below_step HB.out hb)
  replace HRD := Lib.hid (HRD.out.below hb)
  clear hb
  go_wp2_with fail
  refine (copy_any _ l _ _ _ _ _ _ (HRD.out.below (below_alloc _ _)) HN.out hl).mono ?_
  rintro e w3 ⟨he, hb⟩
  rw [HRJ.out] at he
  subst he
  have HX1 := Lib.hid ((Box.new w2 65 _).ext hb)
  replace HB := Lib.hid (below_step HB.out (below_step (below_alloc _ _) hb))
  clear hb
  obtain ⟨p0, p1, p2, p3, pf⟩ := HX1.out.c4
  have hs2 := HX1.out.2.2
  go_wp2_with fail
  refine (decide_any _ _ _ _ _ _ _ _).mono ?_
  rintro e w4 ⟨rfl, hb⟩
  rw [HX.out]
  have HX2 := Lib.hid ((Box.new w3 65 _).ext hb)
  replace HB := Lib.hid (below_step HB.out (below_step (below_alloc _ _) hb))
  clear hb p0 p1 p2 p3 pf
  obtain ⟨q0, q1, q2, q3, qf⟩ := HX2.out.c4
  go_wp2_with fail
  refine (decide_any _ _ _ _ _ _ _ _).mono ?_
  rintro e w5 ⟨rfl, hb⟩
  rw [HY.out]
  replace HB := Lib.hid (below_step HB.out hb)
  clear hb q0 q1 q2 q3 qf
  rcases hcs.out with h1 | ⟨h1, h2⟩ | ⟨h1, h2, h3⟩ | ⟨h1, h2, h3, h4, hbd, ⟨rfl, h5⟩ | ⟨h5, h6, h7 | rfl⟩⟩
  · go_wp2
    go_ret
    exact ⟨rfl, HB.out⟩
  · go_wp2
    go_ret
    exact ⟨rfl, HB.out⟩
  · go_wp2
    go_ret
    exact ⟨rfl, HB.out⟩
  · have h5' : decide (ma < now - t) = true := by simpa using h5
    by_cases h6 : more < ma
    · have h6' : decide (more < ma) = true := by simpa using h6
      go_wp2
      go_ret
      exact ⟨rfl, HB.out⟩
    · have h6' : decide (more < ma) = false := by simpa using h6
      go_wp2
      go_ret
      exact ⟨rfl, HB.out⟩
  · have h6' : decide (ma < now - t) = false := by simpa using h6
    have h7' : decide (more < ma) = true := by simpa using h7
    go_wp2
    go_ret
    exact ⟨rfl, HB.out⟩
  · have h6' : decide (ma < now - t) = false := by simpa using h6
    by_cases h7 : more < ma
    · have h7' : decide (more < ma) = true := by simpa using h7
      go_wp2
      go_ret
      exact ⟨rfl, HB.out⟩
    · have h7' : decide (more < ma) = false := by simpa using h7
      go_wp2
      go_ret
      exact ⟨rfl, HB.out⟩
end Go.Proofs.Ytalmeokljamhdaa
