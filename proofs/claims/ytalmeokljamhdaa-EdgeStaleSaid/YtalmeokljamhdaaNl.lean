/- EdgeStale: offline differs from online only by changes within the staleness. -/
import Derived.Test.YtalmeokljamhdaaNk
import Derived.Test.YtalmeokljamhdaaNf
namespace Go.Proofs.Ytalmeokljamhdaa
open Go.RowKit

/-- What a late change is. -/
def lateOk (p t now ma : Int) (c : Chg) : Prop := c.person = p ∧ t < c.time ∧ c.time ≤ now ∧ now - c.time ≤ ma
/-- Online now, and the last change that was missed. -/
theorem online_late {l : List Chg} {p t now : Int} (hv : chkC l = true) (hp : 0 ≤ p ∧ p ≤ 63) (ht : 0 ≤ t) (htn : t ≤ now) :
    saidF (aftF 0#64 (betF l (-1) now)) p = match (selP p (betF l t now)).getLast? with | some c => (if c.on then 2 else 1) | none => saidF (aftF 0#64 (betF l (-1) t)) p := by
  have h1 : betF l (-1) now = betF l (-1) t ++ betF l t now := betF_split (by omega) htn l 0 (chkC_v hv)
  rw [h1, aftF_append]
  unfold saidF
  rw [aft_sel p hp (betF l t now) _ (fun c hc => chkC_p hv c (betF_mem hc).1)]
  cases (selP p (betF l t now)).getLast? <;> rfl

set_option maxRecDepth 100000 in
set_option maxHeartbeats 8000000 in
theorem edgeStale_walk (A : Option Addr) (l : List Chg) (n c : Nat) (p t ma now key : Int) (w : World) (hr : Rd w A (flat cenc l)) (hn : n = l.length) :
    Calls Try.prog 14 #[.slice A n c, .int .i64 p, .int .i64 t, .int .i64 ma, .int .i64 now, .int .u64 key] w fun e w' => e = .returned (.bool true) ∧ Below w.heap.size w w' := by
  have HR := Lib.hid hr
  have HN := Lib.hid hn
  clear hr hn
  by_cases h60 : 60 < n
  · as_aux_lemma =>
    go_enter Try.func14, Try.ntmps14
    go_wp2_with fail
    refine (alive_any _).mono ?_
    rintro e w1 ⟨rfl, hb⟩
    go_wp2
    go_ret
    exact ⟨rfl, hb⟩
  have hl : n ≤ 1000 := by omega
  have hd60 : decide (60 < (n : Int)) = false := by simp; omega
  obtain ⟨rc1, rc2, rc3, rc4, rc5, hrc⟩ : ∃ a b d e f, copyF l t ma key = (a, b, d, e, f) := ⟨_, _, _, _, _, rfl⟩
  obtain ⟨x1, x2, hx⟩ : ∃ a b, decF rc1 rc2 rc3 rc4 key p now = (a, b) := ⟨_, _, rfl⟩
  have hcs : Hid ((rc5 != 0) = true ∨ ((rc5 != 0) = false ∧ (x2 != 0) = true) ∨ (rc5 = 0 ∧ x2 = 0 ∧ x1 = 3 ∧ ma < now - t ∧ (0 ≤ t ∧ t ≤ 1099511627776 ∧ 0 ≤ now ∧ now ≤ 1099511627776)) ∨
      (rc5 = 0 ∧ x2 = 0 ∧ (x1 = 1 ∨ x1 = 2) ∧ now - t ≤ ma ∧ (0 ≤ t ∧ t ≤ 1099511627776 ∧ 0 ≤ now ∧ now ≤ 1099511627776) ∧ t ≤ now ∧ rc1 = t ∧ onlineF l p t = (x1, 0) ∧
        ∃ y1, onlineF l p now = (y1, 0) ∧ lateF l t p now = (selP p (betF l t now), 0) ∧ (∀ c ∈ selP p (betF l t now), lateOk p t now ma c) ∧
          (((selP p (betF l t now)) = [] ∧ x1 = y1) ∨ ∃ d, (selP p (betF l t now)).getLast? = some d ∧ y1 = if d.on then 2 else 1))) := by
    unfold Hid
    rcases copy_two l t ma key with ⟨K, h, hk⟩ | ⟨h0, h1, h2, h⟩
    · rw [hrc] at h
      simp only [Prod.mk.injEq] at h
      exact .inl (by rw [h.2.2.2.2]; exact hk)
    · rw [hrc] at h
      simp only [Prod.mk.injEq] at h
      obtain ⟨hc1, hc2, hc3, hc4, hc5⟩ := h
      rw [hc1, hc2, hc3, hc4, decF_own h1 h2] at hx
      by_cases c1 : inB 0 63 p = false ∨ inB 0 1099511627776 now = false
      · rw [if_pos c1] at hx
        simp only [Prod.mk.injEq] at hx
        exact .inr (.inl ⟨by rw [hc5]; rfl, by rw [← hx.2]; rfl⟩)
      · rw [if_neg c1] at hx
        by_cases c2 : now < t
        · rw [if_pos c2] at hx
          simp only [Prod.mk.injEq] at hx
          exact .inr (.inl ⟨by rw [hc5]; rfl, by rw [← hx.2]; rfl⟩)
        · rw [if_neg c2] at hx
          have hnow : inB 0 1099511627776 now = true := by
            cases hq : inB 0 1099511627776 now
            · exact absurd (.inr hq) c1
            · rfl
          have hpp : inB 0 63 p = true := by
            cases hq : inB 0 63 p
            · exact absurd (.inl hq) c1
            · rfl
          have ht' : 0 ≤ t ∧ t ≤ 1099511627776 := by simpa [inB] using h1
          have hn' : 0 ≤ now ∧ now ≤ 1099511627776 := by simpa [inB] using hnow
          have hp' : 0 ≤ p ∧ p ≤ 63 := by simpa [inB] using hpp
          by_cases c3 : ma < now - t
          · rw [if_pos c3] at hx
            simp only [Prod.mk.injEq] at hx
            exact .inr (.inr (.inl ⟨hc5, hx.2.symm, hx.1.symm, c3, by omega⟩))
          · rw [if_neg c3] at hx
            simp only [Prod.mk.injEq] at hx
            refine .inr (.inr (.inr ⟨hc5, hx.2.symm, ?_, by omega, by omega, by omega, hc1, ?_, _, onlineF_ok h0 hpp hnow, ?_, ?_, ?_⟩))
            · rw [← hx.1]; exact saidF_two _ _
            · rw [onlineF_ok h0 hpp h1, hx.1]
            · unfold lateF
              rw [if_neg (by rw [h0]; simp), if_neg (by rw [hpp, hnow, h1]; simp), if_neg c2]
            · intro c hc
              obtain ⟨q1, q2⟩ := selP_mem hc
              obtain ⟨_, q3, q4⟩ := betF_mem q1
              exact ⟨q2, q3, q4, by omega⟩
            · have ho := online_late h0 hp' ht'.1 (by omega : t ≤ now)
              cases hgl : (selP p (betF l t now)).getLast? with
              | none =>
                rw [hgl] at ho
                exact .inl ⟨List.getLast?_eq_none_iff.1 hgl, by rw [ho, hx.1]⟩
              | some d =>
                rw [hgl] at ho
                exact .inr ⟨d, rfl, ho⟩
  have HRC := Lib.hid hrc
  have HX := Lib.hid hx
  clear hrc hx
  go_enter Try.func14, Try.ntmps14
  go_wp2_with fail
  refine (alive_any _).mono ?_
  rintro e w1 ⟨rfl, hb⟩
  have HB := Lib.hid hb
  have HRD := Lib.hid (HR.out.below hb)
  clear hb
  go_wp2_with fail
  refine (copy_any _ l _ _ _ _ _ _ HRD.out HN.out hl).mono ?_
  rintro e w2 ⟨he, hb⟩
  rw [HRC.out] at he
  subst he
  replace HB := Lib.hid (below_step HB.out hb)
  replace HRD := Lib.hid (HRD.out.below hb)
  clear hb
  go_wp2_with fail
  refine (decide_any _ _ rc3 _ _ _ _ _).mono ?_
  rintro e w3 ⟨rfl, hb⟩
  rw [HX.out]
  have HXK := Lib.hid ((Box.new w2 65 #[.int .i64 rc1, .int .i64 rc2, .int .u64 rc3.toNat, .int .u64 rc4]).ext hb)
  replace HB := Lib.hid (below_step HB.out (below_step (below_alloc _ _) hb))
  replace HRD := Lib.hid ((HRD.out.below (below_alloc _ _)).below hb)
  clear hb
  rcases hcs.out with h1 | ⟨h1, h2⟩ | ⟨rfl, rfl, rfl, h4, h5⟩ | ⟨rfl, rfl, h3, h4, h5, h6, rfl, e1, y1, e2, e3, e4, e5⟩
  · as_aux_lemma =>
    go_wp2
    go_ret
    exact ⟨rfl, HB.out⟩
  · as_aux_lemma =>
    go_wp2
    go_ret
    exact ⟨rfl, HB.out⟩
  · as_aux_lemma =>
    have h4' : decide (ma < now - t) = true := by simpa using h4
    go_wp2
    go_ret
    exact ⟨rfl, HB.out⟩
  have E1 := Lib.hid e1
  have E2 := Lib.hid e2
  have E3 := Lib.hid e3
  have E4 := Lib.hid e4
  have E5 := Lib.hid e5
  have H3 := Lib.hid h3
  have hx3 : (x1 == 3) = false := by rcases h3 with rfl | rfl <;> rfl
  have hlen : (selP p (betF l rc1 now)).length ≤ 1000 := by have := betF_len l rc1 now; have := selP_len p (betF l rc1 now); have := HN.out; omega
  have h4' : decide (ma < now - rc1) = false := by simpa using h4
  clear e1 e2 e3 e4 e5 h3 hcs
  generalize selP p (betF l rc1 now) = L at *
  go_wp2_with fail
  refine (online_any _ l _ _ _ _ _ HRD.out HN.out hl).mono ?_
  rintro e w4 ⟨rfl, hb⟩
  rw [E1.out]
  replace HB := Lib.hid (below_step HB.out hb)
  replace HRD := Lib.hid (HRD.out.below hb)
  replace HXK := Lib.hid (HXK.out.ext hb)
  clear hb
  go_wp2_with fail
  refine (online_any _ l _ _ _ _ _ HRD.out HN.out hl).mono ?_
  rintro e w5 ⟨rfl, hb⟩
  rw [E2.out]
  replace HB := Lib.hid (below_step HB.out hb)
  replace HRD := Lib.hid (HRD.out.below hb)
  replace HXK := Lib.hid (HXK.out.ext hb)
  clear hb
  obtain ⟨p0, p1, p2, p3, pf⟩ := HXK.out.c4
  go_wp2_with fail
  refine (late_any _ l _ _ _ _ _ _ _ _ _ HRD.out HN.out hl).mono ?_
  rintro e w6 ⟨A6, c6, he, how, hb⟩
  rw [E3.out] at he how
  simp only at he how
  subst he
  have HO := Lib.hid how.rd
  replace HB := Lib.hid (below_step HB.out hb)
  clear how hb p0 p1 p2 p3 pf
  obtain ⟨n6, hn6⟩ : ∃ n6, n6 = L.length := ⟨_, rfl⟩
  rw [← hn6] at hlen ⊢
  have HN6 := Lib.hid hn6
  clear hn6
  have hx12 : (x1 != 1) = false ∨ (x1 != 1) = true ∧ (x1 != 2) = false := by rcases H3.out with rfl | rfl <;> simp
  have HE5 := Lib.hid E5.out
  have HX12 := Lib.hid hx12
  clear hx12
  rcases HX12.out with hy | ⟨hy, hy2⟩
  all_goals
    as_aux_lemma =>
    go_wp2
    go_loopw [122] (fun u wr => ∃ k : Nat, k ≤ n6 ∧ u = .int .i64 k ∧ Hid (Below w6.heap.size w6 wr)) (fun u _ => n6 - (intOf u).toNat)
    case atStart => exact ⟨0, Nat.zero_le _, rfl, Below.refl _ _⟩
    case round =>
      obtain ⟨k, hk, rfl, hb⟩ := hrel
      by_cases hlt : k < n6
      · have hlt' : k < L.length := by rw [← HN6.out]; exact hlt
        obtain ⟨b, off, rfl, hbs, hc0, hc1, hc2⟩ := chg_at HO.out hb.out hlt'
        have hok := E4.out L[k] (List.getElem_mem hlt')
        generalize L[k] = g at hc0 hc1 hc2 hok
        rcases g with ⟨gt, gp, go⟩
        simp only [lateOk] at hc0 hc1 hc2 hok
        obtain ⟨k1, k2, k3, k4⟩ := hok
        have k1' : (gp != p) = false := by simpa using k1
        have k2' : decide (gt ≤ rc1) = false := by simpa using k2
        have k3' : decide (now < gt) = false := by simpa using k3
        have k4' : decide (ma < now - gt) = false := by simpa using k4
        clear k1
        go_wp2
        go_roundw
        case rel => exact ⟨k + 1, by omega, by go_num, hb.out.alloc hb.out.size _⟩
        case measure => simp [intOf]; omega
      · rcases HE5.out with ⟨q1, q2⟩ | ⟨d, q1, q2⟩
        · have hxy : (x1 == y1) = true := by simpa using q2
          clear q1 q2
          go_wp2
          go_ret
          exact ⟨rfl, below_step HB.out hb.out⟩
        · obtain ⟨m, rfl⟩ : ∃ m, n6 = m + 1 := by
            refine ⟨n6 - 1, ?_⟩
            have : L ≠ [] := by rintro rfl; simp at q1
            have := List.length_pos_iff.2 this
            have := HN6.out
            omega
          have hlm : m < L.length := by rw [← HN6.out]; omega
          obtain ⟨b, off, rfl, hbs, hc0, hc1, hc2⟩ := chg_at HO.out hb.out hlm
          rw [List.getLast?_eq_getElem?, ← HN6.out, Nat.add_sub_cancel, List.getElem?_eq_getElem hlm] at q1
          injection q1 with q1
          rw [q1] at hc2
          rcases d with ⟨dt, dp, dn⟩
          simp only at hc2 q2
          have hx1 : (m : Int) + 1 - 1 = m := by omega
          cases hxy : (x1 == y1)
          · cases dn
            · subst q2
              simp only [Bool.false_eq_true, if_false] at hxy ⊢
              go_wp2
              go_ret
              exact ⟨rfl, below_step HB.out hb.out⟩
            · subst q2
              simp only [if_true] at hxy ⊢
              go_wp2
              go_ret
              exact ⟨rfl, below_step HB.out hb.out⟩
          · have Q2 := Lib.hid q2
            clear q2 q1
            go_wp2
            go_ret
            exact ⟨rfl, below_step HB.out hb.out⟩
end Go.Proofs.Ytalmeokljamhdaa
