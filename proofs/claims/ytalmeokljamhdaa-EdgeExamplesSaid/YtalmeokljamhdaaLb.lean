/- Changes: the two checks of changes, and their comparison. -/
import Derived.Test.YtalmeokljamhdaaLa
namespace Go.Proofs.Ytalmeokljamhdaa
open Go.RowKit

set_option maxHeartbeats 1000000 in
theorem checkChanges_any (A : Option Addr) (l : List Chg) (n c : Nat) (w : World) (hr : Rd w A (flat cenc l)) (hn : n = l.length) (hl : n ≤ 1000) :
    Calls Try.prog 35 #[.slice A n c] w fun e w' => e = .returned (.int .i64 (errB (chkC l))) ∧ Below w.heap.size w w' := by
  have HR := Lib.hid hr
  have HN := Lib.hid hn
  clear hr hn
  by_cases h60 : 60 < n
  · have hd : decide (60 < (n : Int)) = true := by simp; omega
    have hfin : Hid (chkC l = false) := by unfold Hid chkC; rw [← HN.out]; simp; omega
    go_enter Try.func35, Try.ntmps35
    go_wp2
    go_ret
    exact ⟨by rw [hfin.out]; rfl, Below.refl _ _⟩
  have hd : decide (60 < (n : Int)) = false := by simp; omega
  rcases badGo_neg l 0 with ⟨hb0, hok⟩ | ⟨hb0, hbad⟩
  · have hb0' : decide (0 ≤ badGo 0 l) = false := by rw [hb0]; rfl
    have HK := Lib.hid hok
    clear hok hb0
    have hfin : Hid (chkC l = srtB l) := by
      unfold Hid chkC
      rw [vGo_eq l 0 HK.out (fun c hc => by
        have := HK.out c (List.mem_of_mem_head? (by simpa using hc))
        simp only [okC, inB, Bool.and_eq_true, decide_eq_true_eq] at this
        omega), ← HN.out]
      simp; omega
    cases hs : srtB l
    all_goals
      have HS := Lib.hid hs
      clear hs
      go_enter Try.func35, Try.ntmps35
      go_wp2_with (first | (go_at_call 71; refine (contains_any _ l _ _ _ HR.out HN.out hl).mono ?_; rintro e w1 ⟨rfl, hb1⟩; have HB1 := Lib.hid hb1; clear hb1; rw [hb0']) | (go_at_call 72; refine (sorted_any _ l _ _ _ (HR.out.below HB1.out) HN.out hl HK.out).mono ?_; rintro e w2 ⟨rfl, hb2⟩; have HB2 := Lib.hid hb2; clear hb2; rw [HS.out]))
      go_ret
      exact ⟨by rw [hfin.out, HS.out]; rfl, below_step HB1.out HB2.out⟩
  · have hb0' : decide (0 ≤ badGo 0 l) = true := by simpa using hb0
    have hfin : Hid (chkC l = false) := by unfold Hid chkC; rw [vGo_bad l 0 hbad]; simp
    clear hb0 hbad
    go_enter Try.func35, Try.ntmps35
    go_wp2_with (go_at_call 71; refine (contains_any _ l _ _ _ HR.out HN.out hl).mono ?_; rintro e w1 ⟨rfl, hb1⟩; have HB1 := Lib.hid hb1; clear hb1; rw [hb0'])
    go_ret
    exact ⟨by rw [hfin.out]; rfl, HB1.out⟩

theorem qWhen {n : Nat} {x : Int} {w : World} : Calls Try.prog 61 #[.int .i64 x] (w.drewN n) fun e w' => e = .returned (.bool (inB 0 1099511627776 x)) ∧ ∃ m, w' = w.drewN m :=
  (when_any x _).mono fun _ _ ⟨h, h'⟩ => ⟨h, n, h'.symm⟩
theorem qPerson {n : Nat} {x : Int} {w : World} : Calls Try.prog 65 #[.int .i64 x] (w.drewN n) fun e w' => e = .returned (.bool (inB 0 63 x)) ∧ ∃ m, w' = w.drewN m :=
  (person_any x _).mono fun _ _ ⟨h, h'⟩ => ⟨h, n, h'.symm⟩

theorem vGo_on {t : Int} {c : Chg} {s r l : List Chg} {t0 : Int} (h : vGo t0 l = vGo t s) (hs : s = c :: r) (h1 : okC c = true) (h2 : t ≤ c.time) : Hid (vGo t0 l = vGo c.time r) := by
  unfold Hid; rw [h, hs, vGo, h1]; simp [h2]
theorem vGo_no {t : Int} {c : Chg} {s r l : List Chg} {t0 : Int} (h : vGo t0 l = vGo t s) (hs : s = c :: r) (h1 : okC c = false ∨ c.time < t) : Hid (vGo t0 l = false) := by
  unfold Hid; rw [h, hs, vGo]
  rcases h1 with h1 | h1
  · simp [h1]
  · have : decide (t ≤ c.time) = false := by simpa using h1
    simp [this]

set_option maxHeartbeats 2000000 in
theorem validChanges_any (A : Option Addr) (l : List Chg) (n c : Nat) (w : World) (hr : Rd w A (flat cenc l)) (hn : n = l.length) (hl : n ≤ 1000) :
    Calls Try.prog 60 #[.slice A n c] w fun e w' => e = .returned (.bool (chkC l)) ∧ Below w.heap.size w w' := by
  have HR := Lib.hid hr
  have HN := Lib.hid hn
  clear hr hn
  by_cases h60 : 60 < n
  · have hd : decide (60 < (n : Int)) = true := by simp; omega
    have hfin : Hid (chkC l = false) := by unfold Hid chkC; rw [← HN.out]; simp; omega
    go_enter Try.func60, Try.ntmps60
    go_wp2
    go_ret
    exact ⟨by rw [hfin.out]; rfl, Below.refl _ _⟩
  have hd : decide (60 < (n : Int)) = false := by simp; omega
  have hchk : Hid (chkC l = vGo 0 l) := by unfold Hid chkC; rw [← HN.out]; simp; omega
  go_enter Try.func60, Try.ntmps60
  go_wp2
  go_loopw [3] (fun u3 wr => ∃ (k : Nat) (t : Int), k ≤ n ∧ u3 = .int .i64 k ∧ Below w.heap.size w wr ∧ Hid (vGo 0 l = vGo t (l.drop k)) ∧ Hid ((k = 0 → t = 0) ∧ ∀ k', k = k' + 1 → ∃ c, l[k']? = some c ∧ c.time = t)) (fun u3 _ => n - (intOf u3).toNat)
  case atStart => exact ⟨0, 0, Nat.zero_le _, rfl, Below.refl _ _, rfl, fun _ => rfl, fun k' h => by omega⟩
  case round =>
    obtain ⟨k, t, hk, rfl, hb, hq, ht⟩ := hrel
    by_cases hlt : k < n
    · have hlt' : k < l.length := by rw [← HN.out]; exact hlt
      obtain ⟨b, off, rfl, hbs, hc0, hc1, hc2⟩ := chg_at HR.out hb hlt'
      have HD := Lib.hid (List.drop_eq_getElem_cons hlt')
      have hnx : Hid (∃ c, l[k]? = some c ∧ c.time = l[k].time) := ⟨l[k], List.getElem?_eq_getElem hlt', rfl⟩
      generalize l[k] = g at hc0 hc1 hc2 HD hnx
      rcases g with ⟨gt, gp, go⟩
      simp only at hc0 hc1 hc2 hnx
      have hkn : (k : Int) < n := by omega
      cases h1 : inB 0 1099511627776 gt
      · have hno := vGo_no hq.out HD.out (.inl (by simp [okC, h1]))
        go_wp2
        go_quiet ((first | (go_at_call 61; exact qWhen) | (go_at_call 65; exact qPerson)))
        go_wp2
        go_ret
        exact ⟨by rw [hchk.out, hno.out]; rfl, below_drewN hb _⟩
      cases h2 : inB 0 63 gp
      · have hno := vGo_no hq.out HD.out (.inl (by simp [okC, h2]))
        go_wp2
        go_quiet ((first | (go_at_call 61; exact qWhen) | (go_at_call 65; exact qPerson)))
        go_wp2
        go_ret
        exact ⟨by rw [hchk.out, hno.out]; rfl, below_drewN hb _⟩
      have hokc : okC ⟨gt, gp, go⟩ = true := by simp [okC, h1, h2]
      have h1' : 0 ≤ gt ∧ gt ≤ 1099511627776 := by simpa [inB] using h1
      by_cases hk0 : 0 < k
      · have hd0 : decide (0 < (k : Int)) = true := by simp; omega
        have hlt1 : k - 1 < l.length := by omega
        obtain ⟨b', off', hA', _, hp, _, _⟩ := chg_at HR.out hb hlt1
        injection hA' with hA'
        injection hA' with hA1 hA2
        subst hA1; subst hA2
        have hpt : l[k - 1].time = t := by
          obtain ⟨g, hg, hgi⟩ := ht.out.2 (k - 1) (by omega)
          rw [List.getElem?_eq_getElem hlt1] at hg
          injection hg with hg
          rw [hg]; exact hgi
        rw [hpt] at hp
        clear hpt
        have e2 : IntKind.i64.wrap ((k : Int) - 1) = (k : Int) - 1 := IntWalk.i64_in _ (by omega)
        have e3 : 0 ≤ (k : Int) - 1 := by omega
        have e4 : ((k : Int) - 1).toNat = k - 1 := by omega
        have e5 : (k : Int) - 1 < n := by omega
        by_cases hs : gt < t
        · have hs' : decide (gt < t) = true := by simpa using hs
          have hno := vGo_no hq.out HD.out (.inr hs)
          clear hokc
          go_wp2
          go_quiet ((first | (go_at_call 61; exact qWhen) | (go_at_call 65; exact qPerson)))
          go_wp2
          go_ret
          exact ⟨by rw [hchk.out, hno.out]; rfl, below_drewN hb _⟩
        · have hs' : decide (gt < t) = false := by simpa using hs
          have hyes := vGo_on hq.out HD.out hokc (by simp only; omega)
          clear hokc
          go_wp2
          go_quiet ((first | (go_at_call 61; exact qWhen) | (go_at_call 65; exact qPerson)))
          clear e2 e3 e4 e5
          go_wp2
          go_roundw
          case rel => exact ⟨k + 1, gt, by omega, by go_num, below_drewN hb _, hyes, fun h => by omega, fun k' h => by obtain rfl : k' = k := (by omega); exact hnx.out⟩
          case measure => simp [intOf]; omega
      · have hd0 : decide (0 < (k : Int)) = false := by simp; omega
        have ht0 : t = 0 := ht.out.1 (by omega)
        have hyes := vGo_on hq.out HD.out hokc (by simp only; omega)
        clear hokc ht0
        go_wp2
        go_quiet ((first | (go_at_call 61; exact qWhen) | (go_at_call 65; exact qPerson)))
        go_wp2
        go_roundw
        case rel => exact ⟨k + 1, gt, by omega, by go_num, below_drewN hb _, hyes, fun h => by omega, fun k' h => by obtain rfl : k' = k := (by omega); exact hnx.out⟩
        case measure => simp [intOf]; omega
    · have hfin : Hid (vGo t (l.drop k) = true) := by
        unfold Hid; rw [List.drop_eq_nil_of_le (by rw [← HN.out]; omega)]; rfl
      go_wp2
      go_ret
      exact ⟨by rw [hchk.out, hq.out, hfin.out]; rfl, hb⟩

set_option maxHeartbeats 400000 in
theorem refCheckChanges_any (A : Option Addr) (l : List Chg) (n c : Nat) (w : World) (hr : Rd w A (flat cenc l)) (hn : n = l.length) (hl : n ≤ 1000) :
    Calls Try.prog 36 #[.slice A n c] w fun e w' => e = .returned (.int .i64 (errB (chkC l))) ∧ Below w.heap.size w w' := by
  have HR := Lib.hid hr
  have HN := Lib.hid hn
  clear hr hn
  cases hb : chkC l
  all_goals
    have HB := Lib.hid hb
    clear hb
    go_enter Try.func36, Try.ntmps36
    go_wp2_with fail
    refine (validChanges_any _ l _ _ _ HR.out HN.out hl).mono ?_
    rintro e w' ⟨rfl, hb⟩
    rw [HB.out]
    go_wp2
    go_ret
    exact ⟨rfl, hb⟩

set_option maxHeartbeats 1000000 in
theorem sameChanges_true (A A' : Option Addr) (l : List Chg) (n c c' : Nat) (w : World) (hr : Rd w A (flat cenc l)) (hr' : Rd w A' (flat cenc l)) (hn : n = l.length) (hl : n ≤ 1000) :
    Calls Try.prog 37 #[.slice A n c, .slice A' n c'] w fun e w' => e = .returned (.bool true) ∧ Below w.heap.size w w' := by
  have HR := Lib.hid hr
  have HR' := Lib.hid hr'
  have HN := Lib.hid hn
  clear hr hr' hn
  go_enter Try.func37, Try.ntmps37
  go_wp2
  go_loopw [5] (fun u5 wr => ∃ (k m : Nat), k ≤ n ∧ u5 = .int .i64 k ∧ wr = w.drewN m) (fun u5 _ => n - (intOf u5).toNat)
  case atStart => exact ⟨0, 0, Nat.zero_le _, rfl, rfl⟩
  case round =>
    obtain ⟨k, m, hk, rfl, rfl⟩ := hrel
    by_cases hlt : k < n
    · have hlt' : k < l.length := by rw [← HN.out]; exact hlt
      obtain ⟨b, off, rfl, hbs, hc0, hc1, hc2⟩ := chg_at HR.out (Below.refl _ _) hlt'
      obtain ⟨b', off', rfl, hbs', hc0', hc1', hc2'⟩ := chg_at HR'.out (Below.refl _ _) hlt'
      generalize l[k] = g at hc0 hc1 hc2 hc0' hc1' hc2'
      rcases g with ⟨gi, gf, gs⟩
      simp only at hc0 hc1 hc2 hc0' hc1' hc2'
      have hk' : (k : Int) < n := by omega
      go_wp2
      go_quiet (fail)
      go_wp2
      go_roundw
      case rel => exact ⟨k + 1, m + nq, by omega, by go_num, rfl⟩
      case measure => simp [intOf]; omega
    · go_wp2
      go_ret
      exact ⟨rfl, below_drewN (Below.refl _ _) _⟩
end Go.Proofs.Ytalmeokljamhdaa
