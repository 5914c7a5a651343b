/- EdgeLast: the last change about a person counts. -/
import Derived.Test.YtalmeokljamhdaaNb
namespace Go.Proofs.Ytalmeokljamhdaa
open Go.RowKit

def onGo (p t : Int) (o : Bool) (c : Chg) : Bool := if c.time ≤ t ∧ c.person = p then c.on else o
def onF (l : List Chg) (p t : Int) : Bool := l.foldl (onGo p t) false
theorem onF_snoc (l : List Chg) (p t : Int) (c : Chg) : onF (l ++ [c]) p t = onGo p t (onF l p t) c := by simp [onF]
theorem stepC_get (s : BitVec 64) (c : Chg) (p : Int) (hc : 0 ≤ c.person ∧ c.person ≤ 63) (hp : 0 ≤ p ∧ p ≤ 63) : (stepC s c).getLsbD p.toNat = if c.person = p then c.on else s.getLsbD p.toNat := by
  have hpl : p.toNat < 64 := by omega
  unfold stepC bitC
  by_cases h : c.person = p
  · rw [if_pos h]
    subst h
    cases hon : c.on
    · rw [if_neg (by simp), BitVec.getLsbD_and, BitVec.getLsbD_not, bit64_get _ _ (by omega)]
      simp
    · rw [if_pos rfl, BitVec.getLsbD_or, bit64_get _ _ (by omega)]
      simp
  · rw [if_neg h]
    have hne : ¬ p.toNat = c.person.toNat := by omega
    cases hon : c.on
    · rw [if_neg (by simp), BitVec.getLsbD_and, BitVec.getLsbD_not, bit64_get _ _ (by omega)]
      simp [hne, hpl]
    · rw [if_pos rfl, BitVec.getLsbD_or, bit64_get _ _ (by omega)]
      simp [hne]
theorem aft_on (p t : Int) (hp : 0 ≤ p ∧ p ≤ 63) : ∀ (l : List Chg) (s : BitVec 64), (∀ c ∈ l, okC c = true) → (aftF s (betF l (-1) t)).getLsbD p.toNat = l.foldl (onGo p t) (s.getLsbD p.toNat)
  | [], s, _ => rfl
  | c :: l, s, h => by
    have hc := okC_p (h c (by simp))
    have ht : 0 ≤ c.time := by
      have := h c (by simp)
      simp only [okC, inB, Bool.and_eq_true, decide_eq_true_eq] at this
      omega
    have ih := fun s => aft_on p t hp l s (fun d hd => h d (by simp [hd]))
    rw [List.foldl_cons]
    by_cases hle : c.time ≤ t
    · have hb : betF (c :: l) (-1) t = c :: betF l (-1) t := by
        unfold betF; rw [List.filter_cons, if_pos (by simp; omega)]
      rw [hb]
      show (aftF (stepC s c) (betF l (-1) t)).getLsbD p.toNat = _
      rw [ih, stepC_get s c p hc hp]
      congr 1
      unfold onGo
      by_cases h2 : c.person = p <;> simp [h2, hle]
    · have hb : betF (c :: l) (-1) t = betF l (-1) t := by
        unfold betF; rw [List.filter_cons, if_neg (by simp; omega)]
      rw [hb, ih]
      congr 1
      unfold onGo
      rw [if_neg (by omega)]
theorem list_on {l : List Chg} {p t : Int} (hv : chkC l = true) (hp : 0 ≤ p ∧ p ≤ 63) : (aftF 0#64 (betF l (-1) t)).getLsbD p.toNat = onF l p t := by
  rw [aft_on p t hp l 0#64 (chkC_ok hv)]
  simp [onF]
theorem bits_get (s : BitVec 64) (k : Nat) : (bits .and .u64 ((s.toNat : Int) / 2 ^ k) 1 == 1) = s.getLsbD k := by
  have h1 : ((s.toNat : Int) / 2 ^ k) = ((s >>> k).toNat : Int) := by
    rw [BitVec.toNat_ushiftRight, Nat.shiftRight_eq_div_pow]; simp
  have h2 : (1 : Int) = ((1#64).toNat : Int) := rfl
  rw [h1, h2, bits_and64, Bool.eq_iff_iff, beq_iff_eq]
  have h3 : ((s >>> k) &&& 1#64).toNat = s.toNat / 2 ^ k % 2 := by
    rw [BitVec.toNat_and, BitVec.toNat_ushiftRight, Nat.shiftRight_eq_div_pow]
    exact Nat.and_one_is_mod _
  rw [h3, ← BitVec.testBit_toNat, Nat.testBit_eq_decide_div_mod_eq]
  generalize s.toNat / 2 ^ k = q
  rw [decide_eq_true_eq, ← h2]
  omega

set_option maxRecDepth 100000 in
set_option maxHeartbeats 4000000 in
theorem edgeLast_walk (A : Option Addr) (l : List Chg) (n c : Nat) (p t : Int) (w : World) (hr : Rd w A (flat cenc l)) (hn : n = l.length) :
    Calls Try.prog 13 #[.slice A n c, .int .i64 p, .int .i64 t] w fun e w' => e = .returned (.bool true) ∧ Below w.heap.size w w' := by
  have HR := Lib.hid hr
  have HN := Lib.hid hn
  clear hr hn
  by_cases h60 : 60 < n
  · go_enter Try.func13, Try.ntmps13
    go_wp2_with fail
    refine (alive_any _).mono ?_
    rintro e w1 ⟨rfl, hb⟩
    go_wp2
    go_ret
    exact ⟨rfl, hb⟩
  have hl : n ≤ 1000 := by omega
  have hd60 : decide (60 < (n : Int)) = false := by simp; omega
  obtain ⟨x1, x2, hx⟩ : ∃ a b, listF l t = (a, b) := ⟨_, _, rfl⟩
  obtain ⟨y1, y2, hy⟩ : ∃ a b, onlineF l p t = (a, b) := ⟨_, _, rfl⟩
  have hcs : Hid ((x2 != 0) = true ∨ ((x2 != 0) = false ∧ (y2 != 0) = true) ∨ ((x2 != 0) = false ∧ (y2 != 0) = false ∧ (0 ≤ p ∧ p ≤ 63) ∧ x1.getLsbD p.toNat = onF l p t ∧ y1 = if onF l p t then 2 else 1)) := by
    unfold Hid
    cases hv : chkC l
    · rw [listF_bad hv] at hx
      simp only [Prod.mk.injEq] at hx
      exact .inl (by rw [← hx.2]; rfl)
    · cases ht : inB 0 1099511627776 t
      · rw [listF_arg hv ht] at hx
        simp only [Prod.mk.injEq] at hx
        exact .inl (by rw [← hx.2]; rfl)
      · rw [listF_ok hv ht] at hx
        simp only [Prod.mk.injEq] at hx
        cases hp : inB 0 63 p
        · rw [onlineF_arg hv (.inl hp)] at hy
          simp only [Prod.mk.injEq] at hy
          exact .inr (.inl ⟨by rw [← hx.2]; rfl, by rw [← hy.2]; rfl⟩)
        · rw [onlineF_ok hv hp ht] at hy
          simp only [Prod.mk.injEq] at hy
          have hp' : 0 ≤ p ∧ p ≤ 63 := by simpa [inB] using hp
          refine .inr (.inr ⟨by rw [← hx.2]; rfl, by rw [← hy.2]; rfl, hp', ?_, ?_⟩)
          · rw [← hx.1]; exact list_on hv hp'
          · rw [← hy.1, saidF, list_on hv hp']
  have HX := Lib.hid hx
  have HY := Lib.hid hy
  clear hx hy
  go_enter Try.func13, Try.ntmps13
  go_wp2_with fail
  refine (alive_any _).mono ?_
  rintro e w1 ⟨rfl, hb⟩
  have HB := Lib.hid hb
  have HRD := Lib.hid (HR.out.below hb)
  clear hb
  go_wp2_with fail
  refine (list_any _ l _ _ _ _ HRD.out HN.out hl).mono ?_
  rintro e w2 ⟨rfl, hb⟩
  rw [HX.out]
  replace HB := Lib.hid (below_step HB.out hb)
  replace HRD := Lib.hid (HRD.out.below hb)
  clear hb
  go_wp2_with fail
  refine (online_any _ l _ _ _ _ _ HRD.out HN.out hl).mono ?_
  rintro e w3 ⟨rfl, hb⟩
  rw [HY.out]
  replace HB := Lib.hid (below_step HB.out hb)
  replace HRD := Lib.hid (HRD.out.below hb)
  clear hb
  rcases hcs.out with h1 | ⟨h1, h2⟩ | ⟨h1, h2, hp, h3, h4⟩
  · go_wp2
    go_ret
    exact ⟨rfl, HB.out⟩
  · go_wp2
    go_ret
    exact ⟨rfl, HB.out⟩
  have H3 := Lib.hid h3
  have H4 := Lib.hid h4
  have hp0 := hp.1
  have hp1 := hp.2
  clear h3 h4 hp hcs
  go_wp2
  go_loopw [12, 52] (fun u12 u52 wr => ∃ k : Nat, k ≤ n ∧ u52 = .int .i64 k ∧ Hid (u12 = .bool (onF (l.take k) p t)) ∧ Hid (Below w3.heap.size w3 wr)) (fun _ u52 _ => n - (intOf u52).toNat)
  case atStart => exact ⟨0, Nat.zero_le _, rfl, rfl, Below.refl _ _⟩
  case round =>
    obtain ⟨k, hk, rfl, h12, hb⟩ := hrel
    have h12' := h12.out
    subst h12'
    by_cases hlt : k < n
    · have hlt' : k < l.length := by rw [← HN.out]; exact hlt
      obtain ⟨b, off, rfl, hbs, hc0, hc1, hc2⟩ := chg_at HRD.out hb.out hlt'
      have HT := Lib.hid (take_snocC l hlt')
      have HO := Lib.hid (onF_snoc (l.take k) p t l[k])
      generalize l[k] = g at hc0 hc1 hc2 HT HO
      rcases g with ⟨gt, gp, go⟩
      simp only at hc0 hc1 hc2
      generalize onF (l.take k) p t = O at HO ⊢
      by_cases h5 : gt ≤ t
      · have h5' : decide (gt ≤ t) = true := by simpa using h5
        cases h6 : (gp == p)
        · have hO : Hid (onF (l.take (k + 1)) p t = O) := by
            unfold Hid; rw [HT.out, HO.out]; unfold onGo; rw [if_neg]; simp at h6 ⊢; exact fun _ => h6
          go_wp2
          go_roundw
          case rel => exact ⟨k + 1, by omega, by go_num, (by unfold Hid; rw [hO.out]), hb.out.alloc hb.out.size _⟩
          case measure => simp [intOf]; omega
        · have hO : Hid (onF (l.take (k + 1)) p t = go) := by
            unfold Hid; rw [HT.out, HO.out]; unfold onGo; rw [if_pos]; simp at h6 ⊢; exact ⟨h5, h6⟩
          go_wp2
          go_roundw
          case rel => exact ⟨k + 1, by omega, by go_num, (by unfold Hid; rw [hO.out]), hb.out.alloc hb.out.size _⟩
          case measure => simp [intOf]; omega
      · have h5' : decide (gt ≤ t) = false := by simpa using h5
        have hO : Hid (onF (l.take (k + 1)) p t = O) := by
          unfold Hid; rw [HT.out, HO.out]; unfold onGo; rw [if_neg]; simp only; omega
        go_wp2
        go_roundw
        case rel => exact ⟨k + 1, by omega, by go_num, (by unfold Hid; rw [hO.out]), hb.out.alloc hb.out.size _⟩
        case measure => simp [intOf]; omega
    · have hfin : Hid (l.take k = l) := List.take_of_length_le (by rw [← HN.out]; omega)
      rw [hfin.out]
      have hbg := bits_get x1 p.toNat
      rw [H3.out] at hbg
      have H4' := H4.out
      generalize onF l p t = O at hbg H4' ⊢
      subst H4'
      cases O
      · simp only [Bool.false_eq_true, if_false]
        go_wp2
        go_ret
        exact ⟨rfl, below_step HB.out hb.out⟩
      · simp only [if_true]
        go_wp2
        go_ret
        exact ⟨rfl, below_step HB.out hb.out⟩
end Go.Proofs.Ytalmeokljamhdaa
