/- Rates: the thresholds of groups: the reference. No condition. -/
import Derived.Test.YtnalbchggjepdaaGg
import Derived.Test.YtnalbchggjepdaaUe
import Derived.Deep.RegionHeld3
namespace Go.Proofs.Ytnalbchggjepdaa
open Go.RowKit Go.Shelf
attribute [local go_sem] Oper.semAt_some

def limB (ths : List Int) : Bool := decide (ths.length = 8) && frB (-1) 1000 ths
set_option maxRecDepth 100000 in
theorem refLimits_any (A : Option Addr) (l : List Int) (n c : Nat) (w : World) (hr : Rd w A (ints l)) (hn : n = l.length) :
    Calls Try.prog 64 #[.slice A n c] w fun e w' => e = .returned (.bool (limB l)) ∧ Below w.heap.size w w' := by
  by_cases h1 : n = 8
  case neg => as_aux_lemma =>
    have HE := Lib.hid (show limB l = false by unfold limB; rw [decide_eq_false (by omega)]; rfl)
    have h1' : ((n : Int) == 8) = false := by simp; omega
    clear hr hn h1
    go_enter Try.func64, Try.ntmps64
    go_wp2_with fail
    go_ret
    exact ⟨by rw [HE.out]; rfl, Below.refl _ _⟩
  subst h1
  have HE := Lib.hid (show limB l = frB (-1) 1000 (l.drop 0) by unfold limB; rw [decide_eq_true hn.symm]; rfl)
  have HR := Lib.hid hr
  have HN := Lib.hid hn
  clear hr hn
  go_enter Try.func64, Try.ntmps64
  go_wp2_with fail
  go_loopg [3] 8 (fun q u3 wr => ∃ k : Nat, k ≤ 8 ∧ u3 = .int .i64 (k : Nat) ∧ Hid (limB l = frB (-1) 1000 (l.drop k) ∧ k + q = 8 ∧ Own w wr []))
  case atStart => exact ⟨0, Nat.zero_le _, rfl, HE.out, by omega, Own.start w⟩
  case round =>
    obtain ⟨k, hk, rfl, hI⟩ := hrel
    have I0 := Lib.hid hI.out.1
    have I1 := Lib.hid hI.out.2.1
    have I2 := Lib.hid hI.out.2.2
    clear hI HE
    by_cases hlt : k < 8
    · have hlt' : k < l.length := by rw [← HN.out]; exact hlt
      obtain ⟨b, off, rfl, hc0, hbs⟩ := (HR.out.below I2.out.bel).int hlt'
      have HA := Lib.hid (show frB (-1) 1000 (l.drop k) = (inB (-1) 1000 l[k] && frB (-1) 1000 (l.drop (k + 1))) by rw [List.drop_eq_getElem_cons hlt']; rfl)
      generalize l[k] = x at *
      have hki : (k : Int) < 8 := by omega
      cases hx : inB (-1) 1000 x
      · have HA2 := Lib.hid (show limB l = false by rw [I0.out, HA.out, hx]; rfl)
        have HX := Lib.hid hx
        clear hx hlt'
        go_wp2_with (go_at_call 55; refine (within_any _ _ _ _).mono ?_; rintro e w' ⟨rfl, rfl⟩; rw [HX.out])
        go_ret
        exact ⟨by rw [HA2.out]; rfl, I2.out.bel⟩
      · have HA2 := Lib.hid (show limB l = frB (-1) 1000 (l.drop (k + 1)) by rw [I0.out, HA.out, hx]; rfl)
        have HX := Lib.hid hx
        clear hx hlt'
        go_wp2_with (go_at_call 55; refine (within_any _ _ _ _).mono ?_; rintro e w' ⟨rfl, rfl⟩; rw [HX.out])
        go_roundg (gk - 1)
        case measure => have := I1.out; omega
        case rel => exact ⟨k + 1, by omega, by go_num, HA2.out, by have := I1.out; omega, I2.out⟩
    · have hni : ¬ (k : Int) < 8 := by omega
      have HA := Lib.hid (show limB l = true by rw [I0.out, List.drop_eq_nil_of_le (by rw [← HN.out]; omega)]; rfl)
      go_wp2_with fail
      go_ret
      exact ⟨by rw [HA.out]; rfl, I2.out.bel⟩
theorem thsF_take (l : List Dbl) (num den : Int) {g : Nat} (hg : g < 8) : (thsF l num den).take (g + 1) = (thsF l num den).take g ++ [limF (dif l (g : Nat)) num den] := by
  have h : g < (thsF l num den).length := by rw [thsF_len]; exact hg
  have e := thsF_at l num den hg
  rw [List.getElem?_eq_getElem h] at e
  rw [List.take_succ_eq_append_getElem h, Option.some.inj e]
set_option maxRecDepth 100000 in
set_option maxHeartbeats 8000000 in
theorem refThresholds_any (A : Option Addr) (l : List Dbl) (n c : Nat) (num den : Int) (w : World) (hr : Rd w A (flat encD l)) (hn : n = l.length) (hl : n ≤ 1000000) :
    Calls Try.prog 35 #[.slice A n c, .agg #[.int .i64 num, .int .i64 den]] w fun e w' => ∃ A' c', e = .returned (.tuple #[.slice A' (thsN l num den) c', .int .i64 (thsE l num den)]) ∧ Own w w' [row 3 1 (.slice A' (thsN l num den) c') (thsN l num den) (ints (thsR l num den))] := by
  obtain ⟨B0, hB0⟩ : ∃ B, B = w.heap.size := ⟨_, rfl⟩
  have S0 := Lib.hid ((Own.start w).new' 23 #[.int .i64 num, .int .i64 den] hB0)
  replace hB0 := Lib.hid hB0
  have K1 := Lib.hid (refTrials_any A l n c _ (hr.below S0.out.bel) hn hl)
  by_cases h0 : trlE l = 0
  case neg => as_aux_lemma =>
    have HE := Lib.hid (show thsE l num den = trlE l by unfold thsE; rw [if_neg h0])
    have HC := Lib.hid (show thsR l num den = [] ∧ thsN l num den = 0 by unfold thsR thsN; rw [HE.out, if_neg h0, if_neg h0]; exact ⟨rfl, rfl⟩)
    rw [HE.out, HC.out.1, HC.out.2]
    generalize trlE l = v at *
    have h0' : (v == 0) = false := by simpa using h0
    clear hr hn h0
    go_enter Try.func35, Try.ntmps35
    go_wp2_with fail
    refine K1.out.mono ?_
    rintro e w1 ⟨rfl, hb1⟩
    have S1 := Lib.hid ((S0.out.ext hb1).nil 3 1)
    clear hb1 K1 S0
    go_wp2_with fail
    go_ret2
    exact ⟨none, 0, rfl, S1.out.sub [0] (by decide) rfl⟩
  rw [h0] at K1
  obtain ⟨b1, b2, b3⟩ := trlE_ok h0
  have K2 := Lib.hid (fun W => validShare_any num den W)
  cases h2 : shareB num den
  · as_aux_lemma =>
    have HE := Lib.hid (show thsE l num den = 2 by unfold thsE; rw [if_pos h0, h2]; rfl)
    have HC := Lib.hid (show thsR l num den = [] ∧ thsN l num den = 0 by unfold thsR thsN; rw [HE.out]; exact ⟨rfl, rfl⟩)
    rw [HE.out, HC.out.1, HC.out.2]
    rw [h2] at K2
    clear hr hn h0 h2 b1 b2 b3
    go_enter Try.func35, Try.ntmps35
    go_wp2_with fail
    refine K1.out.mono ?_
    rintro e w1 ⟨rfl, hb1⟩
    have S1 := Lib.hid (S0.out.ext hb1)
    clear hb1 K1 S0
    rw [← hB0.out]
    obtain ⟨c0, c1, _⟩ := (S1.out.bx 0 rfl).c2
    go_wp2_with fail
    refine (K2.out _).mono ?_
    rintro e w2 ⟨rfl, hb2⟩
    have S2 := Lib.hid ((S1.out.ext hb2).nil 3 1)
    clear hb2 K2 S1 c0 c1
    go_wp2_with fail
    go_ret2
    exact ⟨none, 0, rfl, S2.out.sub [0] (by decide) rfl⟩
  have HE := Lib.hid (show thsE l num den = 0 by unfold thsE; rw [if_pos h0, h2]; rfl)
  have HC := Lib.hid (show thsR l num den = thsF l num den ∧ thsN l num den = 8 by unfold thsR thsN; rw [HE.out]; exact ⟨rfl, rfl⟩)
  rw [HE.out, HC.out.1, HC.out.2]
  rw [h2] at K2
  obtain ⟨s1, s2⟩ := share_of h2
  have K63 := Lib.hid (fun (g : Nat) W (hb : Below w.heap.size w W) => different_any A l n c (g : Nat) W (hr.below hb) hn hl)
  have K59 := Lib.hid (fun A2 (g : Nat) cc W (h : Rd W A2 (ints (dif l (g : Nat)))) => refLimit_any A2 (dif l (g : Nat)) (dif l (g : Nat)).length cc num den W h rfl (by have := dif_len l (g : Nat); omega) (dif_fr b2 (g : Nat)) s1 s2)
  clear hr hn h0 h2 s1 s2 b1 b2 b3 HE HC
  go_enter Try.func35, Try.ntmps35
  go_wp2_with fail
  refine K1.out.mono ?_
  rintro e w1 ⟨rfl, hb1⟩
  have S1 := Lib.hid (S0.out.ext hb1)
  clear hb1 K1 S0
  rw [← hB0.out]
  obtain ⟨c0, c1, _⟩ := (S1.out.bx 0 rfl).c2
  go_wp2_with fail
  refine (K2.out _).mono ?_
  rintro e w2 ⟨rfl, hb2⟩
  have S2 := Lib.hid ((S1.out.ext hb2).nil 3 1)
  clear hb2 K2 S1 c0 c1
  go_wp2_with fail
  go_loopg [7, 8] 8 (fun q u7 u8 wr => ∃ g : Nat, ∃ A7 c7, g ≤ 8 ∧ u8 = .int .i64 (g : Nat) ∧ u7 = .slice A7 g c7 ∧ Hid (g + q = 8 ∧ Own w wr [row 3 1 (.slice A7 g c7) g (ints ((thsF l num den).take g)), box B0 23 [.int .i64 num, .int .i64 den]]))
  case atStart => exact ⟨0, none, 0, Nat.zero_le _, rfl, rfl, by omega, S2.out⟩
  case round =>
    obtain ⟨g, A7, c7, hg, rfl, rfl, hI⟩ := hrel
    have I1 := Lib.hid hI.out.1
    have I2 := Lib.hid hI.out.2
    clear hI S2
    by_cases hlt : g < 8
    case neg => as_aux_lemma =>
      obtain rfl : g = 8 := by omega
      have HT := Lib.hid (show (thsF l num den).take 8 = thsF l num den by rw [List.take_of_length_le (by rw [thsF_len]; exact Nat.le_refl _)])
      rw [HT.out] at I2
      go_wp2_with fail
      go_ret2
      exact ⟨A7, c7, rfl, I2.out.sub [0] (by decide) rfl⟩
    as_aux_lemma =>
    have hgi : (g : Int) < 8 := by omega
    have z1 : IntKind.i64.wrap ((g : Int) + 1) = ((g + 1 : Nat) : Int) := by rw [show (g : Int) + 1 = ((g + 1 : Nat) : Int) by omega]; exact IntWalk.i64_in _ (by omega)
    have HT := Lib.hid (thsF_take l num den hlt)
    have K7 := Lib.hid (fun W (hb : Below w.heap.size w W) => K63.out g W hb)
    have K8 := Lib.hid (fun A2 cc W h => K59.out A2 g cc W h)
    clear K63 K59
    generalize limF (dif l (g : Nat)) num den = t at *
    generalize dif l (g : Nat) = X at *
    generalize hm : X.length = m at *
    clear hm
    generalize hT1 : (thsF l num den).take (g + 1) = T1 at *
    replace hT1 := Lib.hid hT1
    generalize (thsF l num den).take g = T0 at *
    have HX := Lib.hid (show ints T0 ++ [.int .i64 t] = ints T1 by rw [HT.out, ints_app])
    clear HT
    obtain ⟨c0, c1, _⟩ := (I2.out.bx 1 rfl).c2
    go_upto_region 10 with (fail)
    go_region_held3 (fun w' => w'.cell? ⟨B0, 0, none⟩ = some (.int .i64 num) ∧ w'.cell? ⟨B0, 1, none⟩ = some (.int .i64 den)) (first | go_keep | exact ⟨(HO9.out.bx 2 rfl).1 0 _ rfl, (HO9.out.bx 2 rfl).1 1 _ rfl⟩ | exact ⟨(HO8.out.bx 2 rfl).1 0 _ rfl, (HO8.out.bx 2 rfl).1 1 _ rfl⟩ | exact ⟨(HO7.out.bx 2 rfl).1 0 _ rfl, (HO7.out.bx 2 rfl).1 1 _ rfl⟩) (first | (go_at_call 63; refine (K7.out _ (I2.out.ext (Below.refl _ _).drew).bel).mono ?_; rintro e w7 ⟨A8, c8, rfl, hO7⟩; have HO7 := Lib.hid ((I2.out.ext (Below.refl _ _).drew).call hO7); clear hO7) | (go_at_call 59; refine (K8.out A8 c8 _ (HO7.out.rd 0 rfl)).mono ?_; rintro e w8 ⟨rfl, hb8⟩; have HO8 := Lib.hid (HO7.out.ext hb8); clear hb8) | (refine step_appP rfl (.tmp 21) (.tmp 27) 36 rfl st36 1 (HO8.out.ext (below_alloc w8 (.cells #[.int .i64 t] 3))) rfl rfl rfl (g + 1) (ints T1) ?_ [.int .i64 t] rfl HX.out (Rd.new w8 #[.int .i64 t] 3) rfl (by simp [Value.oneCell']) (by unfold maxLen; omega) (by omega); intro A9 c9 w9 hO9; have HO9 := Lib.hid hO9; clear hO9))
    go_wp2_with fail
    go_roundg (gk - 1)
    case measure => have := I1.out; omega
    case rel => exact ⟨g + 1, A9, c9, by omega, rfl, rfl, by have := I1.out; omega, by rw [hT1.out]; exact HO9.out.sub [1, 2] (by decide) rfl⟩
end Go.Proofs.Ytnalbchggjepdaa
