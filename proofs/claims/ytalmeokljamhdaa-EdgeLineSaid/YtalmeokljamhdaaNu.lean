/- EdgeLine: whom Call takes, and what it leaves. -/
import Derived.Test.YtalmeokljamhdaaNt
namespace Go.Proofs.Ytalmeokljamhdaa
open Go.RowKit

def freeF (lim : Int) (l : List Gst) : Bool := l.all fun g => decide (g.skips < lim)
theorem freeF_snoc (lim : Int) (l : List Gst) (g : Gst) : freeF lim (l ++ [g]) = (freeF lim l && decide (g.skips < lim)) := by simp [freeF]
theorem take_snocG (l : List Gst) {k : Nat} (hk : k < l.length) : l.take (k + 1) = l.take k ++ [l[k]] := List.take_succ_eq_append_getElem hk

set_option maxRecDepth 100000 in
set_option maxHeartbeats 8000000 in
theorem edgeLine_walk (lim next : Int) (A : Option Addr) (l : List Gst) (n c : Nat) (w : World) (hr : Rd w A (flat genc l)) (hn : n = l.length) (hcap : n ≤ c) :
    Calls Try.prog 10 #[.agg #[.int .i64 lim, .int .i64 next, .slice A n c]] w fun e w' => e = .returned (.bool true) ∧ Below w.heap.size w w' := by
  have HR := Lib.hid hr
  have HN := Lib.hid hn
  clear hr hn
  by_cases h50 : 50 < n
  · as_aux_lemma =>
    go_enter Try.func10, Try.ntmps10
    go_wp2_with fail
    refine (alive_any _).mono ?_
    rintro e w1 ⟨rfl, hb⟩
    obtain ⟨p0, p1, p2, pf⟩ := ((Box.new w 24 _).ext hb).c3
    go_wp2
    go_ret
    exact ⟨rfl, below_step (below_alloc _ _) hb⟩
  have hl : n ≤ 1000 := by omega
  have hd50 : decide (50 < (n : Int)) = false := by simp; omega
  have hd50' : decide (50 < n) = false := by simp; omega
  rcases callF_two lim next l with ⟨K, hcf, hK⟩ | ⟨p, g0, hv, hg0, ht, hcf⟩
  · as_aux_lemma =>
    have HCF := Lib.hid hcf
    have hk0 : (K != 0) = true := by rcases hK with rfl | ⟨rfl, _⟩ <;> decide
    have HK : Hid ((K == 8) = true ∨ (K == 8) = false ∧ (K == 6) = true ∧ n = 0) := by
      rcases hK with rfl | ⟨rfl, h⟩
      · exact .inl rfl
      · exact .inr ⟨rfl, rfl, by rw [HN.out]; exact h⟩
    clear hcf hK
    go_enter Try.func10, Try.ntmps10
    go_wp2_with fail
    refine (alive_any _).mono ?_
    rintro e w1 ⟨rfl, hb⟩
    have HB := Lib.hid (below_step (below_alloc w _) hb)
    have HQ := Lib.hid ((Box.new w 24 #[.int .i64 lim, .int .i64 next, .slice A n c]).ext hb)
    clear hb
    obtain ⟨p0, p1, p2, pf⟩ := HQ.out.c3
    go_wp2_with fail
    refine (call_any lim next A l n c _ (HR.out.below HB.out) HN.out hl hcap).mono ?_
    rintro e w2 ⟨A2, c2, he, how, hb⟩
    rw [HCF.out] at he
    simp only [List.length_nil] at he
    subst he
    replace HB := Lib.hid (below_step HB.out hb)
    replace HQ := Lib.hid (HQ.out.ext hb)
    have hs2 := HQ.out.2.2
    clear hb how p0 p1 p2 pf
    obtain ⟨p0, p1, p2, pf⟩ := HQ.out.c3
    rcases HK.out with h1 | ⟨h1, h2, h3⟩
    · go_wp2
      go_ret
      exact ⟨rfl, below_more HB.out _⟩
    · subst h3
      go_wp2
      go_ret
      exact ⟨rfl, below_more HB.out _⟩
  have hp : p < l.length := (List.getElem?_eq_some_iff.1 hg0).1
  have hpn : p < n := by rw [HN.out]; exact hp
  have HV := Lib.hid hv
  have HG0 := Lib.hid hg0
  have HT := Lib.hid ht
  have HCF := Lib.hid hcf
  have HXL := Lib.hid (remL_len hp)
  have HXV := Lib.hid (chkQ_rem hv hp ht)
  have hq2 : qGo next (-1) lim l = true := by simp only [chkQ, Bool.and_eq_true] at hv; exact hv.2
  have hlim : 0 ≤ lim ∧ lim ≤ 8 := by simp only [chkQ, Bool.and_eq_true, inB, decide_eq_true_eq] at hv; exact hv.1.1.1
  have HQ2 := Lib.hid hq2
  clear hv hg0 ht hcf hq2 hp
  go_enter Try.func10, Try.ntmps10
  go_wp2_with fail
  refine (alive_any _).mono ?_
  rintro e w1 ⟨rfl, hb⟩
  have HB := Lib.hid (below_step (below_alloc w _) hb)
  have HQ := Lib.hid ((Box.new w 24 #[.int .i64 lim, .int .i64 next, .slice A n c]).ext hb)
  clear hb
  obtain ⟨p0, p1, p2, pf⟩ := HQ.out.c3
  go_wp2_with fail
  refine (call_any lim next A l n c _ (HR.out.below HB.out) HN.out hl hcap).mono ?_
  rintro e w2 ⟨A2, c2, he, how, hb⟩
  rw [HCF.out] at he how
  simp only at he how
  rw [HXL.out, ← HN.out] at he
  subst he
  have HX := Lib.hid how.rd
  replace HB := Lib.hid (below_step HB.out hb)
  replace HQ := Lib.hid (HQ.out.ext hb)
  have hs2 := HQ.out.2.2
  clear hb how p0 p1 p2 pf
  obtain ⟨p0, p1, p2, pf⟩ := HQ.out.c3
  obtain ⟨m, rfl⟩ : ∃ m, n = m + 1 := ⟨n - 1, by omega⟩
  rw [show m + 1 - 1 = m from by omega]
  go_wp2
  clear p0 p1 p2 pf
  have hS := Box.new w2 24 #[.int .i64 lim, .int .i64 next, .slice A2 m c2]
  replace HB := Lib.hid (below_more HB.out (.cells #[.int .i64 lim, .int .i64 next, .slice A2 m c2] 24))
  replace HQ := Lib.hid (HQ.out.alloc (.cells #[.int .i64 lim, .int .i64 next, .slice A2 m c2] 24))
  replace HX := Lib.hid (HX.out.below (below_alloc w2 (.cells #[.int .i64 lim, .int .i64 next, .slice A2 m c2] 24)))
  generalize w2.alloc (.cells #[.int .i64 lim, .int .i64 next, .slice A2 m c2] 24) = W at *
  have HS := Lib.hid hS
  have hsW : w2.heap.size < W.heap.size := hS.2.2
  clear hS
  have HRW := Lib.hid (HR.out.below HB.out)
  go_loopw [7, 49] (fun u7 u49 wr => ∃ k : Nat, k ≤ m + 1 ∧ u49 = .int .i64 k ∧ Hid (u7 = .int .i64 (if k ≤ p then -1 else p)) ∧ Hid (Below W.heap.size W wr)) (fun _ u49 _ => m + 1 - (intOf u49).toNat)
  case atStart => exact ⟨0, Nat.zero_le _, rfl, rfl, Below.refl _ _⟩
  case round =>
    obtain ⟨k, hk, rfl, h7, hb⟩ := hrel
    have h7' := h7.out
    subst h7'
    by_cases hlt : k < m + 1
    · as_aux_lemma =>
      have hlt' : k < l.length := by rw [← HN.out]; exact hlt
      obtain ⟨b, off, rfl, hbs, hc0, hc1, hc2⟩ := gst_at HRW.out hb.out hlt'
      have hge : l[k]? = some l[k] := List.getElem?_eq_getElem hlt'
      have hid : k ≠ p → (l[k].id == g0.id) = false := by
        intro hne
        rw [beq_eq_false_iff_ne]
        rcases Nat.lt_or_gt_of_ne hne with h | h
        · have := qGo_lt HQ2.out k p _ _ h hge HG0.out; omega
        · have := qGo_lt HQ2.out p k _ _ h HG0.out hge; omega
      have hid2 : k = p → l[k].id = g0.id := by
        intro h
        subst h
        rw [hge] at HG0
        have := HG0.out
        injection this with this
        rw [this]
      have HID := Lib.hid hid
      have HID2 := Lib.hid hid2
      clear hid hid2 hge
      generalize l[k] = x at hc0 hc1 hc2 HID HID2
      rcases x with ⟨xi, xf, xs⟩
      simp only at hc0 hc1 hc2 HID HID2
      have hkm : (k : Int) < (m : Int) + 1 := by omega
      rcases Nat.lt_trichotomy k p with h | h | h
      · have h1 := HID.out (by omega)
        rw [if_pos (by omega)]
        go_wp2
        go_roundw
        case rel => exact ⟨k + 1, by omega, by go_num, (by unfold Hid; rw [if_pos (by omega)]), hb.out.alloc hb.out.size _⟩
        case measure => simp [intOf]; omega
      · have h1 := HID2.out h
        subst h
        subst h1
        rw [if_pos (by omega)]
        go_wp2
        go_roundw
        case rel => exact ⟨k + 1, by omega, by go_num, (by unfold Hid; rw [if_neg (by omega)]), hb.out.alloc hb.out.size _⟩
        case measure => simp [intOf]; omega
      · have h1 := HID.out (by omega)
        rw [if_neg (by omega)]
        go_wp2
        go_roundw
        case rel => exact ⟨k + 1, by omega, by go_num, (by unfold Hid; rw [if_neg (by omega)]), hb.out.alloc hb.out.size _⟩
        case measure => simp [intOf]; omega
    · rw [if_neg (by omega)]
      obtain ⟨X, hX⟩ : ∃ X : World, X = wr := ⟨_, rfl⟩
      subst hX
      have HB1 := Lib.hid (below_step HB.out hb.out)
      have HQ1 := Lib.hid (HQ.out.ext hb.out)
      have HS1 := Lib.hid (HS.out.ext hb.out)
      have HX1 := Lib.hid (HX.out.below hb.out)
      have HR1 := Lib.hid (HRW.out.below hb.out)
      clear HB HQ HS HX HRW hb h7
      obtain ⟨p0, p1, p2, pf⟩ := HQ1.out.c3
      obtain ⟨q0, q1, q2, qf⟩ := HS1.out.c3
      have hp0 : decide ((p : Int) < 0) = false := by simp
      go_wp2_with fail
      refine (checkQueue_any lim next A2 (remL l p) m c2 _ HX1.out (by rw [HXL.out, ← HN.out]; omega) (by omega)).mono ?_
      rintro e w3 ⟨rfl, hb⟩
      rw [HXV.out]
      simp only [errB, if_true]
      replace HB1 := Lib.hid (below_step HB1.out hb)
      replace HQ1 := Lib.hid (HQ1.out.ext hb)
      replace HS1 := Lib.hid (HS1.out.ext hb)
      replace HX1 := Lib.hid (HX1.out.below hb)
      replace HR1 := Lib.hid (HR1.out.below hb)
      clear hb p0 p1 p2 pf q0 q1 q2 qf
      obtain ⟨p0, p1, p2, pf⟩ := HQ1.out.c3
      obtain ⟨q0, q1, q2, qf⟩ := HS1.out.c3
      go_wp2
      clear p0 p1 p2 pf q0 q1 q2 qf
      go_loopw [10, 98] (fun u10 u98 wr => ∃ k : Nat, k ≤ m + 1 ∧ u98 = .int .i64 k ∧ Hid (u10 = .bool (freeF lim (l.take k))) ∧ Hid (Below w3.heap.size w3 wr)) (fun _ u98 _ => m + 1 - (intOf u98).toNat)
      case atStart => exact ⟨0, Nat.zero_le _, rfl, rfl, Below.refl _ _⟩
      case round =>
        obtain ⟨k, hk, rfl, h10, hb⟩ := hrel
        have h10' := h10.out
        subst h10'
        have hbx := HQ1.out.ext hb.out
        have hby := HS1.out.ext hb.out
        obtain ⟨p0, p1, p2, pf⟩ := hbx.c3
        obtain ⟨q0, q1, q2, qf⟩ := hby.c3
        have hsx := hbx.2.2
        have hsy := hby.2.2
        clear hbx hby
        by_cases hlt : k < m + 1
        · have hlt' : k < l.length := by rw [← HN.out]; exact hlt
          obtain ⟨b, off, rfl, hbs, hc0, hc1, hc2⟩ := gst_at HR1.out hb.out hlt'
          have hge : l[k]? = some l[k] := List.getElem?_eq_getElem hlt'
          have HFS := Lib.hid (freeF_snoc lim (l.take k) l[k])
          rw [← take_snocG l hlt'] at HFS
          have HGE := Lib.hid hge
          have hsk := qGo_sk HQ2.out (Int.le_refl _) hlim.1 l[k] (List.getElem_mem hlt')
          clear hge
          generalize l[k] = x at hc0 hc1 hc2 HGE HFS hsk
          rcases x with ⟨xi, xf, xs⟩
          simp only at hc0 hc1 hc2 HGE HFS hsk
          have hkm : (k : Int) < (m : Int) + 1 := by omega
          have HFR : Hid (freeF lim (l.take k) = true → ∀ (j : Nat) (b : Gst), j < k → l[j]? = some b → b.skips < lim) := by
            intro hf j b hj hb
            unfold freeF at hf
            have := List.all_eq_true.1 hf b (List.mem_of_getElem? (i := j) (by rw [List.getElem?_take, if_pos hj]; exact hb))
            simpa using this
          generalize freeF lim (l.take k) = O at HFS HFR ⊢
          have hbw : b < wr.heap.size := by have := hb.out.size; omega
          have hpd : decide (p < k) = decide ((p : Int) < (k : Int)) := by simp
          rcases Nat.lt_trichotomy k p with h | h | h
          · as_aux_lemma =>
            have hxx : xf = false ∧ xs ≠ lim := by
              rcases HT.out with ⟨g, _, _, h3⟩ | ⟨h3, _⟩
              · exact h3 k _ h HGE.out
              · omega
            obtain ⟨rfl, hxs⟩ := hxx
            have hxs2 : xs < lim := by omega
            have hkX : k < (remL l p).length := by rw [HXL.out, ← HN.out]; omega
            obtain ⟨b2, off2, rfl, hbs2, hd0, hd1, hd2⟩ := gst_at HX1.out hb.out hkX
            have hXk := remL_lt h HGE.out
            rw [List.getElem?_eq_getElem hkX] at hXk
            injection hXk with hXk
            rw [hXk] at hd0 hd1 hd2
            simp only [inc] at hd0 hd1 hd2
            clear hXk
            have hb2w : b2 < wr.heap.size := by have := hb.out.size; omega
            have hkm2 : (k : Int) < m := by omega
            have e1 : IntKind.i64.wrap (xs + 1) = xs + 1 := IntWalk.i64_in _ (by omega)
            have h1 : decide ((k : Int) < (p : Int)) = true := by simpa using h
            have h1' : decide (k < p) = true := by simpa using h
            have h2 : decide (lim ≤ xs) = false := by simpa using hxs2
            have h3 : decide ((p : Int) < (k : Int)) = false := by simp; omega
            have h3' : decide (p < k) = false := by simp; omega
            have h4 : decide (xs < lim) = true := by simpa using hxs2
            have HFN : Hid (freeF lim (l.take (k + 1)) = O) := by unfold Hid; rw [HFS.out, h4, Bool.and_true]
            clear hxs hpd
            go_wp2
            go_quiet (fail)
            cases O
            · go_wp2
              go_roundw
              case rel => exact ⟨k + 1, by omega, by go_num, (by unfold Hid; rw [HFN.out]), below_drewN (hb.out.alloc hb.out.size _) _⟩
              case measure => simp [intOf]; omega
            · go_wp2
              go_roundw
              case rel => exact ⟨k + 1, by omega, by go_num, (by unfold Hid; rw [HFN.out]), below_drewN (hb.out.alloc hb.out.size _) _⟩
              case measure => simp [intOf]; omega
          · as_aux_lemma =>
            have h1 : decide ((k : Int) < (p : Int)) = false := by simp; omega
            have h1' : decide (k < p) = false := by simp; omega
            have h3 : decide ((p : Int) < (k : Int)) = false := by simp; omega
            have h3' : decide (p < k) = false := by simp; omega
            have HFN : Hid (freeF lim (l.take (k + 1)) = (O && decide (xs < lim))) := HFS.out
            have HKP := Lib.hid h
            clear hpd h
            cases O
            · go_wp2
              go_quiet (fail)
              go_wp2
              go_roundw
              case rel => exact ⟨k + 1, by omega, by go_num, (by unfold Hid; rw [HFN.out]; rfl), below_drewN (hb.out.alloc hb.out.size _) _⟩
              case measure => simp [intOf]; omega
            · by_cases h4 : xs < lim
              all_goals
                have h4' : Hid (decide (xs < lim) = decide (xs < lim)) := rfl
                first
                  | (have h5 : decide (xs < lim) = true := (by simpa using h4))
                  | (have h5 : decide (xs < lim) = false := (by simpa using h4))
                go_wp2
                go_quiet (fail)
                go_wp2
                go_roundw
                case rel => exact ⟨k + 1, by omega, by go_num, (by unfold Hid; rw [HFN.out, h5]; rfl), below_drewN (hb.out.alloc hb.out.size _) _⟩
                case measure => simp [intOf]; omega
          · as_aux_lemma =>
            have hkX : k - 1 < (remL l p).length := by rw [HXL.out, ← HN.out]; omega
            obtain ⟨b2, off2, rfl, hbs2, hd0, hd1, hd2⟩ := gst_at HX1.out hb.out hkX
            have hXk := remL_gt (i := k - 1) (by rw [← HN.out]; exact hpn) (by omega)
            rw [show k - 1 + 1 = k from by omega, HGE.out, List.getElem?_eq_getElem hkX] at hXk
            injection hXk with hXk
            rw [hXk] at hd0 hd1 hd2
            simp only at hd0 hd1 hd2
            clear hXk
            have hl0 : 0 < l.length := by omega
            obtain ⟨b3, off3, hA3, hbs3, he0, he1, he2⟩ := gst_at HR1.out hb.out hl0
            injection hA3 with hA3
            injection hA3 with hA31 hA32
            subst hA31; subst hA32
            simp only [Nat.zero_mul, Nat.add_zero] at he0 he1 he2
            have hb2w : b2 < wr.heap.size := by have := hb.out.size; omega
            have hkm2 : (k : Int) - 1 < m := by omega
            have hk0 : 0 ≤ (k : Int) - 1 := by omega
            have hk1 : 1 ≤ (k : Int) := by omega
            have hkt : ((k : Int) - 1).toNat = k - 1 := by omega
            have e1 : IntKind.i64.wrap ((k : Int) - 1) = (k : Int) - 1 := IntWalk.i64_in _ (by omega)
            have h1 : decide ((k : Int) < (p : Int)) = false := by simp; omega
            have h1' : decide (k < p) = false := by simp; omega
            have h3 : decide ((p : Int) < (k : Int)) = true := by simp; omega
            have h3' : decide (p < k) = true := by simp; omega
            have HFN : Hid (freeF lim (l.take (k + 1)) = (O && decide (xs < lim))) := HFS.out
            have hkey : p = 0 → xf = true → O = true → l[0].fast = true := by
              intro hp0 hxf hO
              rcases HT.out with ⟨g, h6, h7, _⟩ | ⟨_, h6⟩
              · rw [hp0, List.getElem?_eq_getElem hl0] at h6
                injection h6 with h6
                rw [h6]
                exact h7
              · obtain ⟨j, b, h7, h8, h9⟩ := h6 k _ HGE.out hxf
                have := HFR.out hO j b h7 h8
                omega
            have HKEY := Lib.hid hkey
            generalize l[0] = y at he0 he1 he2 HKEY
            rcases y with ⟨yi, yf, ys⟩
            simp only at he0 he1 he2 HKEY
            have HP := Lib.hid h
            clear hpd hkey h
            have hcs : Hid (((p : Int) == 0) = false ∧ (p == 0) = false ∨ ((p : Int) == 0) = true ∧ (p == 0) = true ∧ (xf = false ∨ xf = true ∧ (O = false ∨ O = true ∧ yf = true))) := by
              unfold Hid
              by_cases hp0 : p = 0
              · refine .inr ⟨by simp; omega, by simp; omega, ?_⟩
                cases xf
                · exact .inl rfl
                · refine .inr ⟨rfl, ?_⟩
                  cases O
                  · exact .inl rfl
                  · exact .inr ⟨rfl, HKEY.out hp0 rfl rfl⟩
              · exact .inl ⟨by simp; omega, by simp; omega⟩
            by_cases h4 : xs < lim
            all_goals
              first
                | (have h5 : decide (xs < lim) = true := (by simpa using h4))
                | (have h5 : decide (xs < lim) = false := (by simpa using h4))
              rw [h5] at HFN
              rcases hcs.out with ⟨hp1, hp2⟩ | ⟨hp1, hp2, rfl | ⟨rfl, rfl | ⟨rfl, rfl⟩⟩⟩
              all_goals
                try cases O
                all_goals
                  go_wp2
                  go_quiet (fail)
                  go_wp2
                  go_roundw
                  case rel => exact ⟨k + 1, by omega, by go_num, (by unfold Hid; rw [HFN.out]; rfl), below_drewN (hb.out.alloc hb.out.size _) _⟩
                  case measure => simp [intOf]; omega
        · as_aux_lemma =>
          have hpl : p < l.length := by rw [← HN.out]; exact hpn
          obtain ⟨b, off, rfl, hbs, hc0, hc1, hc2⟩ := gst_at HR1.out hb.out hpl
          have hkf : p = 0 ∨ l[p].fast = true := by
            rcases HT.out with ⟨g, h6, h7, _⟩ | ⟨h6, _⟩
            · rw [List.getElem?_eq_getElem hpl] at h6
              injection h6 with h6
              exact .inr (by rw [h6]; exact h7)
            · exact .inl h6
          have HKF := Lib.hid hkf
          clear hkf
          generalize l[p] = y at hc0 hc1 hc2 HKF
          rcases y with ⟨yi, yf, ys⟩
          simp only at hc0 hc1 hc2 HKF
          have hpm : (p : Int) < (m : Int) + 1 := by omega
          have HBF := Lib.hid (below_step HB1.out hb.out)
          by_cases hp0 : p = 0
          · have h1 : ((p : Int) == 0) = true := by simp; omega
            have h2 : (p == 0) = true := by simp; omega
            go_wp2
            go_ret
            exact ⟨rfl, HBF.out⟩
          · have h1 : ((p : Int) == 0) = false := by simp; omega
            have h2 : (p == 0) = false := by simp; omega
            obtain rfl : yf = true := HKF.out.resolve_left hp0
            go_wp2
            go_ret
            exact ⟨rfl, HBF.out⟩
end Go.Proofs.Ytalmeokljamhdaa
