/- Rates: the frontier of the reference. No condition. -/
import Derived.Test.YtnalbchggjepdaaZc
namespace Go.Proofs.Ytnalbchggjepdaa
open Go.RowKit Go.Shelf
attribute [local go_sem] Oper.semAt_some

def goodR (Q : List Pt) (h : Nat) (p : Pt) : Bool := decide (p.acc = (h : Int)) && besB Q p
theorem refR_eq (Q : List Pt) (h : Nat) : refR Q h = Q.filter (goodR Q h) := rfl
theorem refFro_succ (Q : List Pt) (h : Nat) : refFro Q (h + 1) = refFro Q h ++ refR Q h := by
  unfold refFro
  rw [List.range_succ, List.flatMap_append]
  simp
theorem refFro_len (Q : List Pt) : ∀ h, (refFro Q h).length ≤ h * Q.length
  | 0 => by simp [refFro]
  | h + 1 => by
    rw [refFro_succ, List.length_append, Nat.succ_mul]
    have h1 := refFro_len Q h
    have h2 : (refR Q h).length ≤ Q.length := by rw [refR_eq]; exact List.length_filter_le _ _
    omega
theorem filter_take {Q : List Pt} {i : Nat} (f : Pt → Bool) (h : i < Q.length) : (Q.take (i + 1)).filter f = (Q.take i).filter f ++ if f Q[i] = true then [Q[i]] else [] := by
  rw [List.take_succ_eq_append_getElem h, List.filter_append]
  by_cases c : f Q[i] = true
  · rw [if_pos c, List.filter_cons_of_pos c]; rfl
  · rw [if_neg c, List.filter_cons_of_neg c]; rfl
def bestU (Q : List Pt) (h : Nat) (p : Pt) (k : Nat) : Bool := decide (p.acc = (h : Int)) && (Q.take k).all fun q => !betB q p
theorem bestU_succ {Q : List Pt} {h k : Nat} {p : Pt} (hk : k < Q.length) : bestU Q h p (k + 1) = (bestU Q h p k && !betB Q[k] p) := by
  unfold bestU
  rw [List.take_succ_eq_append_getElem hk, List.all_append]
  simp [Bool.and_assoc]
theorem bestU_zero (Q : List Pt) (h : Nat) (p : Pt) : bestU Q h p 0 = decide (p.acc = (h : Int)) := by simp [bestU]
theorem bestU_all (Q : List Pt) (h : Nat) (p : Pt) {k : Nat} (hk : Q.length ≤ k) : bestU Q h p k = goodR Q h p := by
  unfold bestU goodR besB
  rw [List.take_of_length_le hk]
theorem froF_kepA (l : List Dbl) : froF l = refFro (kepA (ptsT l (usA l) (usB l))) (l.length + 1) := froF_ref l
set_option maxRecDepth 100000 in
set_option maxHeartbeats 8000000 in
theorem refFrontier_any (A : Option Addr) (l : List Dbl) (n c : Nat) (w : World) (hr : Rd w A (flat encD l)) (hn : n = l.length) (hl : n ≤ 1000000) :
    Calls Try.prog 43 #[.slice A n c] w fun e w' => ∃ A' c', e = .returned (.tuple #[.slice A' (froR l).length c', .int .i64 (dblE l)]) ∧ Own w w' [row 68 4 (.slice A' (froR l).length c') (froR l).length (flat encP (froR l))] := by
  have K1 := Lib.hid (refDoubles_any A l n c w hr hn hl)
  by_cases h0 : dblE l = 0
  case neg =>
    have HE := Lib.hid (show froR l = [] by simp [froR, h0])
    rw [HE.out]
    generalize dblE l = v at *
    have h0' : (v == 0) = false := by simpa using h0
    clear hr hn
    go_enter Try.func43, Try.ntmps43
    go_wp2_with fail
    refine K1.out.mono ?_
    rintro e w1 ⟨rfl, hb1⟩
    have S1 := Lib.hid (((Own.start w).ext hb1).nil 68 4)
    clear hb1
    go_wp2_with fail
    go_ret2
    exact ⟨none, 0, rfl, S1.out⟩
  obtain ⟨b1, b2⟩ := dblE_ok h0
  have K2 := Lib.hid (fun W (h : Below w.heap.size w W) => refAll_any A l n c W (hr.below h) hn (by omega))
  have HF := Lib.hid (show froR l = refFro (kepA (ptsT l (usA l) (usB l))) (n + 1) by rw [dblE_froR h0, hn]; exact froF_kepA l)
  have hM0 : (kepA (ptsT l (usA l) (usB l))).length ≤ 40401 := by
    refine Nat.le_trans (kepA_len _) ?_
    rw [ptsT_len, usA_len, usB_len]
    exact Nat.mul_le_mul (show l.length + 1 ≤ 201 by omega) (show l.length + 1 ≤ 201 by omega)
  rw [h0] at K1 ⊢
  obtain ⟨R, hR⟩ : ∃ R, R = froR l := ⟨_, rfl⟩
  rw [← hR] at HF ⊢
  clear hR
  generalize kepA (ptsT l (usA l) (usB l)) = Q at *
  obtain ⟨M, hM⟩ : ∃ M, M = Q.length := ⟨_, rfl⟩
  rw [← hM] at K2 hM0
  have HM := Lib.hid hM
  have hn200 : n ≤ 200 := by omega
  have HL := Lib.hid (fun h i (hh : h ≤ n) (hi : i ≤ M) => (show (refFro Q h ++ (Q.take i).filter (goodR Q h)).length + 1 ≤ 9000000 by
    rw [List.length_append]
    have h1 := refFro_len Q h
    have h2 := List.length_filter_le (goodR Q h) (Q.take i)
    rw [List.length_take] at h2
    have h3 := Nat.mul_le_mul (show h ≤ 201 by omega) (show Q.length ≤ 40401 by omega)
    omega))
  clear hr hn h0 b1 b2 hM
  go_enter Try.func43, Try.ntmps43
  go_wp2_with fail
  refine K1.out.mono ?_
  rintro e w1 ⟨rfl, hb1⟩
  have S1 := Lib.hid ((Own.start w).ext hb1)
  clear hb1 K1
  go_wp2_with fail
  refine (K2.out _ S1.out.bel).mono ?_
  rintro e w2 ⟨A5, c5, rfl, hO2⟩
  have S2 := Lib.hid ((S1.out.call hO2).nil 68 4)
  clear hO2 K2 S1
  go_wp2_with fail
  go_loopg [6, 7] (n + 1) (fun q u6 u7 wr => ∃ h : Nat, ∃ A6 m6 c6, h ≤ n + 1 ∧ u7 = .int .i64 (h : Nat) ∧ u6 = .slice A6 m6 c6 ∧ Hid (h + q = n + 1 ∧ m6 = (refFro Q h).length ∧ Own w wr [row 68 4 (.slice A6 m6 c6) m6 (flat encP (refFro Q h)), row 68 4 (.slice A5 M c5) M (flat encP Q)]))
  case atStart => exact ⟨0, none, 0, 0, by omega, rfl, rfl, by omega, rfl, S2.out⟩
  case round =>
    obtain ⟨h, A6, m6, c6, hh, rfl, rfl, hI⟩ := hrel
    have I1 := Lib.hid hI.out.1
    have I3 := Lib.hid hI.out.2.1
    have I2 := Lib.hid hI.out.2.2
    obtain ⟨G1, rfl⟩ : ∃ G1 : Nat, G1 = gk := ⟨_, rfl⟩
    obtain ⟨wq, rfl⟩ : ∃ wq : World, wq = wr := ⟨_, rfl⟩
    clear hI S2
    by_cases hlt : h < n + 1
    case neg => as_aux_lemma =>
      obtain rfl : h = n + 1 := by omega
      have hni : ¬ ((n + 1 : Nat) : Int) ≤ (n : Int) := by omega
      have hni2 : ¬ (n : Int) + 1 ≤ (n : Int) := by omega
      rw [← HF.out] at I2 I3
      clear HL HF
      go_wp2_with fail
      go_ret2
      exact ⟨A6, c6, by rw [← I3.out]; rfl, by rw [← I3.out]; exact I2.out.sub [0] (by decide) rfl⟩
    have hix : (h : Int) ≤ (n : Int) := by omega
    have zh : IntKind.i64.wrap ((h : Int) + 1) = ((h + 1 : Nat) : Int) := by rw [show (h : Int) + 1 = ((h + 1 : Nat) : Int) by omega]; exact IntWalk.i64_in _ (by omega)
    have HL2 := Lib.hid (fun i (hi : i ≤ M) => HL.out h i (by omega) hi)
    clear HL
    as_aux_lemma =>
    go_wp2_with fail
    go_loopg [6, 8] M (fun q u6 u8 wr => ∃ i : Nat, ∃ A7 m7 c7, (i ≤ M ∧ m7 < 9000000) ∧ u8 = .int .i64 (i : Nat) ∧ u6 = .slice A7 m7 c7 ∧ Hid (i + q = M ∧ m7 = (refFro Q h ++ (Q.take i).filter (goodR Q h)).length ∧ Own w wr [row 68 4 (.slice A7 m7 c7) m7 (flat encP (refFro Q h ++ (Q.take i).filter (goodR Q h))), row 68 4 (.slice A5 M c5) M (flat encP Q)]))
    case atStart => exact ⟨0, A6, m6, c6, ⟨by omega, by have := HL2.out 0 (by omega); simp at this; rw [I3.out]; omega⟩, rfl, rfl, by omega, by rw [I3.out]; simp, I2.out.cast (by simp)⟩
    case round =>
      obtain ⟨i, A7, m7, c7, ⟨hi, hm7⟩, rfl, rfl, hJ⟩ := hrel
      have J1 := Lib.hid hJ.out.1
      have J3 := Lib.hid hJ.out.2.1
      have J2 := Lib.hid hJ.out.2.2
      obtain ⟨G2, rfl⟩ : ∃ G2 : Nat, G2 = gk := ⟨_, rfl⟩
      obtain ⟨wp, rfl⟩ : ∃ wp : World, wp = wr := ⟨_, rfl⟩
      clear hJ I2
      by_cases hlt2 : i < M
      case neg => as_aux_lemma =>
        obtain rfl : i = M := by omega
        have hni : ¬ (i : Int) < (i : Int) := by omega
        have HT := Lib.hid (show refFro Q h ++ (Q.take i).filter (goodR Q h) = refFro Q (h + 1) by rw [List.take_of_length_le (by rw [← HM.out]; exact Nat.le_refl _), refFro_succ, refR_eq])
        rw [HT.out] at J2 J3
        clear HT HL2
        go_wp2_with fail
        go_roundg (G1 - 1)
        case measure => have := I1.out; omega
        case rel => exact ⟨h + 1, A7, m7, c7, by omega, rfl, rfl, by have := I1.out; omega, J3.out, J2.out⟩
      have hil : i < Q.length := by rw [← HM.out]; exact hlt2
      have hjx : (i : Int) < (M : Int) := by omega
      have zi : IntKind.i64.wrap ((i : Int) + 1) = ((i + 1 : Nat) : Int) := by rw [show (i : Int) + 1 = ((i + 1 : Nat) : Int) by omega]; exact IntWalk.i64_in _ (by omega)
      obtain ⟨g, rfl⟩ := J2.out.rowAddr 1 rfl (by omega)
      have HFT := Lib.hid (filter_take (goodR Q h) hil)
      have HL3 := Lib.hid (HL2.out i hi)
      have HL4 := Lib.hid (HL2.out (i + 1) hlt2)
      rw [HFT.out] at HL4
      have HCI := Lib.hid (fun W (P : Piece) (o : Own w W [P, row 68 4 (.slice (some ⟨g, 0, none⟩) M c5) M (flat encP Q)]) => (show Own w W [dat g M c5 Q, P] from o.swap).ptAt (List.getElem?_eq_getElem hil))
      have HB0 := Lib.hid (bestU_zero Q h Q[i])
      have HB1 := Lib.hid (bestU_all Q h Q[i] (k := M) (by rw [← HM.out]; exact Nat.le_refl _))
      have HBS := Lib.hid (fun k (hk : k < Q.length) => bestU_succ (h := h) (p := Q[i]) hk)
      have HBT := Lib.hid (fun q W => better_any q Q[i] W)
      generalize Q[i] = p at *
      obtain ⟨pa, pb, pc, pr⟩ := p
      simp only [aggP] at HBT
      try simp only at HCI
      try simp only at HB0
      obtain ⟨c0, c1, c2, c3⟩ := HCI.out _ _ J2.out
      have hg1 := (J2.out.rowLt (g := g) 1 rfl).1
      have HCI2 := HCI
      clear hil HL2
      as_aux_lemma =>
      go_wp2_with fail
      go_loopg [9, 10] M (fun q u9 u10 wr => ∃ k : Nat, ∃ b : Bool, k ≤ M ∧ u10 = .int .i64 (k : Nat) ∧ u9 = .bool b ∧ Hid (k + q = M ∧ b = bestU Q h ⟨pa, pb, pc, pr⟩ k ∧ Own w wr [row 68 4 (.slice A7 m7 c7) m7 (flat encP (refFro Q h ++ (Q.take i).filter (goodR Q h))), row 68 4 (.slice (some ⟨g, 0, none⟩) M c5) M (flat encP Q)]))
      case atStart => exact ⟨0, _, by omega, rfl, rfl, by omega, HB0.out.symm, J2.out⟩
      case round =>
        obtain ⟨k, b, hk, rfl, rfl, hK⟩ := hrel
        have L1 := Lib.hid hK.out.1
        have L3 := Lib.hid hK.out.2.1
        have L2 := Lib.hid hK.out.2.2
        clear hK J2 c0 c1 c2 c3 hg1
        by_cases hlt3 : k < M
        case neg => as_aux_lemma =>
          obtain rfl : M = k := by omega
          have hni : ¬ (M : Int) < (M : Int) := by omega
          have HBV := Lib.hid (show b = goodR Q h ⟨pa, pb, pc, pr⟩ by rw [L3.out, HB1.out])
          rw [← HBV.out] at HFT HL4
          obtain ⟨c0, c1, c2, c3⟩ := HCI.out _ _ L2.out
          have hg1 := (L2.out.rowLt (g := g) 1 rfl).1
          clear HBV HB0 HB1 HBS HBT L3
          rcases b with _ | _
          · as_aux_lemma =>
            have HE := Lib.hid (show (Q.take (i + 1)).filter (goodR Q h) = (Q.take i).filter (goodR Q h) by rw [HFT.out]; simp)
            clear HFT
            go_wp2_with fail
            go_roundg (G2 - 1)
            case measure => have := J1.out; omega
            case rel => exact ⟨i + 1, A7, m7, c7, ⟨by omega, hm7⟩, rfl, rfl, by have := J1.out; omega, by rw [HE.out]; exact J3.out, by rw [HE.out]; exact L2.out⟩
          · as_aux_lemma =>
            have HE := Lib.hid (show refFro Q h ++ (Q.take (i + 1)).filter (goodR Q h) = refFro Q h ++ (Q.take i).filter (goodR Q h) ++ [⟨pa, pb, pc, pr⟩] by rw [HFT.out]; simp)
            have HX := Lib.hid (show flat encP (refFro Q h ++ (Q.take i).filter (goodR Q h)) ++ [.int .i64 pa, .int .i64 pb, .int .i64 pc, .int .i64 pr] = flat encP (refFro Q h ++ (Q.take (i + 1)).filter (goodR Q h)) by rw [HE.out, ← flatP_snoc]; rfl)
            have HLEN := Lib.hid (show m7 + 1 = (refFro Q h ++ (Q.take (i + 1)).filter (goodR Q h)).length by rw [HE.out, List.length_append, ← J3.out]; rfl)
            have HLT := Lib.hid (show m7 + 1 < 9000000 by
              have := HL4.out
              rw [HLEN.out, HFT.out]
              omega)
            clear HFT HE
            obtain ⟨Z2, hZ2⟩ : ∃ Z2, Z2 = refFro Q h ++ (Q.take (i + 1)).filter (goodR Q h) := ⟨_, rfl⟩
            rw [← hZ2] at HX HLEN
            replace hZ2 := Lib.hid hZ2
            generalize refFro Q h ++ (Q.take i).filter (goodR Q h) = Z1 at *
            have S7 := Lib.hid (L2.out.ext (below_alloc wr (.cells #[.int .i64 pa, .int .i64 pb, .int .i64 pc, .int .i64 pr] 68)))
            have HN7 := Lib.hid (Rd.new wr #[.int .i64 pa, .int .i64 pb, .int .i64 pc, .int .i64 pr] 68)
            have h3 : m7 + 1 ≤ maxLen := by unfold maxLen; omega
            have h4 : (m7 + 1) * 32 ≤ 140737488355328 := by omega
            go_wp2_with (at_builtin; go_loud (refine wpList_appP rfl (.tmp 57) (.tmp 62) 73 rfl st73 0 S7.out rfl rfl rfl (m7 + 1) (flat encP Z2) ?_ [.int .i64 pa, .int .i64 pb, .int .i64 pc, .int .i64 pr] rfl HX.out HN7.out rfl (encP_one ⟨pa, pb, pc, pr⟩) h3 h4; intro A9 c9 w8 hS8); have S8 := Lib.hid (hS8.cast (qs := [row 68 4 (.slice A9 (m7 + 1) c9) (m7 + 1) (flat encP Z2), row 68 4 (.slice (some ⟨g, 0, none⟩) M c5) M (flat encP Q)]) rfl); clear hS8 S7 HN7 L2; try clear c0 c1 c2 c3 hg1)
            go_roundg (G2 - 1)
            case measure => have := J1.out; omega
            case rel => exact ⟨i + 1, A9, m7 + 1, c9, ⟨by omega, HLT.out⟩, rfl, rfl, by have := J1.out; omega, by rw [← hZ2.out]; exact HLEN.out, by rw [← hZ2.out]; exact S8.out⟩
        have hkl : k < Q.length := by rw [← HM.out]; exact hlt3
        have hkx : (k : Int) < (M : Int) := by omega
        have zk : IntKind.i64.wrap ((k : Int) + 1) = ((k + 1 : Nat) : Int) := by rw [show (k : Int) + 1 = ((k + 1 : Nat) : Int) by omega]; exact IntWalk.i64_in _ (by omega)
        have HCK := Lib.hid (fun W (P : Piece) (o : Own w W [P, row 68 4 (.slice (some ⟨g, 0, none⟩) M c5) M (flat encP Q)]) => (show Own w W [dat g M c5 Q, P] from o.swap).ptAt (List.getElem?_eq_getElem hkl))
        have HBK := Lib.hid (HBS.out k hkl)
        rw [← L3.out] at HBK
        have HBT2 := Lib.hid (fun W => HBT.out Q[k] W)
        generalize Q[k] = q at *
        obtain ⟨qa, qb, qc, qr⟩ := q
        try simp only at HBT2
        try simp only at HCK
        generalize betB ⟨qa, qb, qc, qr⟩ ⟨pa, pb, pc, pr⟩ = bt at *
        clear hkl HBS HBT HB0 HB1 L3 HFT HL3 HL4
        obtain ⟨W0, hW0⟩ : ∃ W0 : Piece, W0 = row 68 4 (.slice A7 m7 c7) m7 (flat encP (refFro Q h ++ (Q.take i).filter (goodR Q h))) := ⟨_, rfl⟩
        rw [← hW0] at L2
        replace hW0 := Lib.hid hW0
        rcases b with _ | _
        · as_aux_lemma =>
          have hne : Nonempty (OwnOf w [W0, row 68 4 (.slice (some ⟨g, 0, none⟩) M c5) M (flat encP Q)]) := ⟨⟨_, L2.out⟩⟩
          go_wp2_with fail
          refine wp_region_own L2.out (by kernel_rfl) (by kernel_rfl) ?_
          iterate 14 (go_big_quiet_step (fail))
          refine wpQuiet_nil ?_
          rintro w6 ⟨z, hz⟩
          have S6 := Lib.hid (show Own w w6 [W0, row 68 4 (.slice (some ⟨g, 0, none⟩) M c5) M (flat encP Q)] by rw [hz]; exact z.own)
          clear hz z L2 hne
          go_wp2_with fail
          go_roundg (gk - 1)
          case measure => have := L1.out; omega
          case rel => exact ⟨k + 1, false, by omega, rfl, rfl, by have := L1.out; omega, by rw [HBK.out]; rfl, by rw [← hW0.out]; exact S6.out⟩
        · as_aux_lemma =>
          have fx0 := fun x : OwnOf w [W0, row 68 4 (.slice (some ⟨g, 0, none⟩) M c5) M (flat encP Q)] => (HCI.out _ _ x.own).1
          have fx1 := fun x : OwnOf w [W0, row 68 4 (.slice (some ⟨g, 0, none⟩) M c5) M (flat encP Q)] => (HCI.out _ _ x.own).2.1
          have fx2 := fun x : OwnOf w [W0, row 68 4 (.slice (some ⟨g, 0, none⟩) M c5) M (flat encP Q)] => (HCI.out _ _ x.own).2.2.1
          have fx3 := fun x : OwnOf w [W0, row 68 4 (.slice (some ⟨g, 0, none⟩) M c5) M (flat encP Q)] => (HCI.out _ _ x.own).2.2.2
          have fy0 := fun x : OwnOf w [W0, row 68 4 (.slice (some ⟨g, 0, none⟩) M c5) M (flat encP Q)] => (HCK.out _ _ x.own).1
          have fy1 := fun x : OwnOf w [W0, row 68 4 (.slice (some ⟨g, 0, none⟩) M c5) M (flat encP Q)] => (HCK.out _ _ x.own).2.1
          have fy2 := fun x : OwnOf w [W0, row 68 4 (.slice (some ⟨g, 0, none⟩) M c5) M (flat encP Q)] => (HCK.out _ _ x.own).2.2.1
          have fy3 := fun x : OwnOf w [W0, row 68 4 (.slice (some ⟨g, 0, none⟩) M c5) M (flat encP Q)] => (HCK.out _ _ x.own).2.2.2
          have hne : Nonempty (OwnOf w [W0, row 68 4 (.slice (some ⟨g, 0, none⟩) M c5) M (flat encP Q)]) := ⟨⟨_, L2.out⟩⟩
          go_wp2_with fail
          refine wp_region_own L2.out (by kernel_rfl) (by kernel_rfl) ?_
          iterate 10 (go_big_quiet_step (fail))
          go_big_quiet_step ((go_at_call 75; exact own_of (HBT2.out _)))
          iterate 3 (go_big_quiet_step (fail))
          refine wpQuiet_nil ?_
          rintro w6 ⟨z, hz⟩
          have S6 := Lib.hid (show Own w w6 [W0, row 68 4 (.slice (some ⟨g, 0, none⟩) M c5) M (flat encP Q)] by rw [hz]; exact z.own)
          clear hz z L2 hne fx0 fx1 fx2 fx3 fy0 fy1 fy2 fy3
          go_wp2_with fail
          go_roundg (gk - 1)
          case measure => have := L1.out; omega
          case rel => exact ⟨k + 1, !bt, by omega, rfl, rfl, by have := L1.out; omega, by rw [HBK.out]; simp, by rw [← hW0.out]; exact S6.out⟩
end Go.Proofs.Ytnalbchggjepdaa
