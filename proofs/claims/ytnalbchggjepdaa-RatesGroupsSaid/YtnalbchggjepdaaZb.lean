/- Rates: the points of the reference. No condition. -/
import Derived.Test.YtnalbchggjepdaaZa
namespace Go.Proofs.Ytnalbchggjepdaa
open Go.RowKit Go.Shelf
attribute [local go_sem] Oper.semAt_some

theorem kepF_skip : ∀ {l : List Pt} {p : Pt} {i : Nat}, i ≤ l.length → (∀ x ∈ l.take i, samB x p = false) → kepF l p = l.take i ++ kepF (l.drop i) p
  | _, _, 0, _, _ => by simp
  | [], _, i + 1, h, _ => by simp at h
  | x :: l, p, i + 1, h, hx => by
    have h1 := hx x (by simp)
    rw [kepF, if_neg (by rw [h1]; simp), kepF_skip (l := l) (i := i) (by simpa using h) (fun y hy => hx y (by simp [hy]))]
    simp
theorem kepF_len (l : List Pt) (p : Pt) : (kepF l p).length ≤ l.length + 1 := by
  induction l with
  | nil => simp [kepF]
  | cons x l ih =>
    rw [kepF]
    split
    · split <;> simp
    · simp only [List.length_cons]; omega
theorem flatP_put (l : List Pt) (i : Nat) (p : Pt) (hi : i < l.length) :
    ((((flat encP l).set (i * 4) (.int .i64 p.a)).set (i * 4 + 1) (.int .i64 p.b)).set (i * 4 + 2) (.int .i64 p.acc)).set (i * 4 + 3) (.int .i64 p.ref) = flat encP (l.set i p) := flatP_set l i p hi
/-- What kept leaves: the row of points with one more, or with one of them put anew. -/
def KeptPost (w0 : World) (ps : List Piece) (L : List Pt) (e : Ending) (w' : World) : Prop := ∃ A' c', e = .returned (.slice A' L.length c') ∧ Own w0 w' (row 68 4 (.slice A' L.length c') L.length (flat encP L) :: ps)
set_option maxRecDepth 100000 in
set_option maxHeartbeats 4000000 in
theorem kept_any (w0 : World) (ps : List Piece) (A : Option Addr) (l : List Pt) (n c : Nat) (p : Pt) (w : World) (hO : Own w0 w (row 68 4 (.slice A n c) n (flat encP l) :: ps)) (hn : n = l.length) (hl : n ≤ 100000) :
    Calls Try.prog 86 #[.slice A n c, aggP p] w (KeptPost w0 ps (kepF l p)) := by
  obtain ⟨pa, pb, pc, pr⟩ := p
  obtain ⟨L, hL⟩ : ∃ L, L = kepF l ⟨pa, pb, pc, pr⟩ := ⟨_, rfl⟩
  rw [← hL]
  replace hL := Lib.hid hL
  unfold KeptPost
  simp only [aggP]
  obtain ⟨B, hB⟩ : ∃ B, B = w.heap.size := ⟨_, rfl⟩
  have S0 := Lib.hid (hO.new' 68 #[.int .i64 pa, .int .i64 pb, .int .i64 pc, .int .i64 pr] hB)
  have HN := Lib.hid hn
  clear hO hn
  go_enter Try.func86, Try.ntmps86
  go_wp2_with fail
  rw [← hB]
  clear hB
  go_loopg [5] n (fun q u5 wr => ∃ i : Nat, i ≤ n ∧ u5 = .int .i64 (i : Nat) ∧ Hid (i + q = n ∧ (∀ x ∈ l.take i, samB x ⟨pa, pb, pc, pr⟩ = false) ∧ Own w0 wr (box B 68 [.int .i64 pa, .int .i64 pb, .int .i64 pc, .int .i64 pr] :: row 68 4 (.slice A n c) n (flat encP l) :: ps)))
  case atStart => exact ⟨0, by omega, rfl, by omega, by simp, S0.out⟩
  case round =>
    obtain ⟨i, hi, rfl, hI⟩ := hrel
    have I1 := Lib.hid hI.out.1
    have I3 := Lib.hid hI.out.2.1
    have I2 := Lib.hid hI.out.2.2
    clear hI S0
    by_cases hlt : i < n
    case neg => as_aux_lemma =>
      obtain rfl : i = n := by omega
      have hni : ¬ (i : Int) < (i : Int) := by omega
      have HE := Lib.hid (show L = l ++ [⟨pa, pb, pc, pr⟩] by
        rw [hL.out, kepF_skip (i := i) (by rw [← HN.out]; exact Nat.le_refl _) I3.out, List.take_of_length_le (by rw [← HN.out]; exact Nat.le_refl _), List.drop_of_length_le (by rw [← HN.out]; exact Nat.le_refl _)]
        rfl)
      have HLL := Lib.hid (show i + 1 = L.length by rw [HE.out, List.length_append, ← HN.out]; rfl)
      have HX := Lib.hid (show flat encP l ++ [.int .i64 pa, .int .i64 pb, .int .i64 pc, .int .i64 pr] = flat encP L by rw [HE.out, ← flatP_snoc]; rfl)
      obtain ⟨d0, d1, d2, d3, df⟩ := (I2.out.bx 0 rfl).c4
      have dl := (I2.out.bx 0 rfl).2.2
      have S7 := Lib.hid (I2.out.ext (below_alloc wr (.cells #[.int .i64 pa, .int .i64 pb, .int .i64 pc, .int .i64 pr] 68)))
      have HN7 := Lib.hid (Rd.new wr #[.int .i64 pa, .int .i64 pb, .int .i64 pc, .int .i64 pr] 68)
      clear HE
      go_wp2_with (at_builtin; go_loud (refine wpList_appP rfl (.tmp 63) (.tmp 65) 73 rfl st73 1 S7.out rfl rfl rfl (i + 1) (flat encP L) ?_ [.int .i64 pa, .int .i64 pb, .int .i64 pc, .int .i64 pr] (by omega) HX.out HN7.out rfl (encP_one ⟨pa, pb, pc, pr⟩) (by unfold maxLen; omega) (by omega); intro A6 c6 w8 hS8); have S8 := Lib.hid (hS8.cast (qs := box B 68 [.int .i64 pa, .int .i64 pb, .int .i64 pc, .int .i64 pr] :: row 68 4 (.slice A6 (i + 1) c6) (i + 1) (flat encP L) :: ps) rfl); clear hS8 S7 HN7 I2 d0 d1 d2 d3 df dl)
      go_ret
      exact ⟨A6, c6, by rw [← HLL.out]; rfl, by rw [← HLL.out]; exact S8.out.tail⟩
    have hil : i < l.length := by rw [← HN.out]; exact hlt
    have hix : (i : Int) < (n : Int) := by omega
    obtain ⟨g, rfl⟩ := I2.out.rowAddr 1 rfl (by omega)
    have HPA := Lib.hid (fun W (h : Own w0 W (box B 68 [.int .i64 pa, .int .i64 pb, .int .i64 pc, .int .i64 pr] :: row 68 4 (.slice (some ⟨g, 0, none⟩) n c) n (flat encP l) :: ps)) => (show Own w0 W (dat g n c l :: box B 68 [.int .i64 pa, .int .i64 pb, .int .i64 pc, .int .i64 pr] :: ps) from h.swap).ptAt (List.getElem?_eq_getElem hil))
    have HSK := Lib.hid (fun (h : samB l[i] ⟨pa, pb, pc, pr⟩ = false) => (show ∀ x ∈ l.take (i + 1), samB x ⟨pa, pb, pc, pr⟩ = false by
      intro x hx
      rw [List.take_succ_eq_append_getElem hil] at hx
      rcases List.mem_append.1 hx with hx | hx
      · exact I3.out x hx
      · rw [List.mem_singleton.1 hx]; exact h))
    have HKP := Lib.hid (show L = l.take i ++ kepF (l[i] :: l.drop (i + 1)) ⟨pa, pb, pc, pr⟩ by rw [hL.out, kepF_skip (i := i) (by omega) I3.out, List.drop_eq_getElem_cons hil])
    have HST := Lib.hid (show ∀ z, l.take i ++ z :: l.drop (i + 1) = l.set i z from fun z => (List.set_eq_take_append_cons_drop (l := l) (i := i) (a := z)).symm ▸ by rw [if_pos hil])
    have HGT := Lib.hid (show l.take i ++ l[i] :: l.drop (i + 1) = l by rw [← List.drop_eq_getElem_cons hil, List.take_append_drop])
    have z1 : IntKind.i64.wrap ((i : Int) + 1) = ((i + 1 : Nat) : Int) := by rw [show (i : Int) + 1 = ((i + 1 : Nat) : Int) by omega]; exact IntWalk.i64_in _ (by omega)
    generalize l[i] = x at *
    obtain ⟨xa, xb, xc, xr⟩ := x
    simp only at HPA
    have HIL := Lib.hid hil
    clear hil
    have z2 : i < n := hlt
    have fx2 := fun x : OwnOf w0 (box B 68 [.int .i64 pa, .int .i64 pb, .int .i64 pc, .int .i64 pr] :: row 68 4 (.slice (some ⟨g, 0, none⟩) n c) n (flat encP l) :: ps) => (x.bx 0 rfl).1 2 _ rfl
    have fx3 := fun x : OwnOf w0 (box B 68 [.int .i64 pa, .int .i64 pb, .int .i64 pc, .int .i64 pr] :: row 68 4 (.slice (some ⟨g, 0, none⟩) n c) n (flat encP l) :: ps) => (x.bx 0 rfl).1 3 _ rfl
    have fy2 := fun x : OwnOf w0 (box B 68 [.int .i64 pa, .int .i64 pb, .int .i64 pc, .int .i64 pr] :: row 68 4 (.slice (some ⟨g, 0, none⟩) n c) n (flat encP l) :: ps) => (HPA.out _ x.own).2.2.1
    have fy3 := fun x : OwnOf w0 (box B 68 [.int .i64 pa, .int .i64 pb, .int .i64 pc, .int .i64 pr] :: row 68 4 (.slice (some ⟨g, 0, none⟩) n c) n (flat encP l) :: ps) => (HPA.out _ x.own).2.2.2
    have hne : Nonempty (OwnOf w0 (box B 68 [.int .i64 pa, .int .i64 pb, .int .i64 pc, .int .i64 pr] :: row 68 4 (.slice (some ⟨g, 0, none⟩) n c) n (flat encP l) :: ps)) := ⟨⟨_, I2.out⟩⟩
    by_cases h1 : xc = pc
    case neg => as_aux_lemma =>
      have h1' : (xc == pc) = false := by simpa using h1
      have HS2 := Lib.hid (HSK.out (by simp [samB, h1]))
      clear h1 HSK HKP HST HGT
      go_upto_region 4 with (fail)
      refine wp_region_own I2.out (by kernel_rfl) (by kernel_rfl) ?_
      iterate 18 (go_big_quiet_step (fail))
      refine wpQuiet_nil ?_
      rintro w6 ⟨z, hz⟩
      have S6 := Lib.hid (show Own w0 w6 (box B 68 [.int .i64 pa, .int .i64 pb, .int .i64 pc, .int .i64 pr] :: row 68 4 (.slice (some ⟨g, 0, none⟩) n c) n (flat encP l) :: ps) by rw [hz]; exact z.own)
      clear hz z I2 fx2 fx3 fy2 fy3 hne
      go_wp2_with fail
      go_roundg (gk - 1)
      case measure => have := I1.out; omega
      case rel => exact ⟨i + 1, by omega, rfl, by have := I1.out; omega, HS2.out, S6.out⟩
    subst h1
    by_cases h2 : xr = pr
    case neg => as_aux_lemma =>
      have h2' : (xr == pr) = false := by simpa using h2
      have HS2 := Lib.hid (HSK.out (by simp [samB, h2]))
      clear h2 HSK HKP HST HGT
      go_upto_region 4 with (fail)
      refine wp_region_own I2.out (by kernel_rfl) (by kernel_rfl) ?_
      iterate 18 (go_big_quiet_step (fail))
      refine wpQuiet_nil ?_
      rintro w6 ⟨z, hz⟩
      have S6 := Lib.hid (show Own w0 w6 (box B 68 [.int .i64 pa, .int .i64 pb, .int .i64 xc, .int .i64 pr] :: row 68 4 (.slice (some ⟨g, 0, none⟩) n c) n (flat encP l) :: ps) by rw [hz]; exact z.own)
      clear hz z I2 fx2 fx3 fy2 fy3 hne
      go_wp2_with fail
      go_roundg (gk - 1)
      case measure => have := I1.out; omega
      case rel => exact ⟨i + 1, by omega, rfl, by have := I1.out; omega, HS2.out, S6.out⟩
    subst h2
    have HK2 := Lib.hid (show L = l.take i ++ (if abB ⟨pa, pb, xc, xr⟩ ⟨xa, xb, xc, xr⟩ = true then ⟨pa, pb, xc, xr⟩ :: l.drop (i + 1) else ⟨xa, xb, xc, xr⟩ :: l.drop (i + 1)) by rw [HKP.out, kepF, if_pos (by simp [samB])])
    have HAB := Lib.hid (show abB ⟨pa, pb, xc, xr⟩ ⟨xa, xb, xc, xr⟩ = (decide (pa < xa) || (decide (pa = xa) && decide (pb < xb))) from rfl)
    rw [HAB.out] at HK2
    clear HKP HSK HAB
    as_aux_lemma =>
    go_upto_region 4 with (fail)
    refine wp_region_own I2.out (by kernel_rfl) (by kernel_rfl) ?_
    iterate 18 (go_big_quiet_step (fail))
    refine wpQuiet_nil ?_
    rintro w6 ⟨z, hz⟩
    have S6 := Lib.hid (show Own w0 w6 (box B 68 [.int .i64 pa, .int .i64 pb, .int .i64 xc, .int .i64 xr] :: row 68 4 (.slice (some ⟨g, 0, none⟩) n c) n (flat encP l) :: ps) by rw [hz]; exact z.own)
    clear hz z I2 fx2 fx3 fy2 fy3 hne
    have fx0 := fun x : OwnOf w0 (box B 68 [.int .i64 pa, .int .i64 pb, .int .i64 xc, .int .i64 xr] :: row 68 4 (.slice (some ⟨g, 0, none⟩) n c) n (flat encP l) :: ps) => (x.bx 0 rfl).1 0 _ rfl
    have fx1 := fun x : OwnOf w0 (box B 68 [.int .i64 pa, .int .i64 pb, .int .i64 xc, .int .i64 xr] :: row 68 4 (.slice (some ⟨g, 0, none⟩) n c) n (flat encP l) :: ps) => (x.bx 0 rfl).1 1 _ rfl
    have fy0 := fun x : OwnOf w0 (box B 68 [.int .i64 pa, .int .i64 pb, .int .i64 xc, .int .i64 xr] :: row 68 4 (.slice (some ⟨g, 0, none⟩) n c) n (flat encP l) :: ps) => (HPA.out _ x.own).1
    have fy1 := fun x : OwnOf w0 (box B 68 [.int .i64 pa, .int .i64 pb, .int .i64 xc, .int .i64 xr] :: row 68 4 (.slice (some ⟨g, 0, none⟩) n c) n (flat encP l) :: ps) => (HPA.out _ x.own).2.1
    have hne : Nonempty (OwnOf w0 (box B 68 [.int .i64 pa, .int .i64 pb, .int .i64 xc, .int .i64 xr] :: row 68 4 (.slice (some ⟨g, 0, none⟩) n c) n (flat encP l) :: ps)) := ⟨⟨_, S6.out⟩⟩
    by_cases h3 : pa < xa
    · have HK3 := Lib.hid (show L = l.set i ⟨pa, pb, xc, xr⟩ by rw [HK2.out, if_pos (by simp [h3]), HST.out])
      clear HK2 HST HGT
      as_aux_lemma =>
      go_wp2_with fail
      refine wp_region_own S6.out (by kernel_rfl) (by kernel_rfl) ?_
      iterate 28 (go_big_quiet_step (fail))
      refine wpQuiet_nil ?_
      rintro w7 ⟨z, hz⟩
      have S7 := Lib.hid (show Own w0 w7 (box B 68 [.int .i64 pa, .int .i64 pb, .int .i64 xc, .int .i64 xr] :: row 68 4 (.slice (some ⟨g, 0, none⟩) n c) n (flat encP l) :: ps) by rw [hz]; exact z.own)
      clear hz z S6 fx0 fx1 fy0 fy1 hne
      have HSL := Lib.hid (show n = L.length by rw [HK3.out, List.length_set, ← HN.out])
      obtain ⟨t0, t1, t2, t3, tf⟩ := (S7.out.bx 0 rfl).c4
      have tl := (S7.out.bx 0 rfl).2.2
      obtain ⟨u0, u1, u2, u3⟩ := HPA.out _ S7.out
      obtain ⟨ul, uf⟩ := S7.out.rowLt (g := g) 1 rfl
      go_wp2_with fail
      have S8 := Lib.hid ((((S7.out.setRow 1 rfl (i * 4) (.int .i64 pa)).setRow 1 rfl (i * 4 + 1) (.int .i64 pb)).setRow 1 rfl (i * 4 + 2) (.int .i64 xc)).setRow 1 rfl (i * 4 + 3) (.int .i64 xr))
      go_ret
      exact ⟨some ⟨g, 0, none⟩, c, by rw [← HSL.out]; rfl, by rw [← HSL.out, HK3.out, ← flatP_put l i ⟨pa, pb, xc, xr⟩ HIL.out]; exact S8.out.tail⟩
    by_cases h4 : pa = xa
    case neg =>
      have h4' : (pa == xa) = false := by simpa using h4
      have HK3 := Lib.hid (show L = l by rw [HK2.out, if_neg (by simp [h3, h4]), HGT.out])
      clear HK2 HST HGT h4
      as_aux_lemma =>
      go_wp2_with fail
      have h6 : ¬ pa < xa := by omega
      refine wp_region_own S6.out (by kernel_rfl) (by kernel_rfl) ?_
      iterate 28 (go_big_quiet_step (fail))
      refine wpQuiet_nil ?_
      rintro w7 ⟨z, hz⟩
      have S7 := Lib.hid (show Own w0 w7 (box B 68 [.int .i64 pa, .int .i64 pb, .int .i64 xc, .int .i64 xr] :: row 68 4 (.slice (some ⟨g, 0, none⟩) n c) n (flat encP l) :: ps) by rw [hz]; exact z.own)
      clear hz z S6 fx0 fx1 fy0 fy1 hne
      have HSL := Lib.hid (show n = L.length by rw [HK3.out, ← HN.out])
      go_wp2_with fail
      go_ret
      exact ⟨some ⟨g, 0, none⟩, c, by rw [← HSL.out]; rfl, by rw [← HSL.out, HK3.out]; exact S7.out.tail⟩
    subst h4
    by_cases h5 : pb < xb
    · have HK3 := Lib.hid (show L = l.set i ⟨pa, pb, xc, xr⟩ by rw [HK2.out, if_pos (by simp [h5]), HST.out])
      clear HK2 HST HGT
      as_aux_lemma =>
      go_wp2_with fail
      refine wp_region_own S6.out (by kernel_rfl) (by kernel_rfl) ?_
      iterate 28 (go_big_quiet_step (fail))
      refine wpQuiet_nil ?_
      rintro w7 ⟨z, hz⟩
      have S7 := Lib.hid (show Own w0 w7 (box B 68 [.int .i64 pa, .int .i64 pb, .int .i64 xc, .int .i64 xr] :: row 68 4 (.slice (some ⟨g, 0, none⟩) n c) n (flat encP l) :: ps) by rw [hz]; exact z.own)
      clear hz z S6 fx0 fx1 fy0 fy1 hne
      have HSL := Lib.hid (show n = L.length by rw [HK3.out, List.length_set, ← HN.out])
      obtain ⟨t0, t1, t2, t3, tf⟩ := (S7.out.bx 0 rfl).c4
      have tl := (S7.out.bx 0 rfl).2.2
      obtain ⟨u0, u1, u2, u3⟩ := HPA.out _ S7.out
      obtain ⟨ul, uf⟩ := S7.out.rowLt (g := g) 1 rfl
      go_wp2_with fail
      have S8 := Lib.hid ((((S7.out.setRow 1 rfl (i * 4) (.int .i64 pa)).setRow 1 rfl (i * 4 + 1) (.int .i64 pb)).setRow 1 rfl (i * 4 + 2) (.int .i64 xc)).setRow 1 rfl (i * 4 + 3) (.int .i64 xr))
      go_ret
      exact ⟨some ⟨g, 0, none⟩, c, by rw [← HSL.out]; rfl, by rw [← HSL.out, HK3.out, ← flatP_put l i ⟨pa, pb, xc, xr⟩ HIL.out]; exact S8.out.tail⟩
    · have HK3 := Lib.hid (show L = l by rw [HK2.out, if_neg (by simp [h5]), HGT.out])
      clear HK2 HST HGT
      as_aux_lemma =>
      go_wp2_with fail
      have h6 : ¬ pb < xb := by omega
      refine wp_region_own S6.out (by kernel_rfl) (by kernel_rfl) ?_
      iterate 28 (go_big_quiet_step (fail))
      refine wpQuiet_nil ?_
      rintro w7 ⟨z, hz⟩
      have S7 := Lib.hid (show Own w0 w7 (box B 68 [.int .i64 pa, .int .i64 pb, .int .i64 xc, .int .i64 xr] :: row 68 4 (.slice (some ⟨g, 0, none⟩) n c) n (flat encP l) :: ps) by rw [hz]; exact z.own)
      clear hz z S6 fx0 fx1 fy0 fy1 hne
      have HSL := Lib.hid (show n = L.length by rw [HK3.out, ← HN.out])
      go_wp2_with fail
      go_ret
      exact ⟨some ⟨g, 0, none⟩, c, by rw [← HSL.out]; rfl, by rw [← HSL.out, HK3.out]; exact S7.out.tail⟩
end Go.Proofs.Ytnalbchggjepdaa
