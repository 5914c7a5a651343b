/- Rates: the frontier of the program. No condition. -/
import Derived.Test.YtnalbchggjepdaaVc
import Derived.Test.YtnalbchggjepdaaSg
namespace Go.Proofs.Ytnalbchggjepdaa
open Go.RowKit Go.Shelf
attribute [local go_sem] Oper.semAt_some

theorem st73 : SlTy Try.prog 73 68 (.agg #[.int .i64 0, .int .i64 0, .int .i64 0, .int .i64 0]) 4 32 := ⟨Try.underlying73, by kernel_rfl, rfl, by decide⟩
theorem encP_one (p : Pt) : ∀ u ∈ encP p, u.oneCell' = true := by
  intro u hu
  simp only [encP, List.mem_cons, List.not_mem_nil, or_false] at hu
  rcases hu with rfl | rfl | rfl | rfl <;> rfl
theorem flatP_snoc (l : List Pt) (p : Pt) : flat encP l ++ encP p = flat encP (l ++ [p]) := by simp [flat]
theorem dst_pos (l : List Int) : 0 < (dstF (-1 :: l)).length := List.length_pos_of_mem ((dst_mem (-1 :: l) (-1)).2 (by simp))
theorem froF_len (l : List Dbl) : (froF l).length ≤ (ptsF l).length := by
  refine Nat.le_trans (fro_len _) ?_
  rw [(isort_stb swoP (ptsF l)).1]
  exact Nat.le_refl _
theorem Own.ptsAt {w0 w : World} {ps : List Piece} {n c g : Nat} {l : List Pt} (h : Own w0 w ps) (i : Nat) (hp : ps[i]? = some (row 68 4 (.slice (some ⟨g, 0, none⟩) n c) n (flat encP l))) {k : Nat} {p : Pt} (hk : l[k]? = some p) :
    w.cell? ⟨g, k * 4 + 3, none⟩ = some (.int .i64 p.ref) := by
  have F := fun j (hj : j < 4) => flat_get encP 4 encP_len l k p j hk hj
  exact h.rowAt i hp (by rw [F 3 (by omega)]; rfl)
set_option maxRecDepth 100000 in
set_option maxHeartbeats 4000000 in
theorem frontier_any (A : Option Addr) (l : List Dbl) (n c : Nat) (w : World) (hr : Rd w A (flat encD l)) (hn : n = l.length) (hl : n ≤ 1000000) :
    Calls Try.prog 42 #[.slice A n c] w fun e w' => ∃ A' c', e = .returned (.tuple #[.slice A' (froR l).length c', .int .i64 (dblE l)]) ∧ Own w w' [row 68 4 (.slice A' (froR l).length c') (froR l).length (flat encP (froR l))] := by
  have HN := Lib.hid hn
  have HR := Lib.hid hr
  have K1 := Lib.hid (checkDoubles_any A l n c w hr hn hl)
  by_cases h0 : dblE l = 0
  case neg =>
    have HE := Lib.hid (show froR l = [] by simp [froR, h0])
    rw [HE.out]
    generalize dblE l = v at *
    have h0' : (v == 0) = false := by simpa using h0
    clear hr hn
    go_enter Try.func42, Try.ntmps42
    go_wp2_with fail
    refine K1.out.mono ?_
    rintro e w1 ⟨rfl, hb1⟩
    have S1 := Lib.hid (((Own.start w).ext hb1).nil 68 4)
    clear hb1
    go_wp2_with fail
    go_ret2
    exact ⟨none, 0, rfl, S1.out⟩
  obtain ⟨b1, b2⟩ := dblE_ok h0
  rw [show froR l = froF l by simp [froR, h0]]
  rw [h0] at K1 ⊢
  have K2 := Lib.hid (fun W (h : Below w.heap.size w W) => distinct68_any A l n c W (hr.below h) hn hl)
  have K3 := Lib.hid (fun W (h : Below w.heap.size w W) => distinct69_any A l n c W (hr.below h) hn hl)
  have K4 := Lib.hid (fun a b W (h : Below w.heap.size w W) => operate_any A l n c a b W (hr.below h) hn hl)
  have HL := Lib.hid (froF_len l)
  have HP := Lib.hid (show ptsF l = ptsT l (dsA l) (dsB l) from rfl)
  have HF := Lib.hid (show froF l = fro (isort ltP (ptsF l)) from rfl)
  rw [HP.out] at HL HF
  obtain ⟨R, hR⟩ : ∃ R, R = froF l := ⟨_, rfl⟩
  rw [← hR] at HL HF ⊢
  clear hR HP
  have la := dsA_len l
  have lb := dsB_len l
  have pa := dst_pos (l.map Dbl.a)
  have pb := dst_pos (l.map Dbl.b)
  change 0 < (dsA l).length at pa
  change 0 < (dsB l).length at pb
  change Hid (∀ W, Below w.heap.size w W → Calls Try.prog 67 #[.slice A n c, .func (.func 68) #[] #[]] W fun e w' => ∃ g c', e = .returned (.slice (some ⟨g, 0, none⟩) (dsA l).length c') ∧ Own W w' [row 3 1 (.slice (some ⟨g, 0, none⟩) (dsA l).length c') (dsA l).length (ints (dsA l))]) at K2
  change Hid (∀ W, Below w.heap.size w W → Calls Try.prog 67 #[.slice A n c, .func (.func 69) #[] #[]] W fun e w' => ∃ g c', e = .returned (.slice (some ⟨g, 0, none⟩) (dsB l).length c') ∧ Own W w' [row 3 1 (.slice (some ⟨g, 0, none⟩) (dsB l).length c') (dsB l).length (ints (dsB l))]) at K3
  generalize dsA l = us at *
  generalize dsB l = bs at *
  obtain ⟨na, hna⟩ : ∃ na, na = us.length := ⟨_, rfl⟩
  obtain ⟨nb, hnb⟩ : ∃ nb, nb = bs.length := ⟨_, rfl⟩
  rw [← hna] at K2
  rw [← hnb] at K3
  have ba : 0 < na ∧ na ≤ 201 := by omega
  have bb : 0 < nb ∧ nb ≤ 201 := by omega
  obtain ⟨M, hM⟩ : ∃ M, M = na * nb := ⟨_, rfl⟩
  have bM : M ≤ 40401 := by rw [hM]; exact Nat.le_trans (Nat.mul_le_mul ba.2 bb.2) (by decide)
  have pM : 0 < M := by rw [hM]; exact Nat.mul_pos ba.1 bb.1
  have HM := Lib.hid (show (ptsT l us bs).length = M by rw [ptsT_len, ← hna, ← hnb, hM])
  have HK := Lib.hid (fun i (hi : i < na) => (show i * nb + nb ≤ 40401 ∧ (i + 1) * nb = i * nb + nb by
    have : (i + 1) * nb ≤ na * nb := Nat.mul_le_mul_right nb hi
    rw [← hM, Nat.succ_mul] at this
    exact ⟨by omega, Nat.succ_mul i nb⟩))
  have HE0 := Lib.hid (show na * nb = M from hM.symm)
  have HA := Lib.hid hna
  have HB := Lib.hid hnb
  clear hr hn h0 b1 b2 la lb pa pb hna hnb hM
  go_enter Try.func42, Try.ntmps42
  go_wp2_with fail
  refine K1.out.mono ?_
  rintro e w1 ⟨rfl, hb1⟩
  have S1 := Lib.hid ((Own.start w).ext hb1)
  clear hb1 K1
  go_wp2_with fail
  refine (K2.out _ S1.out.bel).mono ?_
  rintro e w2 ⟨g, cg, rfl, hO2⟩
  have S2 := Lib.hid ((S1.out.call hO2).nil 68 4)
  clear hO2 K2 S1
  go_wp2_with fail
  go_loopg [5, 21] na (fun q u5 u21 wr => ∃ i : Nat, ∃ A2 m c2, (i ≤ na ∧ m ≤ 40401) ∧ u21 = .int .i64 (i : Nat) ∧ u5 = .slice A2 m c2 ∧ Hid (i + q = na ∧ m = i * nb ∧ Own w wr [row 68 4 (.slice A2 m c2) m (flat encP (ptsT l (us.take i) bs)), row 3 1 (.slice (some ⟨g, 0, none⟩) na cg) na (ints us)]))
  case atStart => exact ⟨0, none, 0, 0, by omega, rfl, rfl, by omega, by omega, S2.out⟩
  case round =>
    obtain ⟨i, A2, m, c2, ⟨hi, hm⟩, rfl, rfl, hI⟩ := hrel
    have I1 := Lib.hid hI.out.1
    have I3 := Lib.hid hI.out.2.1
    have I2 := Lib.hid hI.out.2.2
    obtain ⟨G1, rfl⟩ : ∃ G1 : Nat, G1 = gk := ⟨_, rfl⟩
    obtain ⟨wq, rfl⟩ : ∃ wq : World, wq = wr := ⟨_, rfl⟩
    clear hI S2
    by_cases hlt : i < na
    case neg =>
      obtain rfl : i = na := by omega
      have hni : ¬ (i : Int) < (i : Int) := by omega
      have HT := Lib.hid (show us.take i = us by rw [List.take_of_length_le (by rw [← HA.out]; exact Nat.le_refl _)])
      rw [HT.out] at I2
      obtain rfl : m = M := by rw [I3.out, HE0.out]
      obtain ⟨g1, rfl⟩ := I2.out.rowAddr 0 rfl pM
      have K5 := Lib.hid (sort_any w [row 3 1 (.slice (some ⟨g, 0, none⟩) i cg) i (ints us)] g1 m c2 (ptsT l us bs) wq I2.out HM.out (by omega))
      have HS := Lib.hid (show (isort ltP (ptsT l us bs)).length = m by rw [← (isort_stb swoP (ptsT l us bs)).1]; exact HM.out)
      generalize isort ltP (ptsT l us bs) = S at *
      clear I1 I3 HT HE0 HK K3 K4 HM HL hni
      as_aux_lemma =>
      go_wp2_with fail
      refine K5.out.mono ?_
      rintro e w3 ⟨rfl, hO3⟩
      have S3 := Lib.hid ((hO3.sub (qs := [dat g1 m c2 S]) [0] (by decide) rfl).nil 68 4)
      clear hO3 K5 I2
      go_wp2_with fail
      go_loopg [10, 45] m (fun q u10 u45 wr => ∃ k : Nat, ∃ A5 n5 c5, (k ≤ m ∧ n5 ≤ k) ∧ u45 = .int .i64 (k : Nat) ∧ u10 = .slice A5 n5 c5 ∧ Hid (k + q = m ∧ n5 = (fro (S.take k)).length ∧ Own w wr [row 68 4 (.slice A5 n5 c5) n5 (flat encP (fro (S.take k))), dat g1 m c2 S]))
      case atStart => exact ⟨0, none, 0, 0, by omega, rfl, rfl, by omega, rfl, S3.out⟩
      case round =>
        obtain ⟨k, A5, n5, c5, ⟨hk, h5⟩, rfl, rfl, hI⟩ := hrel
        have I1 := Lib.hid hI.out.1
        have I3 := Lib.hid hI.out.2.1
        have I2 := Lib.hid hI.out.2.2
        clear hI S3
        by_cases hlt : k < m
        case neg => as_aux_lemma =>
          obtain rfl : k = m := by omega
          have hni : ¬ (k : Int) < (k : Int) := by omega
          have HT := Lib.hid (show S.take k = S by rw [List.take_of_length_le (by rw [HS.out]; exact Nat.le_refl _)])
          rw [HT.out, ← HF.out] at I2 I3
          clear HF HS HT
          go_wp2_with fail
          go_ret2
          exact ⟨A5, c5, by rw [I3.out]; rfl, by rw [← I3.out]; exact I2.out.sub [0] (by decide) rfl⟩
        have hsl : k < S.length := by rw [HS.out]; exact hlt
        have hkx : (k : Int) < (m : Int) := by omega
        obtain ⟨c0, c1, c2', c3'⟩ := (show Own w wr [dat g1 m c2 S, row 68 4 (.slice A5 n5 c5) n5 (flat encP (fro (S.take k)))] from I2.out.swap).ptAt (List.getElem?_eq_getElem hsl)
        have hg1 := (I2.out.rowLt (g := g1) 1 rfl).1
        have HFT := Lib.hid (fro_take hsl)
        generalize S[k] = p at *
        obtain ⟨pa, pb, pc, pr⟩ := p
        simp only at c0 c1 c2' c3'
        clear hsl
        obtain ⟨B, hB⟩ : ∃ B, B = wr.heap.size := ⟨_, rfl⟩
        have I4 := Lib.hid (I2.out.new' 68 #[.int .i64 pa, .int .i64 pb, .int .i64 pc, .int .i64 pr] hB)
        replace hB := Lib.hid hB
        generalize fro (S.take k) = O at *
        obtain ⟨O2, hO2⟩ : ∃ O2, O2 = fro (S.take (k + 1)) := ⟨_, rfl⟩
        rw [← hO2] at HFT
        replace hO2 := Lib.hid hO2
        by_cases hz : n5 = 0
        · as_aux_lemma =>
          subst hz
          have h0 : O = [] := List.eq_nil_of_length_eq_zero I3.out.symm
          subst h0
          rw [froS_none] at HFT
          go_upto_region 19 with (fail)
          clear c0 c1 c2' c3' hg1 I2
          have S5 := Lib.hid (I4.out.cast (qs := [box B 68 [.int .i64 pa, .int .i64 pb, .int .i64 pc, .int .i64 pr], row 68 4 (.slice A5 0 c5) 0 [], dat g1 m c2 S]) rfl)
          rw [← hB.out]
          generalize wr.alloc _ = W3 at *
          clear I4
          have hne : Nonempty (OwnOf w [box B 68 [.int .i64 pa, .int .i64 pb, .int .i64 pc, .int .i64 pr], row 68 4 (.slice A5 0 c5) 0 [], dat g1 m c2 S]) := ⟨⟨_, S5.out⟩⟩
          refine wp_region_own S5.out (by kernel_rfl) (by kernel_rfl) ?_
          iterate 15 (go_big_quiet_step (fail))
          refine wpQuiet_nil ?_
          rintro w6 ⟨z, hz⟩
          have S6 := Lib.hid (show Own w w6 [box B 68 [.int .i64 pa, .int .i64 pb, .int .i64 pc, .int .i64 pr], row 68 4 (.slice A5 0 c5) 0 [], dat g1 m c2 S] by rw [hz]; exact z.own)
          clear hz z S5 hne
          obtain ⟨d0, d1, d2, d3, df⟩ := (S6.out.bx 0 rfl).c4
          have dl := (S6.out.bx 0 rfl).2.2
          have S7 := Lib.hid (S6.out.ext (below_alloc w6 (.cells #[.int .i64 pa, .int .i64 pb, .int .i64 pc, .int .i64 pr] 68)))
          have HN7 := Lib.hid (Rd.new w6 #[.int .i64 pa, .int .i64 pb, .int .i64 pc, .int .i64 pr] 68)
          go_wp2_with (at_builtin; go_loud (refine wpList_appP rfl (.tmp 64) (.tmp 66) 73 rfl st73 1 S7.out rfl rfl rfl 1 (encP ⟨pa, pb, pc, pr⟩) ?_ [.int .i64 pa, .int .i64 pb, .int .i64 pc, .int .i64 pr] (by omega) rfl HN7.out rfl (encP_one ⟨pa, pb, pc, pr⟩) (by unfold maxLen; omega) (by omega); intro A6 c6 w8 hS8); have S8 := Lib.hid (hS8.cast (qs := [box B 68 [.int .i64 pa, .int .i64 pb, .int .i64 pc, .int .i64 pr], row 68 4 (.slice A6 1 c6) 1 (encP ⟨pa, pb, pc, pr⟩), dat g1 m c2 S]) rfl); clear hS8 S7 HN7 S6 d0 d1 d2 d3 df dl)
          go_roundg (gk - 1)
          case measure => have := I1.out; omega
          case rel => exact ⟨k + 1, A6, 1, c6, ⟨by omega, by omega⟩, by go_num, rfl, by have := I1.out; omega, by rw [← hO2.out, HFT.out]; rfl, by rw [← hO2.out, HFT.out]; exact S8.out.sub [1, 2] (by decide) (by simp [flat])⟩
        · as_aux_lemma =>
          obtain ⟨k5, hk5⟩ : ∃ k5, n5 = k5 + 1 := ⟨n5 - 1, by omega⟩
          have hlO : k5 < O.length := by have := I3.out; omega
          have hq : O[k5]? = some O[k5] := List.getElem?_eq_getElem hlO
          have hlast : O.getLast? = some O[k5] := by
            rw [List.getLast?_eq_getElem?, ← I3.out, hk5, Nat.add_sub_cancel]
            exact hq
          obtain ⟨g5, rfl⟩ := I2.out.rowAddr 0 rfl (by omega)
          have HYES := Lib.hid (fun h => froS_yes (p := ⟨pa, pb, pc, pr⟩) hlast h)
          have HNO := Lib.hid (fun h => froS_no (p := ⟨pa, pb, pc, pr⟩) hlast h)
          have HQ := Lib.hid (fun (x : OwnOf w [box B 68 [.int .i64 pa, .int .i64 pb, .int .i64 pc, .int .i64 pr], row 68 4 (.slice (some ⟨g5, 0, none⟩) n5 c5) n5 (flat encP O), dat g1 m c2 S]) => x.own.ptsAt (g := g5) 1 rfl hq)
          generalize O[k5] = qq at *
          obtain ⟨qa, qb, qc, qr⟩ := qq
          simp only at HQ HYES HNO
          have z1 : IntKind.i64.wrap ((n5 : Int) - 1) = (k5 : Int) := by rw [show (n5 : Int) - 1 = (k5 : Int) by omega]; exact IntWalk.i64_in _ (by omega)
          have z2 : (k5 : Int) < (n5 : Int) := by omega
          have z3 : ((n5 : Int) == 0) = false := by simp; omega
          have z4 : k5 < n5 := by omega
          have HK5 := Lib.hid hk5
          clear hq hlast hlO hk5 hz
          go_upto_region 19 with (fail)
          clear c0 c1 c2' c3' hg1 I2
          have S5 := Lib.hid (I4.out.cast (qs := [box B 68 [.int .i64 pa, .int .i64 pb, .int .i64 pc, .int .i64 pr], row 68 4 (.slice (some ⟨g5, 0, none⟩) n5 c5) n5 (flat encP O), dat g1 m c2 S]) rfl)
          rw [← hB.out]
          generalize wr.alloc _ = W3 at *
          clear I4
          have fx0 := fun x : OwnOf w [box B 68 [.int .i64 pa, .int .i64 pb, .int .i64 pc, .int .i64 pr], row 68 4 (.slice (some ⟨g5, 0, none⟩) n5 c5) n5 (flat encP O), dat g1 m c2 S] => (x.bx 0 rfl).1 3 _ rfl
          have fx1 := fun x : OwnOf w [box B 68 [.int .i64 pa, .int .i64 pb, .int .i64 pc, .int .i64 pr], row 68 4 (.slice (some ⟨g5, 0, none⟩) n5 c5) n5 (flat encP O), dat g1 m c2 S] => HQ.out x
          have hne : Nonempty (OwnOf w [box B 68 [.int .i64 pa, .int .i64 pb, .int .i64 pc, .int .i64 pr], row 68 4 (.slice (some ⟨g5, 0, none⟩) n5 c5) n5 (flat encP O), dat g1 m c2 S]) := ⟨⟨_, S5.out⟩⟩
          refine wp_region_own S5.out (by kernel_rfl) (by kernel_rfl) ?_
          iterate 15 (go_big_quiet_step (fail))
          refine wpQuiet_nil ?_
          rintro w6 ⟨z, hz⟩
          have S6 := Lib.hid (show Own w w6 [box B 68 [.int .i64 pa, .int .i64 pb, .int .i64 pc, .int .i64 pr], row 68 4 (.slice (some ⟨g5, 0, none⟩) n5 c5) n5 (flat encP O), dat g1 m c2 S] by rw [hz]; exact z.own)
          clear hz z S5 fx0 fx1 hne HQ
          by_cases hlt3 : pr < qr
          · as_aux_lemma =>
            have HE := Lib.hid (show O2 = O ++ [⟨pa, pb, pc, pr⟩] by rw [HFT.out, HYES.out hlt3])
            obtain ⟨d0, d1, d2, d3, df⟩ := (S6.out.bx 0 rfl).c4
            have dl := (S6.out.bx 0 rfl).2.2
            have S7 := Lib.hid (S6.out.ext (below_alloc w6 (.cells #[.int .i64 pa, .int .i64 pb, .int .i64 pc, .int .i64 pr] 68)))
            have HN7 := Lib.hid (Rd.new w6 #[.int .i64 pa, .int .i64 pb, .int .i64 pc, .int .i64 pr] 68)
            go_wp2_with (at_builtin; go_loud (refine wpList_appP rfl (.tmp 64) (.tmp 66) 73 rfl st73 1 S7.out rfl rfl rfl (n5 + 1) (flat encP O2) ?_ [.int .i64 pa, .int .i64 pb, .int .i64 pc, .int .i64 pr] (by omega) (by rw [HE.out, ← flatP_snoc]; rfl) HN7.out rfl (encP_one ⟨pa, pb, pc, pr⟩) (by unfold maxLen; omega) (by omega); intro A6 c6 w8 hS8); have S8 := Lib.hid (hS8.cast (qs := [box B 68 [.int .i64 pa, .int .i64 pb, .int .i64 pc, .int .i64 pr], row 68 4 (.slice A6 (n5 + 1) c6) (n5 + 1) (flat encP O2), dat g1 m c2 S]) rfl); clear hS8 S7 HN7 S6 d0 d1 d2 d3 df dl)
            go_roundg (gk - 1)
            case measure => have := I1.out; omega
            case rel => exact ⟨k + 1, A6, n5 + 1, c6, ⟨by omega, by omega⟩, by go_num, rfl, by have := I1.out; omega, by rw [← hO2.out, HE.out, List.length_append, ← I3.out]; rfl, by rw [← hO2.out]; exact S8.out.sub [1, 2] (by decide) rfl⟩
          · as_aux_lemma =>
            have HE := Lib.hid (show O2 = O by rw [HFT.out, HNO.out hlt3])
            go_wp2_with fail
            go_roundg (gk - 1)
            case measure => have := I1.out; omega
            case rel => exact ⟨k + 1, some ⟨g5, 0, none⟩, n5, c5, ⟨by omega, by omega⟩, by go_num, rfl, by have := I1.out; omega, by rw [← hO2.out, HE.out, ← I3.out], by rw [← hO2.out, HE.out]; exact S6.out.sub [1, 2] (by decide) rfl⟩
    have hil : i < us.length := by rw [← HA.out]; exact hlt
    have hix : (i : Int) < (na : Int) := by omega
    have HPT := Lib.hid (ptsT_take l us bs hil)
    have hca := I2.out.rowAt 1 rfl (ints_get hil)
    have hga := (I2.out.rowLt 1 rfl).1
    generalize us[i] = a at *
    have HKi := Lib.hid (HK.out i hlt)
    clear HK HE0 HM hil HF HL
    as_aux_lemma =>
    go_wp2_with fail
    refine (K3.out _ I2.out.bel).mono ?_
    rintro e w3 ⟨g2, cg2, rfl, hO3⟩
    have I4 := Lib.hid (I2.out.call hO3)
    clear hO3 I2 hca hga K3
    go_wp2_with fail
    go_loopg [5, 28] nb (fun q u5 u28 wr => ∃ j : Nat, ∃ A3 m3 c3, (j ≤ nb ∧ m3 ≤ 40401) ∧ u28 = .int .i64 (j : Nat) ∧ u5 = .slice A3 m3 c3 ∧ Hid (j + q = nb ∧ m3 = m + j ∧ Own w wr [row 3 1 (.slice (some ⟨g2, 0, none⟩) nb cg2) nb (ints bs), row 68 4 (.slice A3 m3 c3) m3 (flat encP (ptsT l (us.take i) bs ++ rowP l a (bs.take j))), row 3 1 (.slice (some ⟨g, 0, none⟩) na cg) na (ints us)]))
    case atStart => exact ⟨0, A2, m, c2, by omega, rfl, rfl, by omega, rfl, I4.out.cast (by simp [rowP])⟩
    case round =>
      obtain ⟨j, A3, m3, c3, ⟨hj, hm3⟩, rfl, rfl, hJ⟩ := hrel
      have J1 := Lib.hid hJ.out.1
      have J3 := Lib.hid hJ.out.2.1
      have J2 := Lib.hid hJ.out.2.2
      clear hJ I4
      by_cases hlt2 : j < nb
      case neg => as_aux_lemma =>
        obtain rfl : j = nb := by omega
        have hni : ¬ (j : Int) < (j : Int) := by omega
        have HT := Lib.hid (show bs.take j = bs by rw [List.take_of_length_le (by rw [← HB.out]; exact Nat.le_refl _)])
        rw [HT.out, ← HPT.out] at J2
        clear HT HPT K4
        go_wp2_with fail
        go_roundg (G1 - 1)
        case measure => have := I1.out; omega
        case rel => exact ⟨i + 1, A3, m3, c3, by omega, by go_num, rfl, by have := I1.out; omega, by rw [J3.out, I3.out, HKi.out.2], J2.out.sub [1, 2] (by decide) rfl⟩
      have hjl : j < bs.length := by rw [← HB.out]; exact hlt2
      have hjx : (j : Int) < (nb : Int) := by omega
      have HRT := Lib.hid (show flat encP (ptsT l (us.take i) bs ++ rowP l a (bs.take j)) ++ encP (opF l a bs[j]) = flat encP (ptsT l (us.take i) bs ++ rowP l a (bs.take (j + 1))) by rw [rowP_take l a bs hjl, flatP_snoc, List.append_assoc])
      have hcb := J2.out.rowAt 0 rfl (ints_get hjl)
      have hgb := (J2.out.rowLt 0 rfl).1
      generalize bs[j] = b at *
      have K5 := Lib.hid (K4.out a b wr J2.out.bel)
      have e0 : opF l a b = ⟨a, b, accN l a b, refN l a b⟩ := rfl
      rw [e0] at K5 HRT
      generalize ((accN l a b : Nat) : Int) = x at *
      generalize ((refN l a b : Nat) : Int) = y at *
      simp only [aggP] at K5
      simp only [encP] at HRT
      have HM3 := Lib.hid (show m3 + 1 ≤ 40401 by have := J3.out; have := I3.out; have := HKi.out.1; omega)
      clear e0 hjl K4
      as_aux_lemma =>
      go_wp2_with fail
      refine K5.out.mono ?_
      rintro e w4 ⟨rfl, hb4⟩
      have J4 := Lib.hid (((J2.out.ext hb4).ext (below_alloc w4 (.cells #[.int .i64 a, .int .i64 b, .int .i64 x, .int .i64 y] 68))))
      have HN4 := Lib.hid (Rd.new w4 #[.int .i64 a, .int .i64 b, .int .i64 x, .int .i64 y] 68)
      clear hb4 J2 K5 hcb hgb
      go_wp2_with (at_builtin; go_loud (refine wpList_appP rfl (.tmp 32) (.tmp 37) 73 rfl st73 1 J4.out rfl rfl rfl (m3 + 1) (flat encP (ptsT l (us.take i) bs ++ rowP l a (bs.take (j + 1)))) ?_ [.int .i64 a, .int .i64 b, .int .i64 x, .int .i64 y] (by omega) HRT.out HN4.out rfl (encP_one ⟨a, b, x, y⟩) (by unfold maxLen; omega) (by omega); intro A5 c5 w5 hS5); have S5 := Lib.hid (hS5.cast (qs := [row 3 1 (.slice (some ⟨g2, 0, none⟩) nb cg2) nb (ints bs), row 68 4 (.slice A5 (m3 + 1) c5) (m3 + 1) (flat encP (ptsT l (us.take i) bs ++ rowP l a (bs.take (j + 1)))), row 3 1 (.slice (some ⟨g, 0, none⟩) na cg) na (ints us)]) rfl); clear hS5 J4 HN4)
      go_roundg (gk - 1)
      case measure => have := J1.out; omega
      case rel => exact ⟨j + 1, A5, m3 + 1, c5, ⟨by omega, HM3.out⟩, by go_num, rfl, by have := J1.out; omega, by have := J3.out; omega, S5.out⟩
end Go.Proofs.Ytnalbchggjepdaa
