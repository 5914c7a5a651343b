/- Rates: the law of points and frontiers. No condition. -/
import Derived.Test.YtnalbchggjepdaaZd
namespace Go.Proofs.Ytnalbchggjepdaa
open Go.RowKit Go.Shelf
attribute [local go_sem] Oper.semAt_some

theorem st66 : SlTy Try.prog 66 81 (.agg #[.int .i64 0, .int .i64 0, .bool false]) 3 24 := ⟨Try.underlying66, by kernel_rfl, rfl, by decide⟩
theorem encD_one (l : List Dbl) : ∀ u ∈ flat encD l, u.oneCell' = true := by
  intro u hu
  obtain ⟨x, _, hx⟩ := List.mem_flatMap.1 hu
  simp only [encD, List.mem_cons, List.not_mem_nil, or_false] at hx
  rcases hx with rfl | rfl | rfl <;> rfl
theorem froR_len (l : List Dbl) : (froR l).length ≤ 100000 := by
  by_cases h0 : dblE l = 0
  · obtain ⟨d1, d2⟩ := dblE_ok h0
    rw [dblE_froR h0]
    have h1 := froF_len l
    have h2 : (ptsF l).length = (dsA l).length * (dsB l).length := ptsT_len l (dsA l) (dsB l)
    have h3 := Nat.mul_le_mul (show (dsA l).length ≤ 201 by have := dsA_len l; omega) (show (dsB l).length ≤ 201 by have := dsB_len l; omega)
    omega
  · simp [froR, h0]
theorem flatD_len (l : List Dbl) : (flat encD l).length = l.length * 3 := flat_length encD 3 encD_len l
theorem Own.dblAt {w0 w : World} {ps : List Piece} {n c g : Nat} {l : List Dbl} (h : Own w0 w ps) (i : Nat) (hp : ps[i]? = some (row 81 3 (.slice (some ⟨g, 0, none⟩) n c) n (flat encD l))) {k : Nat} {p : Dbl} (hk : l[k]? = some p) :
    w.cell? ⟨g, k * 3, none⟩ = some (.int .i64 p.a) ∧ w.cell? ⟨g, k * 3 + 1, none⟩ = some (.int .i64 p.b) ∧ w.cell? ⟨g, k * 3 + 2, none⟩ = some (.bool p.same) := by
  have F := fun j (hj : j < 3) => flat_get encD 3 encD_len l k p j hk hj
  exact ⟨h.rowAt i hp (by rw [← Nat.add_zero (k * 3), F 0 (by omega)]; rfl), h.rowAt i hp (by rw [F 1 (by omega)]; rfl), h.rowAt i hp (by rw [F 2 (by omega)]; rfl)⟩
theorem Own.ptAll {w0 w : World} {ps : List Piece} {n c g : Nat} {l : List Pt} (h : Own w0 w ps) (i : Nat) (hp : ps[i]? = some (row 68 4 (.slice (some ⟨g, 0, none⟩) n c) n (flat encP l))) {k : Nat} {p : Pt} (hk : l[k]? = some p) :
    w.cell? ⟨g, k * 4, none⟩ = some (.int .i64 p.a) ∧ w.cell? ⟨g, k * 4 + 1, none⟩ = some (.int .i64 p.b) ∧ w.cell? ⟨g, k * 4 + 2, none⟩ = some (.int .i64 p.acc) ∧ w.cell? ⟨g, k * 4 + 3, none⟩ = some (.int .i64 p.ref) := by
  have F := fun j (hj : j < 4) => flat_get encP 4 encP_len l k p j hk hj
  exact ⟨h.rowAt i hp (by rw [← Nat.add_zero (k * 4), F 0 (by omega)]; rfl), h.rowAt i hp (by rw [F 1 (by omega)]; rfl), h.rowAt i hp (by rw [F 2 (by omega)]; rfl), h.rowAt i hp (by rw [F 3 (by omega)]; rfl)⟩
set_option maxRecDepth 100000 in
set_option maxHeartbeats 8000000 in
theorem ratesFrontiers_walk (A : Option Addr) (l : List Dbl) (n c : Nat) (a b : Int) (w : World) (hr : Rd w A (flat encD l)) (hn : n = l.length) :
    Calls Try.prog 6 #[.slice A n c, .int .i64 a, .int .i64 b] w fun e w' => e = .returned (.bool true) ∧ Below w.heap.size w w' := by
  by_cases h1 : 250 < n
  · have hb : (250 : Int) < (n : Int) := by omega
    clear hr hn
    go_enter Try.func6, Try.ntmps6
    go_wp2_with fail
    go_ret
    exact ⟨rfl, Below.refl _ _⟩
  have hb : ¬ (250 : Int) < (n : Int) := by omega
  by_cases h2 : 40 < n ∧ n ≤ 200
  · have hb2 : (40 : Int) < (n : Int) := by omega
    have hb3 : (n : Int) ≤ 200 := by omega
    clear hr hn h2
    go_enter Try.func6, Try.ntmps6
    go_wp2_with fail
    go_ret
    exact ⟨rfl, Below.refl _ _⟩
  have hn250 : n ≤ 250 := by omega
  obtain ⟨p, f, hp⟩ : ∃ a' b', opeF l a b = (a', b') := ⟨_, _, rfl⟩
  obtain ⟨pa, pb, pc, pr⟩ := p
  have HN := Lib.hid hn
  have HR := Lib.hid hr
  have K1 := Lib.hid (fun B cc W (h : Rd W B (flat encD l)) => operateE_any B l n cc a b W h hn (by omega))
  have K2 := Lib.hid (fun W (h : Below w.heap.size w W) => refOperate_any A l n c a b W (hr.below h) hn (by omega))
  have K3 := Lib.hid (fun B cc W (h : Rd W B (flat encD l)) => frontier_any B l n cc W h hn (by omega))
  have K4 := Lib.hid (fun W (h : Below w.heap.size w W) => refFrontier_any A l n c W (hr.below h) hn (by omega))
  have K5 := Lib.hid (fun B cc W (h : Rd W B (flat encD l)) => checkDoubles_any B l n cc W h hn (by omega))
  have K6 := Lib.hid (fun W (h : Below w.heap.size w W) => refDoubles_any A l n c W (hr.below h) hn (by omega))
  rw [hp] at K1 K2
  simp only [aggP] at K1 K2
  have hNb := froR_len l
  generalize froR l = R at *
  generalize dblE l = v at *
  have hlen := flatD_len l
  rw [← hn] at hlen
  have HFL := Lib.hid hlen
  obtain ⟨N, hN⟩ : ∃ N, N = R.length := ⟨_, rfl⟩
  rw [← hN] at K3 K4 hNb
  have HNR := Lib.hid hN
  have S0 := Lib.hid (((Own.start w).new' 81 #[] (B := w.heap.size) rfl).asRow (n := 0) (size := 3) 0 rfl rfl (by unfold maxLen; omega))
  have HR2 := Lib.hid (hr.below S0.out.bel)
  clear hr hn hp hlen hN h1 hb
  have hb : ¬ (250 : Int) < (n : Int) := by omega
  have HX2 := Lib.hid h2
  by_cases h40 : 40 < n
  · have h40' : (40 : Int) < (n : Int) := by omega
    have h200' : ¬ (n : Int) ≤ 200 := by omega
    clear h2 h40
    as_aux_lemma =>
    go_enter Try.func6, Try.ntmps6
    go_wp2_with (at_builtin; go_loud (refine wpList_appP rfl (.tmp 31) (.tmp 32) 66 rfl st66 0 S0.out rfl rfl rfl n (flat encD l) ?_ (flat encD l) (by omega) rfl HR2.out HFL.out (encD_one l) (by unfold maxLen; omega) (by omega); intro A1 c1 w1 hS1); have S1 := Lib.hid (hS1.cast (qs := [row 81 3 (.slice A1 n c1) n (flat encD l)]) rfl); clear hS1 S0 HR2)
    refine (K1.out A1 c1 _ (S1.out.rd 0 rfl)).mono ?_
    rintro e w2 ⟨rfl, hb2⟩
    obtain ⟨B2, hB2⟩ : ∃ B2, B2 = w2.heap.size := ⟨_, rfl⟩
    have S2 := Lib.hid ((S1.out.ext hb2).new' 68 #[.int .i64 pa, .int .i64 pb, .int .i64 pc, .int .i64 pr] hB2)
    clear hb2 K1 S1
    go_wp2_with fail
    refine (K2.out _ S2.out.bel).mono ?_
    rintro e w3 ⟨rfl, hb3⟩
    obtain ⟨B3, hB3⟩ : ∃ B3, B3 = w3.heap.size := ⟨_, rfl⟩
    have S3 := Lib.hid ((S2.out.ext hb3).new' 68 #[.int .i64 pa, .int .i64 pb, .int .i64 pc, .int .i64 pr] hB3)
    clear hb3 K2 S2
    rw [← hB2]
    clear hB2
    go_wp2_with fail
    refine (K3.out A1 c1 _ (S3.out.rd 2 rfl)).mono ?_
    rintro e w4 ⟨A4, c4, rfl, hO4⟩
    have S4 := Lib.hid (S3.out.call hO4)
    clear hO4 K3 S3
    rw [← hB3]
    clear hB3
    go_wp2_with fail
    refine (K4.out _ S4.out.bel).mono ?_
    rintro e w5 ⟨A5, c5, rfl, hO5⟩
    have S5 := Lib.hid (S4.out.call hO5)
    clear hO5 K4 S4
    go_wp2_with fail
    refine (K5.out A1 c1 _ (S5.out.rd 4 rfl)).mono ?_
    rintro e w6 ⟨rfl, hb6⟩
    have S6 := Lib.hid (S5.out.ext hb6)
    clear hb6 K5 S5
    go_wp2_with fail
    refine (K6.out _ S6.out.bel).mono ?_
    rintro e w7 ⟨rfl, hb7⟩
    have S7 := Lib.hid ((S6.out.ext hb7).cast (qs := [row 68 4 (.slice A5 N c5) N (flat encP R), row 68 4 (.slice A4 N c4) N (flat encP R), box B3 68 [.int .i64 pa, .int .i64 pb, .int .i64 pc, .int .i64 pr], box B2 68 [.int .i64 pa, .int .i64 pb, .int .i64 pc, .int .i64 pr], row 81 3 (.slice A1 n c1) n (flat encD l)]) rfl)
    clear hb7 K6 S6
    obtain ⟨d0, d1, d2, d3, df⟩ := (S7.out.bx 2 rfl).c4
    have dl := (S7.out.bx 2 rfl).2.2
    obtain ⟨e0, e1, e2, e3, ef⟩ := (S7.out.bx 3 rfl).c4
    have el := (S7.out.bx 3 rfl).2.2
    go_wp2_with fail
    have S8 := Lib.hid (S7.out.sub [0, 1, 4] (by decide) (qs := [row 68 4 (.slice A5 N c5) N (flat encP R), row 68 4 (.slice A4 N c4) N (flat encP R), row 81 3 (.slice A1 n c1) n (flat encD l)]) rfl)
    clear S7 d0 d1 d2 d3 df dl e0 e1 e2 e3 ef el
    go_loopg [87] N (fun q u87 wr => ∃ i : Nat, i ≤ N ∧ u87 = .int .i64 (i : Nat) ∧ Hid (i + q = N ∧ Own w wr [row 68 4 (.slice A5 N c5) N (flat encP R), row 68 4 (.slice A4 N c4) N (flat encP R), row 81 3 (.slice A1 n c1) n (flat encD l)]))
    case atStart => exact ⟨0, by omega, rfl, by omega, S8.out⟩
    case round =>
      obtain ⟨i, hi, rfl, hI⟩ := hrel
      have I1 := Lib.hid hI.out.1
      have I2 := Lib.hid hI.out.2
      clear hI S8
      by_cases hlt : i < N
      · as_aux_lemma =>
        have hil : i < R.length := by rw [← HNR.out]; exact hlt
        have hix : (i : Int) < (N : Int) := by omega
        obtain ⟨g5, rfl⟩ := I2.out.rowAddr 0 rfl (by omega)
        obtain ⟨g4, rfl⟩ := I2.out.rowAddr 1 rfl (by omega)
        have HCA := Lib.hid (fun (x : OwnOf w [row 68 4 (.slice (some ⟨g5, 0, none⟩) N c5) N (flat encP R), row 68 4 (.slice (some ⟨g4, 0, none⟩) N c4) N (flat encP R), row 81 3 (.slice A1 n c1) n (flat encD l)]) => x.own.ptAll (g := g5) 0 rfl (List.getElem?_eq_getElem hil))
        have HCB := Lib.hid (fun (x : OwnOf w [row 68 4 (.slice (some ⟨g5, 0, none⟩) N c5) N (flat encP R), row 68 4 (.slice (some ⟨g4, 0, none⟩) N c4) N (flat encP R), row 81 3 (.slice A1 n c1) n (flat encD l)]) => x.own.ptAll (g := g4) 1 rfl (List.getElem?_eq_getElem hil))
        generalize R[i] = q at *
        obtain ⟨qa, qb, qc, qr⟩ := q
        simp only at HCA HCB
        have fx0 := fun x => (HCA.out x).1
        have fx1 := fun x => (HCA.out x).2.1
        have fx2 := fun x => (HCA.out x).2.2.1
        have fx3 := fun x => (HCA.out x).2.2.2
        have fy0 := fun x => (HCB.out x).1
        have fy1 := fun x => (HCB.out x).2.1
        have fy2 := fun x => (HCB.out x).2.2.1
        have fy3 := fun x => (HCB.out x).2.2.2
        have hne : Nonempty (OwnOf w [row 68 4 (.slice (some ⟨g5, 0, none⟩) N c5) N (flat encP R), row 68 4 (.slice (some ⟨g4, 0, none⟩) N c4) N (flat encP R), row 81 3 (.slice A1 n c1) n (flat encD l)]) := ⟨⟨_, I2.out⟩⟩
        clear hil HCA HCB
        go_wp2_with fail
        refine wp_region_own I2.out (by kernel_rfl) (by kernel_rfl) ?_
        iterate 9 (go_big_quiet_step (fail))
        refine wpQuiet_nil ?_
        rintro w9 ⟨z, hz⟩
        have S9 := Lib.hid (show Own w w9 [row 68 4 (.slice (some ⟨g5, 0, none⟩) N c5) N (flat encP R), row 68 4 (.slice (some ⟨g4, 0, none⟩) N c4) N (flat encP R), row 81 3 (.slice A1 n c1) n (flat encD l)] by rw [hz]; exact z.own)
        clear hz z I2 fx0 fx1 fx2 fx3 fy0 fy1 fy2 fy3 hne
        go_wp2_with fail
        go_roundg (gk - 1)
        case measure => have := I1.out; omega
        case rel => exact ⟨i + 1, by omega, by go_num, by have := I1.out; omega, S9.out⟩
      · as_aux_lemma =>
        obtain rfl : N = i := by omega
        have hni : ¬ (N : Int) < (N : Int) := by omega
        have S9 := Lib.hid (I2.out.sub [2] (by decide) (qs := [row 81 3 (.slice A1 n c1) n (flat encD l)]) rfl)
        clear I2 I1
        go_wp2_with fail
        go_loopg [102] n (fun q u102 wr => ∃ j : Nat, j ≤ n ∧ u102 = .int .i64 (j : Nat) ∧ Hid (j + q = n ∧ Own w wr [row 81 3 (.slice A1 n c1) n (flat encD l)]))
        case atStart => exact ⟨0, by omega, rfl, by omega, S9.out⟩
        case round =>
          obtain ⟨j, hj, rfl, hJ⟩ := hrel
          have J1 := Lib.hid hJ.out.1
          have J2 := Lib.hid hJ.out.2
          clear hJ S9
          by_cases hlt2 : j < n
          · as_aux_lemma =>
            have hjl : j < l.length := by rw [← HN.out]; exact hlt2
            have hjx : (j : Int) < (n : Int) := by omega
            obtain ⟨g1, rfl⟩ := J2.out.rowAddr 0 rfl (by omega)
            obtain ⟨bb, off, rfl, -, -, -, -⟩ := HR.out.dbl hjl
            have HCA := Lib.hid (fun (x : OwnOf w [row 81 3 (.slice (some ⟨g1, 0, none⟩) n c1) n (flat encD l)]) => x.own.dblAt (g := g1) 0 rfl (List.getElem?_eq_getElem hjl))
            have HCB := Lib.hid (fun (x : OwnOf w [row 81 3 (.slice (some ⟨g1, 0, none⟩) n c1) n (flat encD l)]) => (show x.wld.cell? ⟨bb, off + j * 3, none⟩ = some (.int .i64 l[j].a) ∧ x.wld.cell? ⟨bb, off + j * 3 + 1, none⟩ = some (.int .i64 l[j].b) ∧ x.wld.cell? ⟨bb, off + j * 3 + 2, none⟩ = some (.bool l[j].same) by
              obtain ⟨b1, o1, e1, _, c1, c2, c3⟩ := (x.rd HR.out).dbl hjl
              injection e1 with e1
              injection e1 with e1 e2
              subst e1 e2
              exact ⟨c1, c2, c3⟩))
            generalize l[j] = q at *
            obtain ⟨qa, qb, qs⟩ := q
            simp only at HCA HCB
            have fx0 := fun x => (HCA.out x).1
            have fx1 := fun x => (HCA.out x).2.1
            have fx2 := fun x => (HCA.out x).2.2
            have fy0 := fun x => (HCB.out x).1
            have fy1 := fun x => (HCB.out x).2.1
            have fy2 := fun x => (HCB.out x).2.2
            have hne : Nonempty (OwnOf w [row 81 3 (.slice (some ⟨g1, 0, none⟩) n c1) n (flat encD l)]) := ⟨⟨_, J2.out⟩⟩
            clear hjl HCA HCB
            go_wp2_with fail
            refine wp_region_own J2.out (by kernel_rfl) (by kernel_rfl) ?_
            iterate 9 (go_big_quiet_step (fail))
            refine wpQuiet_nil ?_
            rintro w9 ⟨z, hz⟩
            have S9 := Lib.hid (show Own w w9 [row 81 3 (.slice (some ⟨g1, 0, none⟩) n c1) n (flat encD l)] by rw [hz]; exact z.own)
            clear hz z J2 fx0 fx1 fx2 fy0 fy1 fy2 hne
            go_wp2_with fail
            go_roundg (gk - 1)
            case measure => have := J1.out; omega
            case rel => exact ⟨j + 1, by omega, by go_num, by have := J1.out; omega, S9.out⟩
          · as_aux_lemma =>
            obtain rfl : n = j := by omega
            have hnj : ¬ (n : Int) < (n : Int) := by omega
            go_wp2_with fail
            go_ret
            exact ⟨rfl, J2.out.bel⟩
  · have h40' : ¬ (40 : Int) < (n : Int) := by omega
    clear h2 h40
    as_aux_lemma =>
    go_enter Try.func6, Try.ntmps6
    go_wp2_with (at_builtin; go_loud (refine wpList_appP rfl (.tmp 31) (.tmp 32) 66 rfl st66 0 S0.out rfl rfl rfl n (flat encD l) ?_ (flat encD l) (by omega) rfl HR2.out HFL.out (encD_one l) (by unfold maxLen; omega) (by omega); intro A1 c1 w1 hS1); have S1 := Lib.hid (hS1.cast (qs := [row 81 3 (.slice A1 n c1) n (flat encD l)]) rfl); clear hS1 S0 HR2)
    refine (K1.out A1 c1 _ (S1.out.rd 0 rfl)).mono ?_
    rintro e w2 ⟨rfl, hb2⟩
    obtain ⟨B2, hB2⟩ : ∃ B2, B2 = w2.heap.size := ⟨_, rfl⟩
    have S2 := Lib.hid ((S1.out.ext hb2).new' 68 #[.int .i64 pa, .int .i64 pb, .int .i64 pc, .int .i64 pr] hB2)
    clear hb2 K1 S1
    go_wp2_with fail
    refine (K2.out _ S2.out.bel).mono ?_
    rintro e w3 ⟨rfl, hb3⟩
    obtain ⟨B3, hB3⟩ : ∃ B3, B3 = w3.heap.size := ⟨_, rfl⟩
    have S3 := Lib.hid ((S2.out.ext hb3).new' 68 #[.int .i64 pa, .int .i64 pb, .int .i64 pc, .int .i64 pr] hB3)
    clear hb3 K2 S2
    rw [← hB2]
    clear hB2
    go_wp2_with fail
    refine (K3.out A1 c1 _ (S3.out.rd 2 rfl)).mono ?_
    rintro e w4 ⟨A4, c4, rfl, hO4⟩
    have S4 := Lib.hid (S3.out.call hO4)
    clear hO4 K3 S3
    rw [← hB3]
    clear hB3
    go_wp2_with fail
    refine (K4.out _ S4.out.bel).mono ?_
    rintro e w5 ⟨A5, c5, rfl, hO5⟩
    have S5 := Lib.hid (S4.out.call hO5)
    clear hO5 K4 S4
    go_wp2_with fail
    refine (K5.out A1 c1 _ (S5.out.rd 4 rfl)).mono ?_
    rintro e w6 ⟨rfl, hb6⟩
    have S6 := Lib.hid (S5.out.ext hb6)
    clear hb6 K5 S5
    go_wp2_with fail
    refine (K6.out _ S6.out.bel).mono ?_
    rintro e w7 ⟨rfl, hb7⟩
    have S7 := Lib.hid ((S6.out.ext hb7).cast (qs := [row 68 4 (.slice A5 N c5) N (flat encP R), row 68 4 (.slice A4 N c4) N (flat encP R), box B3 68 [.int .i64 pa, .int .i64 pb, .int .i64 pc, .int .i64 pr], box B2 68 [.int .i64 pa, .int .i64 pb, .int .i64 pc, .int .i64 pr], row 81 3 (.slice A1 n c1) n (flat encD l)]) rfl)
    clear hb7 K6 S6
    obtain ⟨d0, d1, d2, d3, df⟩ := (S7.out.bx 2 rfl).c4
    have dl := (S7.out.bx 2 rfl).2.2
    obtain ⟨e0, e1, e2, e3, ef⟩ := (S7.out.bx 3 rfl).c4
    have el := (S7.out.bx 3 rfl).2.2
    go_wp2_with fail
    have S8 := Lib.hid (S7.out.sub [0, 1, 4] (by decide) (qs := [row 68 4 (.slice A5 N c5) N (flat encP R), row 68 4 (.slice A4 N c4) N (flat encP R), row 81 3 (.slice A1 n c1) n (flat encD l)]) rfl)
    clear S7 d0 d1 d2 d3 df dl e0 e1 e2 e3 ef el
    go_loopg [87] N (fun q u87 wr => ∃ i : Nat, i ≤ N ∧ u87 = .int .i64 (i : Nat) ∧ Hid (i + q = N ∧ Own w wr [row 68 4 (.slice A5 N c5) N (flat encP R), row 68 4 (.slice A4 N c4) N (flat encP R), row 81 3 (.slice A1 n c1) n (flat encD l)]))
    case atStart => exact ⟨0, by omega, rfl, by omega, S8.out⟩
    case round =>
      obtain ⟨i, hi, rfl, hI⟩ := hrel
      have I1 := Lib.hid hI.out.1
      have I2 := Lib.hid hI.out.2
      clear hI S8
      by_cases hlt : i < N
      · as_aux_lemma =>
        have hil : i < R.length := by rw [← HNR.out]; exact hlt
        have hix : (i : Int) < (N : Int) := by omega
        obtain ⟨g5, rfl⟩ := I2.out.rowAddr 0 rfl (by omega)
        obtain ⟨g4, rfl⟩ := I2.out.rowAddr 1 rfl (by omega)
        have HCA := Lib.hid (fun (x : OwnOf w [row 68 4 (.slice (some ⟨g5, 0, none⟩) N c5) N (flat encP R), row 68 4 (.slice (some ⟨g4, 0, none⟩) N c4) N (flat encP R), row 81 3 (.slice A1 n c1) n (flat encD l)]) => x.own.ptAll (g := g5) 0 rfl (List.getElem?_eq_getElem hil))
        have HCB := Lib.hid (fun (x : OwnOf w [row 68 4 (.slice (some ⟨g5, 0, none⟩) N c5) N (flat encP R), row 68 4 (.slice (some ⟨g4, 0, none⟩) N c4) N (flat encP R), row 81 3 (.slice A1 n c1) n (flat encD l)]) => x.own.ptAll (g := g4) 1 rfl (List.getElem?_eq_getElem hil))
        generalize R[i] = q at *
        obtain ⟨qa, qb, qc, qr⟩ := q
        simp only at HCA HCB
        have fx0 := fun x => (HCA.out x).1
        have fx1 := fun x => (HCA.out x).2.1
        have fx2 := fun x => (HCA.out x).2.2.1
        have fx3 := fun x => (HCA.out x).2.2.2
        have fy0 := fun x => (HCB.out x).1
        have fy1 := fun x => (HCB.out x).2.1
        have fy2 := fun x => (HCB.out x).2.2.1
        have fy3 := fun x => (HCB.out x).2.2.2
        have hne : Nonempty (OwnOf w [row 68 4 (.slice (some ⟨g5, 0, none⟩) N c5) N (flat encP R), row 68 4 (.slice (some ⟨g4, 0, none⟩) N c4) N (flat encP R), row 81 3 (.slice A1 n c1) n (flat encD l)]) := ⟨⟨_, I2.out⟩⟩
        clear hil HCA HCB
        go_wp2_with fail
        refine wp_region_own I2.out (by kernel_rfl) (by kernel_rfl) ?_
        iterate 9 (go_big_quiet_step (fail))
        refine wpQuiet_nil ?_
        rintro w9 ⟨z, hz⟩
        have S9 := Lib.hid (show Own w w9 [row 68 4 (.slice (some ⟨g5, 0, none⟩) N c5) N (flat encP R), row 68 4 (.slice (some ⟨g4, 0, none⟩) N c4) N (flat encP R), row 81 3 (.slice A1 n c1) n (flat encD l)] by rw [hz]; exact z.own)
        clear hz z I2 fx0 fx1 fx2 fx3 fy0 fy1 fy2 fy3 hne
        go_wp2_with fail
        go_roundg (gk - 1)
        case measure => have := I1.out; omega
        case rel => exact ⟨i + 1, by omega, by go_num, by have := I1.out; omega, S9.out⟩
      · as_aux_lemma =>
        obtain rfl : N = i := by omega
        have hni : ¬ (N : Int) < (N : Int) := by omega
        have S9 := Lib.hid (I2.out.sub [2] (by decide) (qs := [row 81 3 (.slice A1 n c1) n (flat encD l)]) rfl)
        clear I2 I1
        go_wp2_with fail
        go_loopg [102] n (fun q u102 wr => ∃ j : Nat, j ≤ n ∧ u102 = .int .i64 (j : Nat) ∧ Hid (j + q = n ∧ Own w wr [row 81 3 (.slice A1 n c1) n (flat encD l)]))
        case atStart => exact ⟨0, by omega, rfl, by omega, S9.out⟩
        case round =>
          obtain ⟨j, hj, rfl, hJ⟩ := hrel
          have J1 := Lib.hid hJ.out.1
          have J2 := Lib.hid hJ.out.2
          clear hJ S9
          by_cases hlt2 : j < n
          · as_aux_lemma =>
            have hjl : j < l.length := by rw [← HN.out]; exact hlt2
            have hjx : (j : Int) < (n : Int) := by omega
            obtain ⟨g1, rfl⟩ := J2.out.rowAddr 0 rfl (by omega)
            obtain ⟨bb, off, rfl, -, -, -, -⟩ := HR.out.dbl hjl
            have HCA := Lib.hid (fun (x : OwnOf w [row 81 3 (.slice (some ⟨g1, 0, none⟩) n c1) n (flat encD l)]) => x.own.dblAt (g := g1) 0 rfl (List.getElem?_eq_getElem hjl))
            have HCB := Lib.hid (fun (x : OwnOf w [row 81 3 (.slice (some ⟨g1, 0, none⟩) n c1) n (flat encD l)]) => (show x.wld.cell? ⟨bb, off + j * 3, none⟩ = some (.int .i64 l[j].a) ∧ x.wld.cell? ⟨bb, off + j * 3 + 1, none⟩ = some (.int .i64 l[j].b) ∧ x.wld.cell? ⟨bb, off + j * 3 + 2, none⟩ = some (.bool l[j].same) by
              obtain ⟨b1, o1, e1, _, c1, c2, c3⟩ := (x.rd HR.out).dbl hjl
              injection e1 with e1
              injection e1 with e1 e2
              subst e1 e2
              exact ⟨c1, c2, c3⟩))
            generalize l[j] = q at *
            obtain ⟨qa, qb, qs⟩ := q
            simp only at HCA HCB
            have fx0 := fun x => (HCA.out x).1
            have fx1 := fun x => (HCA.out x).2.1
            have fx2 := fun x => (HCA.out x).2.2
            have fy0 := fun x => (HCB.out x).1
            have fy1 := fun x => (HCB.out x).2.1
            have fy2 := fun x => (HCB.out x).2.2
            have hne : Nonempty (OwnOf w [row 81 3 (.slice (some ⟨g1, 0, none⟩) n c1) n (flat encD l)]) := ⟨⟨_, J2.out⟩⟩
            clear hjl HCA HCB
            go_wp2_with fail
            refine wp_region_own J2.out (by kernel_rfl) (by kernel_rfl) ?_
            iterate 9 (go_big_quiet_step (fail))
            refine wpQuiet_nil ?_
            rintro w9 ⟨z, hz⟩
            have S9 := Lib.hid (show Own w w9 [row 81 3 (.slice (some ⟨g1, 0, none⟩) n c1) n (flat encD l)] by rw [hz]; exact z.own)
            clear hz z J2 fx0 fx1 fx2 fy0 fy1 fy2 hne
            go_wp2_with fail
            go_roundg (gk - 1)
            case measure => have := J1.out; omega
            case rel => exact ⟨j + 1, by omega, by go_num, by have := J1.out; omega, S9.out⟩
          · as_aux_lemma =>
            obtain rfl : n = j := by omega
            have hnj : ¬ (n : Int) < (n : Int) := by omega
            go_wp2_with fail
            go_ret
            exact ⟨rfl, J2.out.bel⟩
end Go.Proofs.Ytnalbchggjepdaa
