/- Rates: the walk of RatesGroups. No condition. -/
import Derived.Test.YtnalbchggjepdaaGi
import Derived.Test.YtnalbchggjepdaaGk
import Derived.Test.YtnalbchggjepdaaZe
namespace Go.Proofs.Ytnalbchggjepdaa
open Go.RowKit Go.Shelf
attribute [local go_sem] Oper.semAt_some

theorem st49 : SlTy Try.prog 49 64 (.agg #[.int .i64 0, .int .i64 0, .bool false]) 3 24 := ⟨Try.underlying49, by kernel_rfl, rfl, by decide⟩
theorem Own.triAt {w0 w : World} {ps : List Piece} {n c g : Nat} {l : List Dbl} (h : Own w0 w ps) (i : Nat) (hp : ps[i]? = some (row 64 3 (.slice (some ⟨g, 0, none⟩) n c) n (flat encD l))) {k : Nat} {p : Dbl} (hk : l[k]? = some p) :
    w.cell? ⟨g, k * 3, none⟩ = some (.int .i64 p.a) ∧ w.cell? ⟨g, k * 3 + 1, none⟩ = some (.int .i64 p.b) ∧ w.cell? ⟨g, k * 3 + 2, none⟩ = some (.bool p.same) := by
  have F := fun j (hj : j < 3) => flat_get encD 3 encD_len l k p j hk hj
  exact ⟨h.rowAt i hp (by rw [← Nat.add_zero (k * 3), F 0 (by omega)]; rfl), h.rowAt i hp (by rw [F 1 (by omega)]; rfl), h.rowAt i hp (by rw [F 2 (by omega)]; rfl)⟩
theorem errC_at (l : List Dbl) (ths : List Int) {i j : Nat} (hi : i < errN l ths) (hj : j < 4) : (errC l ths)[i * 4 + j]? = some (.int .i64 ((cntR ths i j l : Nat) : Int)) := by
  unfold errN at hi
  unfold errC
  split at hi
  · rw [if_pos (by assumption)]; exact cellsR_at ths l hi hj
  · omega
theorem errN_le (l : List Dbl) (ths : List Int) : errN l ths ≤ 8 := by unfold errN; split <;> omega
theorem thsN_le (l : List Dbl) (num den : Int) : thsN l num den ≤ 8 := by unfold thsN; split <;> omega
set_option maxRecDepth 100000 in
set_option maxHeartbeats 8000000 in
theorem ratesGroups_walk (A A2 : Option Addr) (l : List Dbl) (ths : List Int) (n c n2 c2 : Nat) (num den : Int) (w : World) (hr : Rd w A (flat encD l)) (hn : n = l.length) (hr2 : Rd w A2 (ints ths)) (hn2 : n2 = ths.length) :
    Calls Try.prog 5 #[.slice A n c, .agg #[.int .i64 num, .int .i64 den], .slice A2 n2 c2] w fun e w' => e = .returned (.bool true) ∧ Below w.heap.size w w' := by
  by_cases hbig : 250 < n
  · have hb : (250 : Int) < (n : Int) := by omega
    have S0 := Lib.hid ((Own.start w).new' 23 #[.int .i64 num, .int .i64 den] (B := w.heap.size) rfl)
    clear hr hn hr2 hn2
    go_enter Try.func5, Try.ntmps5
    go_wp2_with fail
    go_ret
    exact ⟨rfl, S0.out.bel⟩
  have hb : ¬ (250 : Int) < (n : Int) := by omega
  by_cases hbig2 : 20 < n2
  · have hb2 : (20 : Int) < (n2 : Int) := by omega
    have S0 := Lib.hid ((Own.start w).new' 23 #[.int .i64 num, .int .i64 den] (B := w.heap.size) rfl)
    clear hr hn hr2 hn2
    go_enter Try.func5, Try.ntmps5
    go_wp2_with fail
    go_ret
    exact ⟨rfl, S0.out.bel⟩
  have hb2 : ¬ (20 : Int) < (n2 : Int) := by omega
  have hn250 : n ≤ 250 := by omega
  have hn20 : n2 ≤ 20 := by omega
  have HN := Lib.hid hn
  have HN2 := Lib.hid hn2
  have HR := Lib.hid hr
  have HR2 := Lib.hid hr2
  have K1 := Lib.hid (fun B cc W (h : Rd W B (flat encD l)) => thresholds_any B l n cc num den W h hn (by omega))
  have K2 := Lib.hid (fun W (h : Below w.heap.size w W) => refThresholds_any A l n c num den W (hr.below h) hn (by omega))
  have K3 := Lib.hid (fun B cc B2 cc2 W (h : Rd W B (flat encD l)) (h2 : Rd W B2 (ints ths)) => errors_any B B2 l ths n cc n2 cc2 W h hn (by omega) h2 hn2 (by omega))
  have K4 := Lib.hid (fun W (h : Below w.heap.size w W) => refErrors_any A A2 l ths n c n2 c2 W (hr.below h) hn (by omega) (hr2.below h) hn2 (by omega))
  have K5 := Lib.hid (fun B cc W (h : Rd W B (flat encD l)) => checkTrials_any B l n cc W h hn (by omega))
  have K6 := Lib.hid (fun W (h : Below w.heap.size w W) => refTrials_any A l n c W (hr.below h) hn (by omega))
  have hXN := thsN_is l num den
  have hX8 := thsN_le l num den
  have hE8 := errN_le l ths
  have HE := Lib.hid (fun i j (hi : i < errN l ths) (hj : j < 4) => errC_at l ths hi hj)
  generalize thsR l num den = X at *
  generalize thsN l num den = N at *
  generalize thsE l num den = e1 at *
  generalize errC l ths = E at *
  generalize errN l ths = M at *
  generalize errF l ths = e2 at *
  generalize trlE l = v at *
  have K7 := Lib.hid (fun B B' cc cc' W (h : Rd W B (ints X)) (h' : Rd W B' (ints X)) => sameInts_any X X B B' N N cc cc' W h h' hXN hXN (by omega))
  have K8 := Lib.hid (fun B cc W (h : Rd W B (ints ths)) (hb : Below w.heap.size w W) => sameInts_any ths ths B A2 n2 n2 cc c2 W h (hr2.below hb) hn2 hn2 (by omega))
  rw [decide_eq_true rfl] at K7 K8
  have hlen := flatD_len l
  rw [← hn] at hlen
  have HFL := Lib.hid hlen
  have hilen : (ints ths).length = n2 * 1 := by simp [ints, hn2]
  have HIL := Lib.hid hilen
  have S0 := Lib.hid ((((Own.start w).new' 23 #[.int .i64 num, .int .i64 den] (B := w.heap.size) rfl).new' 64 #[] (B := w.heap.size + 1) (by simp)).asRow (n := 0) (size := 3) 0 rfl rfl (by unfold maxLen; omega))
  have HRA := Lib.hid (hr.below S0.out.bel)
  clear hr hn hr2 hn2 hlen hilen hXN hbig hbig2
  go_enter Try.func5, Try.ntmps5
  go_wp2_with (first
    | (at_builtin; (refine wpList_appP rfl (.tmp 27) (.tmp 28) 49 rfl st49 0 S0.out rfl rfl rfl n (flat encD l) ?_ (flat encD l) (by omega) rfl HRA.out HFL.out (encD_one l) (by unfold maxLen; omega) (by omega); intro A1 c1 w1 hS1); have S1 := Lib.hid (((hS1.cast (qs := [row 64 3 (.slice A1 n c1) n (flat encD l), box w.heap.size 23 [.int .i64 num, .int .i64 den]]) rfl).new' 3 #[] (B := w1.heap.size) rfl).asRow (n := 0) (size := 1) 0 rfl rfl (by unfold maxLen; omega)); have HRB := Lib.hid (HR2.out.below S1.out.bel); clear hS1 S0 HRA)
    | (at_builtin; (refine wpList_appP rfl (.tmp 30) (.tmp 31) 36 rfl st36 0 S1.out rfl rfl rfl n2 (ints ths) ?_ (ints ths) (by omega) rfl HRB.out HIL.out (ints_one ths) (by unfold maxLen; omega) (by omega); intro A3 c3 w2 hS2); have S2 := Lib.hid (hS2.cast (qs := [row 3 1 (.slice A3 n2 c3) n2 (ints ths), row 64 3 (.slice A1 n c1) n (flat encD l), box w.heap.size 23 [.int .i64 num, .int .i64 den]]) rfl); obtain ⟨c0, c1', _⟩ := (S2.out.bx 2 rfl).c2; clear hS2 S1 HRB))
  refine (K1.out A1 c1 _ (S2.out.rd 1 rfl)).mono ?_
  rintro e w3 ⟨A4, c4, rfl, hO3⟩
  have S3 := Lib.hid (S2.out.call hO3)
  clear hO3 K1 S2 c0 c1'
  obtain ⟨c0, c1', _⟩ := (S3.out.bx 3 rfl).c2
  go_wp2_with fail
  refine (K2.out _ S3.out.bel).mono ?_
  rintro e w4 ⟨A5, c5, rfl, hO4⟩
  have S4 := Lib.hid (S3.out.call hO4)
  clear hO4 K2 S3 c0 c1'
  go_wp2_with fail
  refine (K3.out A1 c1 A3 c3 _ (S4.out.rd 3 rfl) (S4.out.rd 2 rfl)).mono ?_
  rintro e w5 ⟨A6, c6, rfl, hO5⟩
  have S5 := Lib.hid (S4.out.call hO5)
  clear hO5 K3 S4
  go_wp2_with fail
  refine (K4.out _ S5.out.bel).mono ?_
  rintro e w6 ⟨A7, c7, rfl, hO6⟩
  have S6 := Lib.hid ((S5.out.call hO6).cast (qs := [row 62 4 (.slice A7 M c7) M E, row 62 4 (.slice A6 M c6) M E, row 3 1 (.slice A5 N c5) N (ints X), row 3 1 (.slice A4 N c4) N (ints X), row 3 1 (.slice A3 n2 c3) n2 (ints ths), row 64 3 (.slice A1 n c1) n (flat encD l), box w.heap.size 23 [.int .i64 num, .int .i64 den]]) rfl)
  clear hO6 K4 S5
  go_wp2_with fail
  refine (K5.out A1 c1 _ (S6.out.rd 5 rfl)).mono ?_
  rintro e w7 ⟨rfl, hb7⟩
  have S7 := Lib.hid (S6.out.ext hb7)
  clear hb7 K5 S6
  go_wp2_with fail
  refine (K6.out _ S7.out.bel).mono ?_
  rintro e w8 ⟨rfl, hb8⟩
  have S8 := Lib.hid (S7.out.ext hb8)
  clear hb8 K6 S7
  go_wp2_with fail
  refine (K7.out A4 A5 c4 c5 _ (S8.out.rd 3 rfl) (S8.out.rd 2 rfl)).mono ?_
  rintro e w9 ⟨rfl, hb9⟩
  have S9 := Lib.hid (S8.out.ext hb9)
  clear hb9 K7 S8
  go_wp2_with fail
  refine (K8.out A3 c3 _ (S9.out.rd 4 rfl) S9.out.bel).mono ?_
  rintro e wa ⟨rfl, hba⟩
  have SA := Lib.hid ((S9.out.ext hba).sub [1, 0, 5] (by decide) (qs := [row 62 4 (.slice A6 M c6) M E, row 62 4 (.slice A7 M c7) M E, row 64 3 (.slice A1 n c1) n (flat encD l)]) rfl)
  clear hba K8 S9
  go_wp2_with fail
  go_loopg [93] M (fun q u93 wr => ∃ i : Nat, i ≤ M ∧ u93 = .int .i64 (i : Nat) ∧ Hid (i + q = M ∧ Own w wr [row 62 4 (.slice A6 M c6) M E, row 62 4 (.slice A7 M c7) M E, row 64 3 (.slice A1 n c1) n (flat encD l)]))
  case atStart => exact ⟨0, by omega, rfl, by omega, SA.out⟩
  case round =>
    obtain ⟨i, hi, rfl, hI⟩ := hrel
    have I1 := Lib.hid hI.out.1
    have I2 := Lib.hid hI.out.2
    clear hI SA
    by_cases hlt : i < M
    · as_aux_lemma =>
      have hix : (i : Int) < (M : Int) := by omega
      obtain ⟨g6, rfl⟩ := I2.out.rowAddr 0 rfl (by omega)
      obtain ⟨g7, rfl⟩ := I2.out.rowAddr 1 rfl (by omega)
      generalize hq0 : cntR ths i 0 l = q0 at *
      generalize hq1 : cntR ths i 1 l = q1 at *
      generalize hq2 : cntR ths i 2 l = q2 at *
      generalize hq3 : cntR ths i 3 l = q3 at *
      have fx0 : ∀ x : OwnOf w [row 62 4 (.slice (some ⟨g6, 0, none⟩) M c6) M E, row 62 4 (.slice (some ⟨g7, 0, none⟩) M c7) M E, row 64 3 (.slice A1 n c1) n (flat encD l)], x.wld.cell? ⟨g6, i * 4, none⟩ = some (.int .i64 ((q0 : Nat) : Int)) := fun x => x.own.rowAt (g := g6) 0 rfl (by rw [← hq0]; exact HE.out i 0 hlt (by omega))
      have fx1 : ∀ x : OwnOf w [row 62 4 (.slice (some ⟨g6, 0, none⟩) M c6) M E, row 62 4 (.slice (some ⟨g7, 0, none⟩) M c7) M E, row 64 3 (.slice A1 n c1) n (flat encD l)], x.wld.cell? ⟨g6, i * 4 + 1, none⟩ = some (.int .i64 ((q1 : Nat) : Int)) := fun x => x.own.rowAt (g := g6) 0 rfl (by rw [← hq1]; exact HE.out i 1 hlt (by omega))
      have fx2 : ∀ x : OwnOf w [row 62 4 (.slice (some ⟨g6, 0, none⟩) M c6) M E, row 62 4 (.slice (some ⟨g7, 0, none⟩) M c7) M E, row 64 3 (.slice A1 n c1) n (flat encD l)], x.wld.cell? ⟨g6, i * 4 + 2, none⟩ = some (.int .i64 ((q2 : Nat) : Int)) := fun x => x.own.rowAt (g := g6) 0 rfl (by rw [← hq2]; exact HE.out i 2 hlt (by omega))
      have fx3 : ∀ x : OwnOf w [row 62 4 (.slice (some ⟨g6, 0, none⟩) M c6) M E, row 62 4 (.slice (some ⟨g7, 0, none⟩) M c7) M E, row 64 3 (.slice A1 n c1) n (flat encD l)], x.wld.cell? ⟨g6, i * 4 + 3, none⟩ = some (.int .i64 ((q3 : Nat) : Int)) := fun x => x.own.rowAt (g := g6) 0 rfl (by rw [← hq3]; exact HE.out i 3 hlt (by omega))
      have fy0 : ∀ x : OwnOf w [row 62 4 (.slice (some ⟨g6, 0, none⟩) M c6) M E, row 62 4 (.slice (some ⟨g7, 0, none⟩) M c7) M E, row 64 3 (.slice A1 n c1) n (flat encD l)], x.wld.cell? ⟨g7, i * 4, none⟩ = some (.int .i64 ((q0 : Nat) : Int)) := fun x => x.own.rowAt (g := g7) 1 rfl (by rw [← hq0]; exact HE.out i 0 hlt (by omega))
      have fy1 : ∀ x : OwnOf w [row 62 4 (.slice (some ⟨g6, 0, none⟩) M c6) M E, row 62 4 (.slice (some ⟨g7, 0, none⟩) M c7) M E, row 64 3 (.slice A1 n c1) n (flat encD l)], x.wld.cell? ⟨g7, i * 4 + 1, none⟩ = some (.int .i64 ((q1 : Nat) : Int)) := fun x => x.own.rowAt (g := g7) 1 rfl (by rw [← hq1]; exact HE.out i 1 hlt (by omega))
      have fy2 : ∀ x : OwnOf w [row 62 4 (.slice (some ⟨g6, 0, none⟩) M c6) M E, row 62 4 (.slice (some ⟨g7, 0, none⟩) M c7) M E, row 64 3 (.slice A1 n c1) n (flat encD l)], x.wld.cell? ⟨g7, i * 4 + 2, none⟩ = some (.int .i64 ((q2 : Nat) : Int)) := fun x => x.own.rowAt (g := g7) 1 rfl (by rw [← hq2]; exact HE.out i 2 hlt (by omega))
      have fy3 : ∀ x : OwnOf w [row 62 4 (.slice (some ⟨g6, 0, none⟩) M c6) M E, row 62 4 (.slice (some ⟨g7, 0, none⟩) M c7) M E, row 64 3 (.slice A1 n c1) n (flat encD l)], x.wld.cell? ⟨g7, i * 4 + 3, none⟩ = some (.int .i64 ((q3 : Nat) : Int)) := fun x => x.own.rowAt (g := g7) 1 rfl (by rw [← hq3]; exact HE.out i 3 hlt (by omega))
      have hne : Nonempty (OwnOf w [row 62 4 (.slice (some ⟨g6, 0, none⟩) M c6) M E, row 62 4 (.slice (some ⟨g7, 0, none⟩) M c7) M E, row 64 3 (.slice A1 n c1) n (flat encD l)]) := ⟨⟨_, I2.out⟩⟩
      clear hq0 hq1 hq2 hq3
      go_wp2_with fail
      refine wp_region_own I2.out (by kernel_rfl) (by kernel_rfl) ?_
      iterate 9 (go_big_quiet_step (fail))
      refine wpQuiet_nil ?_
      rintro wb ⟨z, hz⟩
      have SB := Lib.hid (show Own w wb [row 62 4 (.slice (some ⟨g6, 0, none⟩) M c6) M E, row 62 4 (.slice (some ⟨g7, 0, none⟩) M c7) M E, row 64 3 (.slice A1 n c1) n (flat encD l)] by rw [hz]; exact z.own)
      clear hz z I2 fx0 fx1 fx2 fx3 fy0 fy1 fy2 fy3 hne
      go_wp2_with fail
      go_roundg (gk - 1)
      case measure => have := I1.out; omega
      case rel => exact ⟨i + 1, by omega, by go_num, by have := I1.out; omega, SB.out⟩
    · as_aux_lemma =>
      obtain rfl : M = i := by omega
      have hni : ¬ (M : Int) < (M : Int) := by omega
      have SB := Lib.hid (I2.out.sub [2] (by decide) (qs := [row 64 3 (.slice A1 n c1) n (flat encD l)]) rfl)
      clear I2 I1
      go_wp2_with fail
      go_loopg [108] n (fun q u108 wr => ∃ j : Nat, j ≤ n ∧ u108 = .int .i64 (j : Nat) ∧ Hid (j + q = n ∧ Own w wr [row 64 3 (.slice A1 n c1) n (flat encD l)]))
      case atStart => exact ⟨0, by omega, rfl, by omega, SB.out⟩
      case round =>
        obtain ⟨j, hj, rfl, hJ⟩ := hrel
        have J1 := Lib.hid hJ.out.1
        have J2 := Lib.hid hJ.out.2
        clear hJ SB
        by_cases hlt2 : j < n
        · as_aux_lemma =>
          have hjl : j < l.length := by rw [← HN.out]; exact hlt2
          have hjx : (j : Int) < (n : Int) := by omega
          obtain ⟨g1, rfl⟩ := J2.out.rowAddr 0 rfl (by omega)
          obtain ⟨bb, off, rfl, -, -, -, -⟩ := HR.out.dbl hjl
          have HCA := Lib.hid (fun (x : OwnOf w [row 64 3 (.slice (some ⟨g1, 0, none⟩) n c1) n (flat encD l)]) => x.own.triAt (g := g1) 0 rfl (List.getElem?_eq_getElem hjl))
          have HCB := Lib.hid (fun (x : OwnOf w [row 64 3 (.slice (some ⟨g1, 0, none⟩) n c1) n (flat encD l)]) => (show x.wld.cell? ⟨bb, off + j * 3, none⟩ = some (.int .i64 l[j].a) ∧ x.wld.cell? ⟨bb, off + j * 3 + 1, none⟩ = some (.int .i64 l[j].b) ∧ x.wld.cell? ⟨bb, off + j * 3 + 2, none⟩ = some (.bool l[j].same) by
            obtain ⟨b1, o1, e1, _, c1, c2, c3⟩ := (x.rd HR.out).dbl hjl
            injection e1 with e1
            injection e1 with e1 e2
            subst e1 e2
            exact ⟨c1, c2, c3⟩))
          generalize l[j] = q at *
          obtain ⟨qa, qb, qs⟩ := q
          simp only at HCA HCB
          have fx0 := fun x => (HCA.out x).1
          have fx1 := fun x => (HCA.out x).2.1
          have fx2 := fun x => (HCA.out x).2.2
          have fy0 := fun x => (HCB.out x).1
          have fy1 := fun x => (HCB.out x).2.1
          have fy2 := fun x => (HCB.out x).2.2
          have hne : Nonempty (OwnOf w [row 64 3 (.slice (some ⟨g1, 0, none⟩) n c1) n (flat encD l)]) := ⟨⟨_, J2.out⟩⟩
          clear hjl HCA HCB
          go_wp2_with fail
          refine wp_region_own J2.out (by kernel_rfl) (by kernel_rfl) ?_
          iterate 9 (go_big_quiet_step (fail))
          refine wpQuiet_nil ?_
          rintro wb ⟨z, hz⟩
          have SB := Lib.hid (show Own w wb [row 64 3 (.slice (some ⟨g1, 0, none⟩) n c1) n (flat encD l)] by rw [hz]; exact z.own)
          clear hz z J2 fx0 fx1 fx2 fy0 fy1 fy2 hne
          go_wp2_with fail
          go_roundg (gk - 1)
          case measure => have := J1.out; omega
          case rel => exact ⟨j + 1, by omega, by go_num, by have := J1.out; omega, SB.out⟩
        · as_aux_lemma =>
          obtain rfl : n = j := by omega
          have hnj : ¬ (n : Int) < (n : Int) := by omega
          go_wp2_with fail
          go_ret
          exact ⟨rfl, J2.out.bel⟩
end Go.Proofs.Ytnalbchggjepdaa
