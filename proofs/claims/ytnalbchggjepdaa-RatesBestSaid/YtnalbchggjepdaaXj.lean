/- Rates: the walk of RatesBest. No condition. -/
import Derived.Test.YtnalbchggjepdaaXi
namespace Go.Proofs.Ytnalbchggjepdaa
open Go.RowKit Go.Shelf
attribute [local go_sem] Oper.semAt_some

/-- RatesBest in plain words, for one point. -/
theorem best_point {l : List Dbl} (h0 : dblE l = 0) {i : Nat} (hi : i < (froF l).length) : opeF l (froF l)[i].a (froF l)[i].b = ((froF l)[i], 0) ∧ ∀ j, (hj : j + 1 = i) → (froF l)[j].acc < (froF l)[i].acc ∧ (froF l)[i].ref < (froF l)[j].ref := by
  obtain ⟨d1, d2⟩ := dblE_ok h0
  have hm := List.getElem_mem hi
  obtain ⟨e, h1, h2⟩ := best_is d2 hm
  refine ⟨?_, fun j hj => ?_⟩
  · unfold opeF
    rw [if_pos h0, if_pos (by simp only [inB, Bool.and_eq_true, decide_eq_true_eq]; exact ⟨h1, h2⟩), ← e]
  · subst hj
    have := List.pairwise_iff_getElem.1 (froI l).pw j (j + 1) (by omega) hi (by omega)
    exact this
theorem best_end {l : List Dbl} (h0 : dblE l = 0) : 0 < (froF l).length ∧ (∀ q, (froF l)[(froF l).length - 1]? = some q → q.ref = 0) ∧ opeF l 1000 1000 = (opF l 1000 1000, 0) ∧ (opF l 1000 1000).ref = 0 := by
  obtain ⟨d1, d2⟩ := dblE_ok h0
  obtain ⟨q, h1, h2⟩ := best_last d2
  have hm := List.mem_of_getLast? h1
  refine ⟨List.length_pos_of_mem hm, fun z hz => ?_, ?_, ?_⟩
  · rw [← List.getLast?_eq_getElem?, h1] at hz
    injection hz with hz
    rw [← hz]; exact h2
  · unfold opeF
    rw [if_pos h0, if_pos (by decide)]
  · show ((refN l 1000 1000 : Nat) : Int) = 0
    rw [ref_all d2]; rfl
theorem best_pack {l : List Dbl} (h0 : dblE l = 0) : ∃ R : List Pt, froR l = R ∧ (∀ i q, R[i]? = some q → opeF l q.a q.b = (q, 0) ∧ ∀ j p, j + 1 = i → R[j]? = some p → p.acc < q.acc ∧ q.ref < p.ref) ∧ 0 < R.length ∧ R.length ≤ 100000 ∧
    (∀ q, R[R.length - 1]? = some q → q.ref = 0) ∧ ∃ za zb zc, opeF l 1000 1000 = (⟨za, zb, zc, 0⟩, 0) := by
  obtain ⟨e1, e2, e3, e4⟩ := best_end h0
  refine ⟨froF l, dblE_froR h0, fun i q hq => ?_, e1, ?_, e2, ?_⟩
  · obtain ⟨hi, rfl⟩ := List.getElem?_eq_some_iff.1 hq
    obtain ⟨k1, k2⟩ := best_point h0 hi
    refine ⟨k1, fun j p hj hp => ?_⟩
    obtain ⟨hj2, rfl⟩ := List.getElem?_eq_some_iff.1 hp
    exact k2 j hj
  · obtain ⟨d1, d2⟩ := dblE_ok h0
    have h1 := froF_len l
    have h2 : (ptsF l).length = (dsA l).length * (dsB l).length := ptsT_len l (dsA l) (dsB l)
    have h3 := Nat.mul_le_mul (show (dsA l).length ≤ 201 by have := dsA_len l; omega) (show (dsB l).length ≤ 201 by have := dsB_len l; omega)
    omega
  · generalize opF l 1000 1000 = z at *
    obtain ⟨za, zb, zc, zr⟩ := z
    simp only at e4
    subst e4
    exact ⟨za, zb, zc, e3⟩
theorem Own.ptsAt2 {w0 w : World} {ps : List Piece} {n c g : Nat} {l : List Pt} (h : Own w0 w ps) (i : Nat) (hp : ps[i]? = some (row 68 4 (.slice (some ⟨g, 0, none⟩) n c) n (flat encP l))) {k : Nat} {p : Pt} (hk : l[k]? = some p) :
    w.cell? ⟨g, k * 4 + 2, none⟩ = some (.int .i64 p.acc) := by
  have F := fun j (hj : j < 4) => flat_get encP 4 encP_len l k p j hk hj
  exact h.rowAt i hp (by rw [F 2 (by omega)]; rfl)
set_option maxRecDepth 100000 in
set_option maxHeartbeats 8000000 in
theorem ratesBest_walk (KA : AliveOk) (A : Option Addr) (l : List Dbl) (n c : Nat) (w : World) (hr : Rd w A (flat encD l)) (hn : n = l.length) :
    Calls Try.prog 16 #[.slice A n c] w fun e w' => e = .returned (.bool true) ∧ Below w.heap.size w w' := by
  have S0 := Lib.hid (Own.start w)
  by_cases hbig : 40 < n
  · have hb : (40 : Int) < (n : Int) := by omega
    clear hr hn
    go_enter Try.func16, Try.ntmps16
    go_wp2_with fail
    refine (KA _).mono ?_
    rintro e w1 ⟨rfl, hb1⟩
    have S1 := Lib.hid (S0.out.ext hb1)
    clear hb1 S0
    go_wp2_with fail
    go_ret
    exact ⟨rfl, S1.out.bel⟩
  have hb : ¬ (40 : Int) < (n : Int) := by omega
  have K2 := Lib.hid (fun W (h : Below w.heap.size w W) => frontier_any A l n c W (hr.below h) hn (by omega))
  by_cases h0 : dblE l = 0
  case neg =>
    have HE := Lib.hid (show froR l = [] by simp [froR, h0])
    rw [HE.out] at K2
    simp only [List.length_nil] at K2
    generalize dblE l = v at *
    have hf' : (v == 0) = false := by simpa using h0
    clear hr hn hbig h0
    go_enter Try.func16, Try.ntmps16
    go_wp2_with fail
    refine (KA _).mono ?_
    rintro e w1 ⟨rfl, hb1⟩
    have S1 := Lib.hid (S0.out.ext hb1)
    clear hb1 S0
    go_wp2_with fail
    refine (K2.out _ S1.out.bel).mono ?_
    rintro e w3 ⟨A3, c3, rfl, hO3⟩
    have S3 := Lib.hid (S1.out.call hO3)
    clear hO3 S1 K2
    go_wp2_with fail
    go_ret
    exact ⟨rfl, S3.out.bel⟩
  have K1 := Lib.hid (fun a b W (h : Below w.heap.size w W) => operateE_any A l n c a b W (hr.below h) hn (by omega))
  obtain ⟨R, hRe, HP, e1, HNB, hlast, za, zb, zc, hend⟩ := best_pack h0
  rw [hRe, h0] at K2
  have K3 := Lib.hid (K1.out 1000 1000)
  rw [hend] at K3
  have HK1 := Lib.hid (fun i q (hi : R[i]? = some q) W (h : Below w.heap.size w W) => (by
    have := K1.out q.a q.b W h
    rw [(HP i q hi).1] at this
    exact this : Calls Try.prog 40 #[.slice A n c, .int .i64 q.a, .int .i64 q.b] W fun e w' => e = .returned (.tuple #[aggP q, .int .i64 0]) ∧ Below W.heap.size W w'))
  have HMON := Lib.hid (fun i q (hi : R[i]? = some q) => (HP i q hi).2)
  have HLAST := Lib.hid hlast
  simp only [aggP] at K3 HK1
  clear K1 HP hlast hend hRe
  obtain ⟨N, hN⟩ : ∃ N, N = R.length := ⟨_, rfl⟩
  rw [← hN] at K2 e1 HNB HLAST
  have HN := Lib.hid hN
  clear hr hn hN hbig h0
  go_enter Try.func16, Try.ntmps16
  go_wp2_with fail
  refine (KA _).mono ?_
  rintro e w1 ⟨rfl, hb1⟩
  have S1 := Lib.hid (S0.out.ext hb1)
  clear hb1 S0
  go_wp2_with fail
  refine (K2.out _ S1.out.bel).mono ?_
  rintro e w3 ⟨A3, c3, rfl, hO3⟩
  have S3 := Lib.hid (S1.out.call hO3)
  clear hO3 S1 K2
  obtain ⟨g, rfl⟩ := S3.out.rowAddr 0 rfl e1
  go_wp2_with fail
  go_loopg [36] N (fun q u36 wr => ∃ i : Nat, i ≤ N ∧ u36 = .int .i64 (i : Nat) ∧ Hid (i + q = N ∧ Own w wr [row 68 4 (.slice (some ⟨g, 0, none⟩) N c3) N (flat encP R)]))
  case atStart => exact ⟨0, by omega, rfl, by omega, S3.out⟩
  case round =>
    obtain ⟨i, hi, rfl, hI⟩ := hrel
    have I1 := Lib.hid hI.out.1
    have I2 := Lib.hid hI.out.2
    clear hI S3
    by_cases hlt : i < N
    case neg =>
      obtain rfl : i = N := by omega
      have hni : ¬ (i : Int) < (i : Int) := by omega
      obtain ⟨k5, hk5⟩ : ∃ k5, i = k5 + 1 := ⟨i - 1, by omega⟩
      have hlO : k5 < R.length := by rw [← HN.out]; omega
      have hq : R[k5]? = some R[k5] := List.getElem?_eq_getElem hlO
      have hq0 : R[k5].ref = 0 := HLAST.out _ (by rw [show i - 1 = k5 by omega]; exact hq)
      have HQ := Lib.hid (fun W (h : Own w W [row 68 4 (.slice (some ⟨g, 0, none⟩) i c3) i (flat encP R)]) => (show W.cell? ⟨g, k5 * 4 + 3, none⟩ = some (.int .i64 0) by
        have := h.ptsAt (g := g) 0 rfl hq
        rwa [hq0] at this))
      have z1 : IntKind.i64.wrap ((i : Int) - 1) = (k5 : Int) := by rw [show (i : Int) - 1 = (k5 : Int) by omega]; exact IntWalk.i64_in _ (by omega)
      have z2 : (k5 : Int) < (i : Int) := by omega
      have z3 : k5 < i := by omega
      have z4 : (0 : Int) < (i : Int) := by omega
      clear hq0 hq hlO hk5 HMON HK1 HLAST hi
      as_aux_lemma =>
      go_wp2_with fail
      refine (K3.out _ I2.out.bel).mono ?_
      rintro e w4 ⟨rfl, hb4⟩
      obtain ⟨B, hB⟩ : ∃ B, B = w4.heap.size := ⟨_, rfl⟩
      have S4 := Lib.hid ((I2.out.ext hb4).new' 68 #[.int .i64 za, .int .i64 zb, .int .i64 zc, .int .i64 0] hB)
      clear hb4 I2 K3
      obtain ⟨d0, d1, d2, d3, df⟩ := (S4.out.bx 0 rfl).c4
      have dl := (S4.out.bx 0 rfl).2.2
      have c0 := HQ.out _ (S4.out.tail)
      have cl := (S4.out.rowLt (g := g) 1 rfl).1
      go_upto_region 15 with (fail)
      rw [← hB]
      clear hB
      generalize w4.alloc _ = W4 at *
      go_wp2_with fail
      go_ret
      exact ⟨rfl, S4.out.bel⟩
    have hil : i < R.length := by rw [← HN.out]; exact hlt
    have hix : (i : Int) < (N : Int) := by omega
    obtain ⟨c0, c1, c2, c3'⟩ := (show Own w wr [dat g N c3 R] from I2.out).ptAt (List.getElem?_eq_getElem hil)
    have hg1 := (I2.out.rowLt (g := g) 0 rfl).1
    have HK2 := Lib.hid (HK1.out i R[i] (List.getElem?_eq_getElem hil))
    have HM := Lib.hid (HMON.out i R[i] (List.getElem?_eq_getElem hil))
    generalize R[i] = q at *
    obtain ⟨qa, qb, qc, qr⟩ := q
    simp only at c0 c1 c2 c3' HK2 HM
    clear hil HMON HK1 HLAST
    obtain ⟨B, hB⟩ : ∃ B, B = wr.heap.size := ⟨_, rfl⟩
    have I4 := Lib.hid (I2.out.new' 68 #[.int .i64 qa, .int .i64 qb, .int .i64 qc, .int .i64 qr] hB)
    as_aux_lemma =>
    go_upto_region 10 with (fail)
    rw [← hB]
    clear c0 c1 c2 c3' hg1 I2 hB
    generalize wr.alloc _ = W3 at *
    obtain ⟨d0, d1, d2, d3, df⟩ := (I4.out.bx 0 rfl).c4
    have dl := (I4.out.bx 0 rfl).2.2
    go_wp2_with fail
    refine (HK2.out _ I4.out.bel).mono ?_
    rintro e w4 ⟨rfl, hb4⟩
    obtain ⟨B4, hB4⟩ : ∃ B4, B4 = w4.heap.size := ⟨_, rfl⟩
    have S4 := Lib.hid ((I4.out.ext hb4).new' 68 #[.int .i64 qa, .int .i64 qb, .int .i64 qc, .int .i64 qr] hB4)
    clear hb4 I4 d0 d1 d2 d3 df dl HK2
    go_upto_region 11 with (fail)
    rw [← hB4]
    clear hB4
    generalize w4.alloc _ = W4 at *
    replace S4 := Lib.hid (S4.out.cast (qs := [box B4 68 [.int .i64 qa, .int .i64 qb, .int .i64 qc, .int .i64 qr], box B 68 [.int .i64 qa, .int .i64 qb, .int .i64 qc, .int .i64 qr], row 68 4 (.slice (some ⟨g, 0, none⟩) N c3) N (flat encP R)]) rfl)
    have fx0 := fun x : OwnOf w [box B4 68 [.int .i64 qa, .int .i64 qb, .int .i64 qc, .int .i64 qr], box B 68 [.int .i64 qa, .int .i64 qb, .int .i64 qc, .int .i64 qr], row 68 4 (.slice (some ⟨g, 0, none⟩) N c3) N (flat encP R)] => (x.bx 0 rfl).1 0 _ rfl
    have fx1 := fun x : OwnOf w [box B4 68 [.int .i64 qa, .int .i64 qb, .int .i64 qc, .int .i64 qr], box B 68 [.int .i64 qa, .int .i64 qb, .int .i64 qc, .int .i64 qr], row 68 4 (.slice (some ⟨g, 0, none⟩) N c3) N (flat encP R)] => (x.bx 0 rfl).1 1 _ rfl
    have fx2 := fun x : OwnOf w [box B4 68 [.int .i64 qa, .int .i64 qb, .int .i64 qc, .int .i64 qr], box B 68 [.int .i64 qa, .int .i64 qb, .int .i64 qc, .int .i64 qr], row 68 4 (.slice (some ⟨g, 0, none⟩) N c3) N (flat encP R)] => (x.bx 0 rfl).1 2 _ rfl
    have fx3 := fun x : OwnOf w [box B4 68 [.int .i64 qa, .int .i64 qb, .int .i64 qc, .int .i64 qr], box B 68 [.int .i64 qa, .int .i64 qb, .int .i64 qc, .int .i64 qr], row 68 4 (.slice (some ⟨g, 0, none⟩) N c3) N (flat encP R)] => (x.bx 0 rfl).1 3 _ rfl
    have fy0 := fun x : OwnOf w [box B4 68 [.int .i64 qa, .int .i64 qb, .int .i64 qc, .int .i64 qr], box B 68 [.int .i64 qa, .int .i64 qb, .int .i64 qc, .int .i64 qr], row 68 4 (.slice (some ⟨g, 0, none⟩) N c3) N (flat encP R)] => (x.bx 1 rfl).1 0 _ rfl
    have fy1 := fun x : OwnOf w [box B4 68 [.int .i64 qa, .int .i64 qb, .int .i64 qc, .int .i64 qr], box B 68 [.int .i64 qa, .int .i64 qb, .int .i64 qc, .int .i64 qr], row 68 4 (.slice (some ⟨g, 0, none⟩) N c3) N (flat encP R)] => (x.bx 1 rfl).1 1 _ rfl
    have fy2 := fun x : OwnOf w [box B4 68 [.int .i64 qa, .int .i64 qb, .int .i64 qc, .int .i64 qr], box B 68 [.int .i64 qa, .int .i64 qb, .int .i64 qc, .int .i64 qr], row 68 4 (.slice (some ⟨g, 0, none⟩) N c3) N (flat encP R)] => (x.bx 1 rfl).1 2 _ rfl
    have fy3 := fun x : OwnOf w [box B4 68 [.int .i64 qa, .int .i64 qb, .int .i64 qc, .int .i64 qr], box B 68 [.int .i64 qa, .int .i64 qb, .int .i64 qc, .int .i64 qr], row 68 4 (.slice (some ⟨g, 0, none⟩) N c3) N (flat encP R)] => (x.bx 1 rfl).1 3 _ rfl
    have hne : Nonempty (OwnOf w [box B4 68 [.int .i64 qa, .int .i64 qb, .int .i64 qc, .int .i64 qr], box B 68 [.int .i64 qa, .int .i64 qb, .int .i64 qc, .int .i64 qr], row 68 4 (.slice (some ⟨g, 0, none⟩) N c3) N (flat encP R)]) := ⟨⟨_, S4.out⟩⟩
    by_cases hi0 : i = 0
    · as_aux_lemma =>
      have h1 : decide ((0 : Int) < (i : Int)) = false := by simp; omega
      have h2 : decide (0 < i) = false := by simp; omega
      have h3 : ¬ 0 < i := by omega
      clear HM hi0
      refine wp_region_own S4.out (by kernel_rfl) (by kernel_rfl) ?_
      iterate 33 (go_big_quiet_step (fail))
      refine wpQuiet_nil ?_
      rintro w6 ⟨z, hz⟩
      have S6 := Lib.hid (show Own w w6 [box B4 68 [.int .i64 qa, .int .i64 qb, .int .i64 qc, .int .i64 qr], box B 68 [.int .i64 qa, .int .i64 qb, .int .i64 qc, .int .i64 qr], row 68 4 (.slice (some ⟨g, 0, none⟩) N c3) N (flat encP R)] by rw [hz]; exact z.own)
      clear hz z S4 fx0 fx1 fx2 fx3 fy0 fy1 fy2 fy3 hne
      go_wp2_with fail
      go_roundg (gk - 1)
      case measure => have := I1.out; omega
      case rel => exact ⟨i + 1, by omega, by go_num, by have := I1.out; omega, S6.out.tail.tail⟩
    · as_aux_lemma =>
      have h1 : (0 : Int) < (i : Int) := by omega
      have h2 : 0 < i := by omega
      obtain ⟨j, hj⟩ : ∃ j, i = j + 1 := ⟨i - 1, by omega⟩
      have hjl : j < R.length := by rw [← HN.out]; omega
      obtain ⟨m1, m2⟩ := HM.out j R[j] hj.symm (List.getElem?_eq_getElem hjl)
      have HA := Lib.hid (fun x : OwnOf w [box B4 68 [.int .i64 qa, .int .i64 qb, .int .i64 qc, .int .i64 qr], box B 68 [.int .i64 qa, .int .i64 qb, .int .i64 qc, .int .i64 qr], row 68 4 (.slice (some ⟨g, 0, none⟩) N c3) N (flat encP R)] => x.own.ptsAt (g := g) 2 rfl (List.getElem?_eq_getElem hjl))
      have HB := Lib.hid (fun x : OwnOf w [box B4 68 [.int .i64 qa, .int .i64 qb, .int .i64 qc, .int .i64 qr], box B 68 [.int .i64 qa, .int .i64 qb, .int .i64 qc, .int .i64 qr], row 68 4 (.slice (some ⟨g, 0, none⟩) N c3) N (flat encP R)] => x.own.ptsAt2 (g := g) 2 rfl (List.getElem?_eq_getElem hjl))
      generalize R[j] = y at *
      obtain ⟨ya, yb, yc, yr⟩ := y
      simp only at HA HB m1 m2
      have q1 : ¬ qc ≤ yc := by omega
      have q2 : ¬ yr ≤ qr := by omega
      have z1 : IntKind.i64.wrap ((i : Int) - 1) = (j : Int) := by rw [show (i : Int) - 1 = (j : Int) by omega]; exact IntWalk.i64_in _ (by omega)
      have z2 : (j : Int) < (N : Int) := by omega
      have z3 : j < N := by omega
      have fa := HA.out
      have fb := HB.out
      clear HM hj hjl m1 m2 HA HB hi0
      refine wp_region_own S4.out (by kernel_rfl) (by kernel_rfl) ?_
      iterate 33 (go_big_quiet_step (fail))
      refine wpQuiet_nil ?_
      rintro w6 ⟨z, hz⟩
      have S6 := Lib.hid (show Own w w6 [box B4 68 [.int .i64 qa, .int .i64 qb, .int .i64 qc, .int .i64 qr], box B 68 [.int .i64 qa, .int .i64 qb, .int .i64 qc, .int .i64 qr], row 68 4 (.slice (some ⟨g, 0, none⟩) N c3) N (flat encP R)] by rw [hz]; exact z.own)
      clear hz z S4 fx0 fx1 fx2 fx3 fy0 fy1 fy2 fy3 hne fa fb
      go_wp2_with fail
      go_roundg (gk - 1)
      case measure => have := I1.out; omega
      case rel => exact ⟨i + 1, by omega, by go_num, by have := I1.out; omega, S6.out.tail.tail⟩
end Go.Proofs.Ytnalbchggjepdaa
