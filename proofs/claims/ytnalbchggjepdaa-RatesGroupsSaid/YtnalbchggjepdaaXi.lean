/- Rates: Operate, and the walk of RatesFront. No condition. -/
import Derived.Test.YtnalbchggjepdaaXa
import Derived.Test.YtnalbchggjepdaaVd
namespace Go.Proofs.Ytnalbchggjepdaa
open Go.RowKit Go.Shelf
attribute [local go_sem] Oper.semAt_some

def zeroP : Pt := ⟨0, 0, 0, 0⟩
/-- Operate: the point of two thresholds, and the number of an error. -/
def opeF (l : List Dbl) (a b : Int) : Pt × Int := if dblE l = 0 then if (inB (-1) 1000 a && inB (-1) 1000 b) = true then (opF l a b, 0) else (zeroP, 2) else (zeroP, dblE l)
theorem opeF_ok {l : List Dbl} {a b : Int} {p : Pt} (h : opeF l a b = (p, 0)) : dblE l = 0 ∧ (-1 ≤ a ∧ a ≤ 1000) ∧ (-1 ≤ b ∧ b ≤ 1000) ∧ p = opF l a b := by
  unfold opeF at h
  split at h
  · split at h
    · rename_i h1 h2
      injection h with h3 _
      simp only [inB, Bool.and_eq_true, decide_eq_true_eq] at h2
      exact ⟨h1, h2.1, h2.2, h3.symm⟩
    · injection h with _ h; cases h
  · injection h with _ h; contradiction
set_option maxRecDepth 100000 in
set_option maxHeartbeats 4000000 in
theorem operateE_any (A : Option Addr) (l : List Dbl) (n c : Nat) (a b : Int) (w : World) (hr : Rd w A (flat encD l)) (hn : n = l.length) (hl : n ≤ 1000000) :
    Calls Try.prog 40 #[.slice A n c, .int .i64 a, .int .i64 b] w fun e w' => e = .returned (.tuple #[aggP (opeF l a b).1, .int .i64 (opeF l a b).2]) ∧ Below w.heap.size w w' := by
  obtain ⟨B, hB⟩ : ∃ B, B = w.heap.size := ⟨_, rfl⟩
  have S0 := Lib.hid ((Own.start w).new' 68 #[.int .i64 0, .int .i64 0, .int .i64 0, .int .i64 0] hB)
  replace hB := Lib.hid hB
  have K1 := Lib.hid (fun W (h : Below w.heap.size w W) => checkDoubles_any A l n c W (hr.below h) hn hl)
  by_cases h0 : dblE l = 0
  case neg =>
    have HE := Lib.hid (show opeF l a b = (zeroP, dblE l) by simp [opeF, h0])
    rw [HE.out]
    generalize dblE l = v at *
    have h0' : (v == 0) = false := by simpa using h0
    clear hr hn h0
    go_enter Try.func40, Try.ntmps40
    go_wp2_with fail
    refine (K1.out _ S0.out.bel).mono ?_
    rintro e w1 ⟨rfl, hb1⟩
    have S1 := Lib.hid (S0.out.ext hb1)
    clear hb1 S0
    rw [← hB.out]
    obtain ⟨c0, c1, c2, c3, cf⟩ := (S1.out.bx 0 rfl).c4
    have cl := (S1.out.bx 0 rfl).2.2
    go_wp2_with fail
    have S9 := Lib.hid ((((S1.out.set 0 rfl 0 (.int .i64 0)).set 0 rfl 1 (.int .i64 0)).set 0 rfl 2 (.int .i64 0)).set 0 rfl 3 (.int .i64 0))
    obtain ⟨q0, q1, q2, q3, _⟩ := (S9.out.bx 0 rfl).c4
    refine bodyPost_ret (v := .tuple #[aggP zeroP, .int .i64 v]) (by simp [results, Try.results40, go_sem, q0, q1, q2, q3, aggP, zeroP]) rfl ⟨rfl, S9.out.bel⟩
  rw [h0] at K1
  cases h2 : (inB (-1) 1000 a && inB (-1) 1000 b)
  · have HE := Lib.hid (show opeF l a b = (zeroP, 2) by simp [opeF, h0, h2])
    rw [HE.out]
    have H2 := Lib.hid h2
    clear hr hn h0 h2
    go_enter Try.func40, Try.ntmps40
    go_wp2_with fail
    refine (K1.out _ S0.out.bel).mono ?_
    rintro e w1 ⟨rfl, hb1⟩
    have S1 := Lib.hid (S0.out.ext hb1)
    clear hb1 S0
    rw [← hB.out]
    go_wp2_with fail
    refine (from2 (-1) 1000 a b _ _ H2.out rfl).mono ?_
    rintro e w2 ⟨rfl, hb2⟩
    have S2 := Lib.hid (S1.out.ext hb2)
    clear hb2 S1
    obtain ⟨c0, c1, c2, c3, cf⟩ := (S2.out.bx 0 rfl).c4
    have cl := (S2.out.bx 0 rfl).2.2
    go_wp2_with fail
    have S9 := Lib.hid ((((S2.out.set 0 rfl 0 (.int .i64 0)).set 0 rfl 1 (.int .i64 0)).set 0 rfl 2 (.int .i64 0)).set 0 rfl 3 (.int .i64 0))
    obtain ⟨q0, q1, q2, q3, _⟩ := (S9.out.bx 0 rfl).c4
    refine bodyPost_ret (v := .tuple #[aggP zeroP, .int .i64 2]) (by simp [results, Try.results40, go_sem, q0, q1, q2, q3, aggP, zeroP]) rfl ⟨rfl, S9.out.bel⟩
  · have HE := Lib.hid (show opeF l a b = (opF l a b, 0) by simp [opeF, h0, h2])
    rw [HE.out]
    have H2 := Lib.hid h2
    have K3 := Lib.hid (fun W (h : Below w.heap.size w W) => operate_any A l n c a b W (hr.below h) hn hl)
    generalize opF l a b = p at *
    obtain ⟨pa, pb, pc, pr⟩ := p
    simp only [aggP] at K3 ⊢
    clear hr hn h0 h2
    go_enter Try.func40, Try.ntmps40
    go_wp2_with fail
    refine (K1.out _ S0.out.bel).mono ?_
    rintro e w1 ⟨rfl, hb1⟩
    have S1 := Lib.hid (S0.out.ext hb1)
    clear hb1 S0
    rw [← hB.out]
    go_wp2_with fail
    refine (from2 (-1) 1000 a b _ _ H2.out rfl).mono ?_
    rintro e w2 ⟨rfl, hb2⟩
    have S2 := Lib.hid (S1.out.ext hb2)
    clear hb2 S1
    go_wp2_with fail
    refine (K3.out _ S2.out.bel).mono ?_
    rintro e w3 ⟨rfl, hb3⟩
    have S3 := Lib.hid (S2.out.ext hb3)
    clear hb3 S2
    obtain ⟨c0, c1, c2, c3, cf⟩ := (S3.out.bx 0 rfl).c4
    have cl := (S3.out.bx 0 rfl).2.2
    go_wp2_with fail
    have S9 := Lib.hid ((((S3.out.set 0 rfl 0 (.int .i64 pa)).set 0 rfl 1 (.int .i64 pb)).set 0 rfl 2 (.int .i64 pc)).set 0 rfl 3 (.int .i64 pr))
    obtain ⟨q0, q1, q2, q3, _⟩ := (S9.out.bx 0 rfl).c4
    refine bodyPost_ret (v := .tuple #[.agg #[.int .i64 pa, .int .i64 pb, .int .i64 pc, .int .i64 pr], .int .i64 0]) (by simp [results, Try.results40, go_sem, q0, q1, q2, q3]) rfl ⟨rfl, S9.out.bel⟩
theorem dblE_froR {l : List Dbl} (h : dblE l = 0) : froR l = froF l := by simp [froR, h]
set_option maxRecDepth 100000 in
set_option maxHeartbeats 4000000 in
theorem ratesFront_walk (KA : AliveOk) (A : Option Addr) (l : List Dbl) (n c : Nat) (a b : Int) (w : World) (hr : Rd w A (flat encD l)) (hn : n = l.length) :
    Calls Try.prog 15 #[.slice A n c, .int .i64 a, .int .i64 b] w fun e w' => e = .returned (.bool true) ∧ Below w.heap.size w w' := by
  have S0 := Lib.hid (Own.start w)
  by_cases hbig : 40 < n
  · have hb : (40 : Int) < (n : Int) := by omega
    clear hr hn
    go_enter Try.func15, Try.ntmps15
    go_wp2_with fail
    refine (KA _).mono ?_
    rintro e w1 ⟨rfl, hb1⟩
    have S1 := Lib.hid (S0.out.ext hb1)
    clear hb1 S0
    go_wp2_with fail
    go_ret
    exact ⟨rfl, S1.out.bel⟩
  have hb : ¬ (40 : Int) < (n : Int) := by omega
  obtain ⟨p, f, hp⟩ : ∃ a' b', opeF l a b = (a', b') := ⟨_, _, rfl⟩
  have K1 := Lib.hid (fun W (h : Below w.heap.size w W) => operateE_any A l n c a b W (hr.below h) hn (by omega))
  have K2 := Lib.hid (fun W (h : Below w.heap.size w W) => frontier_any A l n c W (hr.below h) hn (by omega))
  rw [hp] at K1
  obtain ⟨pa, pb, pc, pr⟩ := p
  simp only [aggP] at K1
  obtain ⟨R, hR⟩ : ∃ R, R = froR l := ⟨_, rfl⟩
  rw [← hR] at K2
  obtain ⟨N, hN⟩ : ∃ N, N = R.length := ⟨_, rfl⟩
  rw [← hN] at K2
  by_cases hf : f = 0
  case neg =>
    have hf' : (f == 0) = false := by simpa using hf
    generalize dblE l = v at *
    clear hr hn hp hR hN hf hbig
    go_enter Try.func15, Try.ntmps15
    go_wp2_with fail
    refine (KA _).mono ?_
    rintro e w1 ⟨rfl, hb1⟩
    have S1 := Lib.hid (S0.out.ext hb1)
    clear hb1 S0
    go_wp2_with fail
    refine (K1.out _ S1.out.bel).mono ?_
    rintro e w2 ⟨rfl, hb2⟩
    have S2 := Lib.hid ((S1.out.ext hb2).new' 68 #[.int .i64 pa, .int .i64 pb, .int .i64 pc, .int .i64 pr] (B := w2.heap.size) rfl)
    clear hb2 S1 K1
    go_wp2_with fail
    refine (K2.out _ S2.out.bel).mono ?_
    rintro e w3 ⟨A3, c3, rfl, hO3⟩
    have S3 := Lib.hid (S2.out.call hO3)
    clear hO3 S2 K2
    go_wp2_with fail
    go_ret
    exact ⟨rfl, S3.out.bel⟩
  subst hf
  obtain ⟨h0, ha, hb', hpp⟩ := opeF_ok hp
  obtain ⟨d1, d2⟩ := dblE_ok h0
  have HX := Lib.hid (show ∃ q ∈ R, q.acc ≤ pc ∧ q.ref ≤ pr by
    have := front_law d2 ha.1 hb'.1
    rw [hR, dblE_froR h0]
    have e1 : pc = ((accN l a b : Nat) : Int) := congrArg Pt.acc hpp
    have e2 : pr = ((refN l a b : Nat) : Int) := congrArg Pt.ref hpp
    rw [e1, e2]
    exact this)
  have HNB := Lib.hid (show N ≤ 100000 by
    have h1 := froF_len l
    have h2 : (ptsF l).length = (dsA l).length * (dsB l).length := ptsT_len l (dsA l) (dsB l)
    have h3 := Nat.mul_le_mul (show (dsA l).length ≤ 201 by have := dsA_len l; omega) (show (dsB l).length ≤ 201 by have := dsB_len l; omega)
    rw [hN, hR, dblE_froR h0]
    omega)
  rw [h0] at K2
  have HN := Lib.hid hN
  clear hr hn hp hR hN hpp d1 d2 h0 ha hb' hbig
  go_enter Try.func15, Try.ntmps15
  go_wp2_with fail
  refine (KA _).mono ?_
  rintro e w1 ⟨rfl, hb1⟩
  have S1 := Lib.hid (S0.out.ext hb1)
  clear hb1 S0
  go_wp2_with fail
  refine (K1.out _ S1.out.bel).mono ?_
  rintro e w2 ⟨rfl, hb2⟩
  obtain ⟨B2, hB2⟩ : ∃ B2, B2 = w2.heap.size := ⟨_, rfl⟩
  have S2 := Lib.hid ((S1.out.ext hb2).new' 68 #[.int .i64 pa, .int .i64 pb, .int .i64 pc, .int .i64 pr] hB2)
  clear hb2 S1 K1
  go_wp2_with fail
  refine (K2.out _ S2.out.bel).mono ?_
  rintro e w3 ⟨A3, c3, rfl, hO3⟩
  have S3 := Lib.hid (S2.out.call hO3)
  clear hO3 S2 K2
  rw [← hB2]
  clear hB2
  have hNpos : 0 < N := by
    obtain ⟨q, hq, _⟩ := HX.out
    rw [HN.out]
    exact List.length_pos_of_mem hq
  obtain ⟨g, rfl⟩ := S3.out.rowAddr 0 rfl hNpos
  have HNB2 := HNB.out
  go_wp2_with fail
  go_loopg [42] N (fun q u42 wr => ∃ i : Nat, i ≤ N ∧ u42 = .int .i64 (i : Nat) ∧ Hid (i + q = N ∧ (∀ x ∈ R.take i, ¬ (x.acc ≤ pc ∧ x.ref ≤ pr)) ∧ Own w wr [row 68 4 (.slice (some ⟨g, 0, none⟩) N c3) N (flat encP R), box B2 68 [.int .i64 pa, .int .i64 pb, .int .i64 pc, .int .i64 pr]]))
  case atStart => exact ⟨0, by omega, rfl, by omega, by simp, S3.out⟩
  case round =>
    obtain ⟨i, hi, rfl, hI⟩ := hrel
    have I1 := Lib.hid hI.out.1
    have I3 := Lib.hid hI.out.2.1
    have I2 := Lib.hid hI.out.2.2
    clear hI S3
    by_cases hlt : i < N
    case neg =>
      exfalso
      obtain ⟨q, hq, hq2⟩ := HX.out
      have := I3.out q (by rw [List.take_of_length_le (by rw [← HN.out]; omega)]; exact hq)
      exact this hq2
    have hil : i < R.length := by rw [← HN.out]; exact hlt
    have hix : (i : Int) < (N : Int) := by omega
    obtain ⟨c0, c1, c2, c3'⟩ := (show Own w wr [dat g N c3 R, box B2 68 [.int .i64 pa, .int .i64 pb, .int .i64 pc, .int .i64 pr]] from I2.out).ptAt (List.getElem?_eq_getElem hil)
    have hg1 := (I2.out.rowLt (g := g) 0 rfl).1
    have HT := Lib.hid (show ¬ (R[i].acc ≤ pc ∧ R[i].ref ≤ pr) → ∀ x ∈ R.take (i + 1), ¬ (x.acc ≤ pc ∧ x.ref ≤ pr) by
      intro h x hx
      rw [List.take_succ_eq_append_getElem hil] at hx
      rcases List.mem_append.1 hx with hx | hx
      · exact I3.out x hx
      · rw [List.mem_singleton.1 hx]; exact h)
    generalize R[i] = q at *
    obtain ⟨qa, qb, qc, qr⟩ := q
    simp only at c0 c1 c2 c3' HT
    clear hil
    obtain ⟨B, hB⟩ : ∃ B, B = wr.heap.size := ⟨_, rfl⟩
    have I4 := Lib.hid (I2.out.new' 68 #[.int .i64 qa, .int .i64 qb, .int .i64 qc, .int .i64 qr] hB)
    go_upto_region 13 with (fail)
    rw [← hB]
    clear c0 c1 c2 c3' hg1 I2 hB
    generalize wr.alloc _ = W3 at *
    obtain ⟨d0, d1, d2, d3, df⟩ := (I4.out.bx 0 rfl).c4
    have dl := (I4.out.bx 0 rfl).2.2
    obtain ⟨e0, e1, e2, e3, ef⟩ := (I4.out.bx 2 rfl).c4
    have el := (I4.out.bx 2 rfl).2.2
    by_cases h1 : qc ≤ pc
    · by_cases h2 : qr ≤ pr
      · as_aux_lemma =>
        go_wp2_with fail
        go_ret
        exact ⟨rfl, I4.out.bel⟩
      · as_aux_lemma =>
        have HT2 := Lib.hid (HT.out fun h => h2 h.2)
        go_wp2_with fail
        go_roundg (gk - 1)
        case measure => have := I1.out; omega
        case rel => exact ⟨i + 1, by omega, by go_num, by have := I1.out; omega, HT2.out, I4.out.tail⟩
    · as_aux_lemma =>
      have HT2 := Lib.hid (HT.out fun h => h1 h.1)
      go_wp2_with fail
      go_roundg (gk - 1)
      case measure => have := I1.out; omega
      case rel => exact ⟨i + 1, by omega, by go_num, by have := I1.out; omega, HT2.out, I4.out.tail⟩
end Go.Proofs.Ytnalbchggjepdaa
