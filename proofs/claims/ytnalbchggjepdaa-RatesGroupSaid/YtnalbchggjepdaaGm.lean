/- Rates: the walk of RatesGroup. No condition. -/
import Derived.Test.YtnalbchggjepdaaGi
import Derived.Test.YtnalbchggjepdaaXc
namespace Go.Proofs.Ytnalbchggjepdaa
open Go.RowKit Go.Shelf
attribute [local go_sem] Oper.semAt_some

theorem st49t : SlTy Try.prog 49 64 (.agg #[.int .i64 0, .int .i64 0, .bool false]) 3 24 := ⟨Try.underlying49, by kernel_rfl, rfl, by decide⟩
theorem encT_one (l : List Dbl) : ∀ u ∈ flat encD l, u.oneCell' = true := by
  intro u hu
  obtain ⟨x, _, hx⟩ := List.mem_flatMap.1 hu
  simp only [encD, List.mem_cons, List.not_mem_nil, or_false] at hx
  rcases hx with rfl | rfl | rfl <;> rfl
theorem rdD_take {w : World} {b off : Nat} {l : List Dbl} (h : Rd w (some ⟨b, off, none⟩) (flat encD l)) (k : Nat) : Rd w (some ⟨b, off, none⟩) (flat encD (l.take k)) := by
  have := rd_sub h 0 (k * 3)
  rwa [Nat.add_zero, List.drop_zero, flat_take encD 3 encD_len] at this
theorem rdD_drop {w : World} {b off : Nat} {l : List Dbl} (h : Rd w (some ⟨b, off, none⟩) (flat encD l)) (k : Nat) : Rd w (some ⟨b, off + k * 3, none⟩) (flat encD (l.drop k)) := by
  have := rd_sub h (k * 3) (flat encD l).length
  rw [List.take_of_length_le (by simp), flat_drop encD 3 encD_len] at this
  exact this
theorem wo_flat (l : List Dbl) (i : Nat) : flat encD (l.take i) ++ flat encD (l.drop (i + 1)) = flat encD (wo l i) := by rw [wo, flat_append]
/-- In no group the tried ways accept more than the share. -/
theorem acc_law {l : List Dbl} {num den : Int} (h : shareB num den = true) (k : Nat) {n : Nat} (hn : n = l.length) :
    ((((dif (l.take n) (k : Nat)).countP (kepP (dif l (k : Nat)) num den) : Nat)) : Int) * den ≤ num * (((dif (l.take n) (k : Nat)).length : Nat) : Int) := by
  rw [List.take_of_length_le (by omega)]
  exact group_law h
theorem accD_le {l : List Dbl} (p : Int → Bool) (k i : Nat) : (dif (l.take i) (k : Nat)).countP p ≤ (dif (l.take i) (k : Nat)).length := List.countP_le_length
theorem ways_le (l : List Dbl) (k i : Nat) : (dif (l.take i) (k : Nat)).length ≤ l.length := by
  have := dif_len (l.take i) (k : Nat)
  rw [List.length_take] at this
  omega
set_option maxRecDepth 100000 in
set_option maxHeartbeats 8000000 in
theorem ratesGroup_walk (KA : AliveOk) (A : Option Addr) (l : List Dbl) (n c : Nat) (num den : Int) (w : World) (hr : Rd w A (flat encD l)) (hn : n = l.length) (hcap : n ≤ c) :
    Calls Try.prog 18 #[.slice A n c, .agg #[.int .i64 num, .int .i64 den]] w fun e w' => e = .returned (.bool true) ∧ Below w.heap.size w w' := by
  obtain ⟨B0, hB0⟩ : ∃ B, B = w.heap.size := ⟨_, rfl⟩
  have S0 := Lib.hid ((Own.start w).new' 23 #[.int .i64 num, .int .i64 den] hB0)
  replace hB0 := Lib.hid hB0
  by_cases hbig : 60 < n
  · have hb : (60 : Int) < (n : Int) := by omega
    clear hr hn hcap
    go_enter Try.func18, Try.ntmps18
    go_wp2_with fail
    refine (KA _).mono ?_
    rintro e w1 ⟨rfl, hb1⟩
    have S1 := Lib.hid (S0.out.ext hb1)
    clear hb1 S0
    go_wp2_with fail
    go_ret
    exact ⟨rfl, S1.out.bel⟩
  have hb : ¬ (60 : Int) < (n : Int) := by omega
  have hn60 : n ≤ 60 := by omega
  have HR := Lib.hid hr
  have HN := Lib.hid hn
  have HCP := Lib.hid hcap
  have K1 := Lib.hid (fun W (h : Below w.heap.size w W) => thresholds_any A l n c num den W (hr.below h) hn (by omega))
  by_cases h1 : thsE l num den = 0
  case neg => as_aux_lemma =>
    generalize thsE l num den = e1 at *
    generalize thsN l num den = N at *
    generalize thsR l num den = X at *
    have h1' : (e1 == 0) = false := by simpa using h1
    clear hr hn hcap hbig h1
    go_enter Try.func18, Try.ntmps18
    go_wp2_with fail
    refine (KA _).mono ?_
    rintro e w1 ⟨rfl, hb1⟩
    have S1 := Lib.hid (S0.out.ext hb1)
    clear hb1 S0
    rw [← hB0.out]
    obtain ⟨c0, c1, _⟩ := (S1.out.bx 0 rfl).c2
    go_wp2_with fail
    refine (K1.out _ S1.out.bel).mono ?_
    rintro e w2 ⟨A6, c6, rfl, hO2⟩
    have S2 := Lib.hid (S1.out.call hO2)
    clear hO2 S1 K1 c0 c1
    go_wp2_with fail
    go_ret
    exact ⟨rfl, S2.out.bel⟩
  obtain ⟨ht, hs⟩ := thsE_ok h1
  have hok := (trlE_ok ht).2.1
  have HX : thsR l num den = thsF l num den ∧ thsN l num den = 8 := by unfold thsR thsN; rw [h1]; exact ⟨rfl, rfl⟩
  rw [h1, HX.1, HX.2] at K1
  have K48 := Lib.hid (fun W => validShare_any num den W)
  rw [hs] at K48
  have HS := Lib.hid hs
  have HOK := Lib.hid hok
  have HTE := Lib.hid h1
  have HSH := Lib.hid (share_of hs)
  clear hr hn hcap hbig ht hs hok HX h1
  go_enter Try.func18, Try.ntmps18
  go_wp2_with fail
  refine (KA _).mono ?_
  rintro e w1 ⟨rfl, hb1⟩
  have S1 := Lib.hid (S0.out.ext hb1)
  clear hb1 S0
  rw [← hB0.out]
  obtain ⟨c0, c1, _⟩ := (S1.out.bx 0 rfl).c2
  go_wp2_with fail
  refine (K1.out _ S1.out.bel).mono ?_
  rintro e w2 ⟨A6, c6, rfl, hO2⟩
  have S2 := Lib.hid (S1.out.call hO2)
  clear hO2 S1 K1 c0 c1
  obtain ⟨g6, rfl⟩ := S2.out.rowAddr 0 rfl (by decide)
  obtain ⟨c0, c1, _⟩ := (S2.out.bx 1 rfl).c2
  go_wp2_with fail
  refine (K48.out _).mono ?_
  rintro e w3 ⟨rfl, hb3⟩
  have S3 := Lib.hid (S2.out.ext hb3)
  clear hb3 K48 S2 c0 c1
  obtain ⟨B8, hB8⟩ : ∃ B, B = w3.heap.size := ⟨_, rfl⟩
  obtain ⟨B9, hB9⟩ : ∃ B, B = w3.heap.size + 1 := ⟨_, rfl⟩
  have S5 := Lib.hid (((S3.out.new' 100 #[.int .i64 0, .int .i64 0, .int .i64 0, .int .i64 0, .int .i64 0, .int .i64 0, .int .i64 0, .int .i64 0] hB8).new' 100 #[.int .i64 0, .int .i64 0, .int .i64 0, .int .i64 0, .int .i64 0, .int .i64 0, .int .i64 0, .int .i64 0] (B := B9) (by rw [hB9]; simp)).cast (qs := [box B9 100 (accL l num den 0), box B8 100 (waysL l 0), row 3 1 (.slice (some ⟨g6, 0, none⟩) 8 c6) 8 (ints (thsF l num den)), box B0 23 [.int .i64 num, .int .i64 den]]) (by rw [accL_zero, waysL_zero]; rfl))
  clear S3
  go_wp2_with fail
  rw [← hB9, ← hB8]
  clear hB9 hB8
  generalize (w3.alloc _).alloc _ = w5 at *
  go_loopg [44] n (fun q u44 wr => ∃ i : Nat, i ≤ n ∧ u44 = .int .i64 (i : Nat) ∧ Hid (i + q = n ∧ Own w wr [box B9 100 (accL l num den i), box B8 100 (waysL l i), row 3 1 (.slice (some ⟨g6, 0, none⟩) 8 c6) 8 (ints (thsF l num den)), box B0 23 [.int .i64 num, .int .i64 den]]))
  case atStart => exact ⟨0, by omega, rfl, by omega, S5.out⟩
  case round =>
    obtain ⟨i, hi, rfl, hI⟩ := hrel
    have I1 := Lib.hid hI.out.1
    have I2 := Lib.hid hI.out.2
    clear hI S5
    by_cases hlt : i < n
    case neg => as_aux_lemma =>
      obtain rfl : i = n := by omega
      have hni : ¬ (i : Int) < (i : Int) := by omega
      go_wp2_with fail
      go_loopg [148] 8 (fun q u148 wr => ∃ k : Nat, k ≤ 8 ∧ u148 = .int .i64 (k : Nat) ∧ Hid (k + q = 8 ∧ Own w wr [box B9 100 (accL l num den i), box B8 100 (waysL l i), row 3 1 (.slice (some ⟨g6, 0, none⟩) 8 c6) 8 (ints (thsF l num den)), box B0 23 [.int .i64 num, .int .i64 den]]))
      case atStart => exact ⟨0, by omega, rfl, by omega, I2.out⟩
      case round =>
        obtain ⟨k, hk, rfl, hJ⟩ := hrel
        have J1 := Lib.hid hJ.out.1
        have J2 := Lib.hid hJ.out.2
        clear hJ I2
        by_cases hlt2 : k < 8
        case neg => as_aux_lemma =>
          obtain rfl : k = 8 := by omega
          go_wp2_with fail
          go_ret
          exact ⟨rfl, J2.out.bel⟩
        as_aux_lemma =>
        have hk8 : (k : Int) < 8 := by omega
        have z0 : IntKind.i64.wrap ((k : Int) + 1) = ((k + 1 : Nat) : Int) := by rw [show (k : Int) + 1 = ((k + 1 : Nat) : Int) by omega]; exact IntWalk.i64_in _ (by omega)
        have hlaw := acc_law HS.out k HN.out
        have hle1 := accD_le (l := l) (kepP (dif l (k : Nat)) num den) k i
        have hle2 := ways_le l k i
        rw [← HN.out] at hle2
        have fa : ∀ x : OwnOf w [box B9 100 (accL l num den i), box B8 100 (waysL l i), row 3 1 (.slice (some ⟨g6, 0, none⟩) 8 c6) 8 (ints (thsF l num den)), box B0 23 [.int .i64 num, .int .i64 den]], x.wld.cell? ⟨B9, k, none⟩ = some _ := fun x => (x.bx 0 rfl).1 k _ (accL_at l num den i hlt2)
        have fw : ∀ x : OwnOf w [box B9 100 (accL l num den i), box B8 100 (waysL l i), row 3 1 (.slice (some ⟨g6, 0, none⟩) 8 c6) 8 (ints (thsF l num den)), box B0 23 [.int .i64 num, .int .i64 den]], x.wld.cell? ⟨B8, k, none⟩ = some _ := fun x => (x.bx 1 rfl).1 k _ (waysL_at l i hlt2)
        have fn0 : ∀ x : OwnOf w [box B9 100 (accL l num den i), box B8 100 (waysL l i), row 3 1 (.slice (some ⟨g6, 0, none⟩) 8 c6) 8 (ints (thsF l num den)), box B0 23 [.int .i64 num, .int .i64 den]], x.wld.cell? ⟨B0, 0, none⟩ = some (.int .i64 num) := fun x => (x.bx 3 rfl).1 0 _ rfl
        have fn1 : ∀ x : OwnOf w [box B9 100 (accL l num den i), box B8 100 (waysL l i), row 3 1 (.slice (some ⟨g6, 0, none⟩) 8 c6) 8 (ints (thsF l num den)), box B0 23 [.int .i64 num, .int .i64 den]], x.wld.cell? ⟨B0, 1, none⟩ = some (.int .i64 den) := fun x => (x.bx 3 rfl).1 1 _ rfl
        have hne : Nonempty (OwnOf w [box B9 100 (accL l num den i), box B8 100 (waysL l i), row 3 1 (.slice (some ⟨g6, 0, none⟩) 8 c6) 8 (ints (thsF l num den)), box B0 23 [.int .i64 num, .int .i64 den]]) := ⟨⟨_, J2.out⟩⟩
        generalize (dif (l.take i) (k : Nat)).countP (kepP (dif l (k : Nat)) num den) = a at *
        generalize (dif (l.take i) (k : Nat)).length = d at *
        have hd := HSH.out
        have z1 : IntKind.i64.wrap ((a : Int) * den) = (a : Int) * den := IntWalk.i64_in _ (by
          have h1 : (0 : Int) ≤ (a : Int) * den := Int.mul_nonneg (by omega) (by omega)
          have h2 : (a : Int) * den ≤ 60 * 1000 := Int.mul_le_mul (by omega) (by omega) (by omega) (by omega)
          omega)
        have z2 : IntKind.i64.wrap (num * (d : Int)) = num * (d : Int) := IntWalk.i64_in _ (by
          have h1 : (0 : Int) ≤ num * (d : Int) := Int.mul_nonneg (by omega) (by omega)
          have h2 : num * (d : Int) ≤ 1000 * 60 := Int.mul_le_mul (by omega) (by omega) (by omega) (by omega)
          omega)
        have z3 : ¬ num * (d : Int) < (a : Int) * den := by omega
        clear hd hlaw hle1 hle2
        go_upto_region 31 with (fail)
        refine wp_region_own J2.out (by kernel_rfl) (by kernel_rfl) ?_
        iterate 13 (go_big_quiet_step (fail))
        refine wpQuiet_nil ?_
        rintro w9 ⟨z, hz⟩
        have S9 := Lib.hid (show Own w w9 [box B9 100 (accL l num den i), box B8 100 (waysL l i), row 3 1 (.slice (some ⟨g6, 0, none⟩) 8 c6) 8 (ints (thsF l num den)), box B0 23 [.int .i64 num, .int .i64 den]] by rw [hz]; exact z.own)
        clear hz z J2 fa fw fn0 fn1 hne
        go_wp2_with fail
        go_roundg (gk - 1)
        case measure => have := J1.out; omega
        case rel => exact ⟨k + 1, by omega, by go_num, by have := J1.out; omega, S9.out⟩
    have hil : i < l.length := by rw [← HN.out]; exact hlt
    have hix : (i : Int) < (n : Int) := by omega
    have z0 : IntKind.i64.wrap ((i : Int) + 1) = ((i + 1 : Nat) : Int) := by rw [show (i : Int) + 1 = ((i + 1 : Nat) : Int) by omega]; exact IntWalk.i64_in _ (by omega)
    obtain ⟨b, off, rfl, -⟩ := (HR.out.below I2.out.bel).dbl hil
    have HTR := Lib.hid (fun W (h : Below w.heap.size w W) => (show b < W.heap.size ∧ W.cell? ⟨b, off + i * 3, none⟩ = some (.int .i64 l[i].a) ∧ W.cell? ⟨b, off + i * 3 + 1, none⟩ = some (.int .i64 l[i].b) ∧ W.cell? ⟨b, off + i * 3 + 2, none⟩ = some (.bool l[i].same) by
      obtain ⟨b1, o1, e1, q1, q2, q3, q4⟩ := (HR.out.below h).dbl hil
      injection e1 with e1
      injection e1 with e1 e2
      subst e1 e2
      exact ⟨q1, q2, q3, q4⟩))
    have hgr := trl_group HOK.out hil
    have HSM := Lib.hid (ways_same hil num den)
    have HTE2 := Lib.hid (thsE_wo hil HTE.out)
    have HWN := Lib.hid (fun g => dif_wo_no hil (g := g))
    have HKH := Lib.hid (fun g => kep_here (g := g) hil HOK.out HS.out)
    have HWP := Lib.hid (fun g (hg : g < 8) => ways_put hil hg)
    have HAP := Lib.hid (fun g (hg : g < 8) => acc_put hil hg num den)
    have HAK := Lib.hid (fun g => acc_keep (g := g) hil num den)
    have HWL := Lib.hid (show (wo l i).length = n - 1 by rw [wo_len hil, HN.out])
    have hdB : ∀ g : Int, difB g l[i] = (decide (l[i].a = g) && !l[i].same) := fun g => rfl
    have HDB := Lib.hid hdB
    clear hdB
    generalize hx : l[i] = x at *
    obtain ⟨xa, xb, xs⟩ := x
    simp only at HTR hgr HSM HWN HKH HAP HAK HDB
    obtain ⟨g, rfl⟩ := Int.eq_ofNat_of_zero_le hgr.1.1
    have hg8 : g < 8 := by omega
    have hgi : (g : Int) < 8 := by omega
    clear hx hgr
    obtain ⟨e9, f0, f1, f2⟩ := HTR.out wr I2.out.bel
    cases xs
    case true => as_aux_lemma =>
      obtain ⟨s1, s2⟩ := HSM.out rfl
      rw [← s1, ← s2] at I2
      clear s1 s2
      go_wp2_with fail
      go_roundg (gk - 1)
      case measure => have := I1.out; omega
      case rel => exact ⟨i + 1, by omega, by go_num, by have := I1.out; omega, I2.out⟩
    clear HSM
    have HTX := Lib.hid (show thsR (wo l i) num den = thsF (wo l i) num den ∧ thsN (wo l i) num den = 8 by unfold thsR thsN; rw [HTE2.out]; exact ⟨rfl, rfl⟩)
    have K34 := Lib.hid (fun A' c' W (h : Rd W A' (flat encD (wo l i))) => thresholds_any A' (wo l i) (n - 1) c' num den W h HWL.out.symm (by omega))
    rw [HTE2.out, HTX.out.1, HTX.out.2] at K34
    have R1 := Lib.hid (fun W (h : Below w.heap.size w W) => rdD_take (HR.out.below h) i)
    have R2 := Lib.hid (fun W (h : Below w.heap.size w W) => (show Rd W (if c = i + 1 then some ⟨b, off, none⟩ else some ⟨b, off + (i + 1) * 3, none⟩) (flat encD (l.drop (i + 1))) by
      by_cases hc : c = i + 1
      · rw [List.drop_of_length_le (by have := HCP.out; have := HN.out; omega)]; exact Rd.nil _ _
      · rw [if_neg hc]; exact rdD_drop (HR.out.below h) (i + 1)))
    have L1 := Lib.hid (show (flat encD (l.take i)).length = i * 3 by rw [flat_length encD 3 encD_len, List.length_take]; congr 1; omega)
    have L2 := Lib.hid (show (flat encD (l.drop (i + 1))).length = (n - (i + 1)) * 3 by rw [flat_length encD 3 encD_len, List.length_drop, HN.out])
    have HXF := Lib.hid (wo_flat l i)
    have O1 := Lib.hid (encT_one (l.take i))
    have O2 := Lib.hid (encT_one (l.drop (i + 1)))
    have hcap' := HCP.out
    have y1 : IntKind.i64.wrap ((i : Int) + 1) = (i : Int) + 1 := by rw [z0]; omega
    have y2 : (0 : Int) ≤ (i : Int) + 1 := by omega
    have y3 : ((i : Int) + 1).toNat = i + 1 := by omega
    have y4 : i ≤ c := by omega
    have y5 : i + 1 ≤ n := by omega
    have y6 : (i : Int) + 1 ≤ (n : Int) := by omega
    have HTT := Lib.hid (fun k (hk : k < 8) => thsF_at (wo l i) num den hk)
    have HAL := Lib.hid (fun k (hk : k < 8) => thsF_at l num den hk)
    generalize hX1 : flat encD (l.take i) = X1 at *
    generalize hX2 : flat encD (l.drop (i + 1)) = X2 at *
    generalize hX3 : flat encD (wo l i) = X3 at *
    generalize hT : thsF (wo l i) num den = T at *
    clear hX1 hX2 hX3 hT hcap' z0
    go_upto_region 14 with (fail)
    clear e9 f0 f1 f2
    refine wp_region_state 166 [(53, .slice (some ⟨b, off, none⟩) n c), (54, .int .i64 (i : Nat)), (55, .slice (some ⟨b, off, none⟩) i c), (57, .slice (some ⟨b, off, none⟩) n c), (58, .int .i64 (i : Nat)), (59, .int .i64 ((i : Int) + 1)), (60, .slice (if c = i + 1 then some ⟨b, off, none⟩ else some ⟨b, off + (i + 1) * 3, none⟩) (n - (i + 1)) (c - (i + 1)))] (fun L vs w' => Own w w' [box B9 100 (accL l num den i), box B8 100 (waysL l i), row 3 1 (.slice (some ⟨g6, 0, none⟩) 8 c6) 8 (ints (thsF l num den)), box B0 23 [.int .i64 num, .int .i64 den], cond (L 10) (row 64 3 (vs 11) (n - 1) (X3)) (cond (L 9) (row 64 3 (vs 61) (n - 1) (X3)) (cond (L 4) (row 64 3 (vs 56) (i) (X1)) (cond (L 0) (row 64 3 (vs 52) 0 []) (row 64 3 (.slice none 0 0) 0 []))))]) (by kernel_rfl) (by kernel_rfl) [52, 53, 54, 55, 56, 57, 58, 59, 60, 61, 11] (by kernel_rfl) rfl (by kernel_rfl) 11 rfl ?_ ?_ ?_
    · exact fun L hL => (((I2.out.nil 64 3).sub [1, 2, 3, 4, 0] (by decide) (qs := [box B9 100 (accL l num den i), box B8 100 (waysL l i), row 3 1 (.slice (some ⟨g6, 0, none⟩) 8 c6) 8 (ints (thsF l num den)), box B0 23 [.int .i64 num, .int .i64 den], row 64 3 (.slice none 0 0) 0 []]) rfl).ext (Below.refl _ _).drew).cast (by simp [hL 9 (by decide), hL 4 (by decide), hL 0 (by decide), hL 10 (by decide)])
    · refine ⟨StepS.of [] (by kernel_rfl) ?_, ?_⟩
      · intro L vs wq hL hA hC hJ
        unfold forAll
        have h1 := hC.no (j := 4) (i := 0) (by kernel_rfl) hL
        have h2 := hC.no (j := 9) (i := 4) (by kernel_rfl) h1
        have h3 := hC.no (j := 10) (i := 9) (by kernel_rfl) h2
        have K := Own.cast (qs := [box B9 100 (accL l num den i), box B8 100 (waysL l i), row 3 1 (.slice (some ⟨g6, 0, none⟩) 8 c6) 8 (ints (thsF l num den)), box B0 23 [.int .i64 num, .int .i64 den], row 64 3 (.slice none 0 0) 0 []]) hJ (by simp [hL, h1, h2, h3])
        have K2 := ((K.sub [0, 1, 2, 3] (by decide) (qs := [box B9 100 (accL l num den i), box B8 100 (waysL l i), row 3 1 (.slice (some ⟨g6, 0, none⟩) 8 c6) 8 (ints (thsF l num den)), box B0 23 [.int .i64 num, .int .i64 den]]) rfl).new' 64 #[] (B := wq.heap.size) rfl).asRow (size := 3) (n := 0) 0 rfl rfl (by unfold maxLen; omega)
        have K3 := K2.sub [1, 2, 3, 4, 0] (by decide) (qs := [box B9 100 (accL l num den i), box B8 100 (waysL l i), row 3 1 (.slice (some ⟨g6, 0, none⟩) 8 c6) 8 (ints (thsF l num den)), box B0 23 [.int .i64 num, .int .i64 den], row 64 3 (.slice (some ⟨wq.heap.size, 0, none⟩) 0 0) 0 []]) rfl
        exact StepV.val 52 (v := .slice (some ⟨wq.heap.size, 0, none⟩) 0 0) (w' := wq.alloc (.cells #[] 64)) (by kernel_rfl) (by go_simp) rfl (by simp) rfl trivial (K3.cast (by simp [upd, updv, h1, h2, h3]))
      refine ⟨StepS.of [] (by kernel_rfl) ?_, ?_⟩
      · intro L vs wq hL hA hC hJ
        unfold forAll
        exact StepV.val 53 (by kernel_rfl) (by kernel_rfl) rfl (by simp) rfl rfl hJ
      refine ⟨StepS.of [] (by kernel_rfl) ?_, ?_⟩
      · intro L vs wq hL hA hC hJ
        unfold forAll
        exact StepV.val 54 (by kernel_rfl) (by kernel_rfl) rfl (by simp) rfl rfl hJ
      refine ⟨StepS.of [53, 54] (by kernel_rfl) ?_, ?_⟩
      · intro L vs wq hL hA hC hJ h53 h54
        rw [(show vs 53 = .slice (some ⟨b, off, none⟩) n c from h53), (show vs 54 = .int .i64 (i : Nat) from h54)]
        unfold forAll
        exact StepV.val 55 (by kernel_rfl) (by go_simp) rfl (by simp [Act.put]) rfl rfl hJ
      refine ⟨StepS.of [52, 55] (by kernel_rfl) ?_, ?_⟩
      · intro L vs wq hL hA hC hJ h52 h55
        rw [(show vs 55 = .slice (some ⟨b, off, none⟩) i c from h55)]
        unfold forAll
        have hb := afterS hA (i := 0) (by kernel_rfl)
        have h2 := hC.no (j := 9) (i := 4) (by kernel_rfl) hL
        have h3 := hC.no (j := 10) (i := 9) (by kernel_rfl) h2
        have K := Own.cast (qs := [box B9 100 (accL l num den i), box B8 100 (waysL l i), row 3 1 (.slice (some ⟨g6, 0, none⟩) 8 c6) 8 (ints (thsF l num den)), box B0 23 [.int .i64 num, .int .i64 den], row 64 3 (vs 52) 0 []]) hJ (by simp [hL, hb, h2, h3])
        obtain ⟨A8, c8, e8, ho8⟩ := rd_of_own (K.get 4 rfl)
        rw [e8]
        refine StepV.app 56 rfl (.tmp 52) (.tmp 55) 49 rfl rfl (by simp [Act.put]) rfl st49t 4 K rfl (by simp [Act.eval, Act.put, e8]) (by simp [Act.eval, Act.put]; rfl) (i) (X1) (X1) (by omega) rfl (R1.out wq K.bel) (L1.out) (O1.out) (by unfold maxLen; omega) (by omega) ?_
        intro A9 c9 w9 hO9
        exact ⟨trivial, hO9.cast (by simp [upd, updv, hb, h2, h3])⟩
      refine ⟨StepS.of [] (by kernel_rfl) ?_, ?_⟩
      · intro L vs wq hL hA hC hJ
        unfold forAll
        exact StepV.val 57 (by kernel_rfl) (by kernel_rfl) rfl (by simp) rfl rfl hJ
      refine ⟨StepS.of [] (by kernel_rfl) ?_, ?_⟩
      · intro L vs wq hL hA hC hJ
        unfold forAll
        exact StepV.val 58 (by kernel_rfl) (by kernel_rfl) rfl (by simp) rfl rfl hJ
      refine ⟨StepS.of [58] (by kernel_rfl) ?_, ?_⟩
      · intro L vs wq hL hA hC hJ h58
        rw [(show vs 58 = .int .i64 (i : Nat) from h58)]
        unfold forAll
        exact StepV.val 59 (by kernel_rfl) (by go_simp) rfl (by simp [Act.put]) rfl rfl hJ
      refine ⟨StepS.of [57, 59] (by kernel_rfl) ?_, ?_⟩
      · intro L vs wq hL hA hC hJ h57 h59
        rw [(show vs 57 = .slice (some ⟨b, off, none⟩) n c from h57), (show vs 59 = .int .i64 ((i : Int) + 1) from h59)]
        unfold forAll
        exact StepV.val 60 (by kernel_rfl) (by go_simp) rfl (by simp [Act.put]) rfl rfl hJ
      refine ⟨StepS.of [56, 60] (by kernel_rfl) ?_, ?_⟩
      · intro L vs wq hL hA hC hJ h56 h60
        rw [(show vs 60 = .slice (if c = i + 1 then some ⟨b, off, none⟩ else some ⟨b, off + (i + 1) * 3, none⟩) (n - (i + 1)) (c - (i + 1)) from h60)]
        unfold forAll
        have ha := afterS hA (i := 4) (by kernel_rfl)
        have h3 := hC.no (j := 10) (i := 9) (by kernel_rfl) hL
        have K := Own.cast (qs := [box B9 100 (accL l num den i), box B8 100 (waysL l i), row 3 1 (.slice (some ⟨g6, 0, none⟩) 8 c6) 8 (ints (thsF l num den)), box B0 23 [.int .i64 num, .int .i64 den], row 64 3 (vs 56) (i) (X1)]) hJ (by simp [hL, ha, h3])
        obtain ⟨A8, c8, e8, ho8⟩ := rd_of_own (K.get 4 rfl)
        rw [e8]
        refine StepV.app 61 rfl (.tmp 56) (.tmp 60) 49 rfl rfl (by simp [Act.put]) rfl st49t 4 K rfl (by simp [Act.eval, Act.put, e8]) (by simp [Act.eval, Act.put]; rfl) (n - 1) (X3) (X2) (by omega) (HXF.out) (R2.out wq K.bel) (L2.out) (O2.out) (by unfold maxLen; omega) (by omega) ?_
        intro A9 c9 w9 hO9
        exact ⟨trivial, hO9.cast (by simp [upd, updv, ha, h3])⟩
      refine ⟨StepS.of [61] (by kernel_rfl) ?_, ?_⟩
      · intro L vs wq hL hA hC hJ h61
        unfold forAll
        have ha := afterS hA (i := 9) (by kernel_rfl)
        have K := Own.cast (qs := [box B9 100 (accL l num den i), box B8 100 (waysL l i), row 3 1 (.slice (some ⟨g6, 0, none⟩) 8 c6) 8 (ints (thsF l num den)), box B0 23 [.int .i64 num, .int .i64 den], row 64 3 (vs 61) (n - 1) (X3)]) hJ (by simp [hL, ha])
        exact StepV.val 11 (v := vs 61) (by kernel_rfl) (by kernel_rfl) rfl (by simp [Act.put]) rfl trivial (K.cast (by simp [upd, updv, ha]))
      exact trivial
    · intro vs w9 hJ h52 h53 h54 h55 h56 h57 h58 h59 h60 h61 h11
      rw [(show vs 53 = .slice (some ⟨b, off, none⟩) n c from h53), (show vs 54 = .int .i64 (i : Nat) from h54), (show vs 55 = .slice (some ⟨b, off, none⟩) i c from h55), (show vs 57 = .slice (some ⟨b, off, none⟩) n c from h57), (show vs 58 = .int .i64 (i : Nat) from h58), (show vs 59 = .int .i64 ((i : Int) + 1) from h59), (show vs 60 = .slice (if c = i + 1 then some ⟨b, off, none⟩ else some ⟨b, off + (i + 1) * 3, none⟩) (n - (i + 1)) (c - (i + 1)) from h60)]
      clear h52 h53 h54 h55 h56 h57 h58 h59 h60 h61 h11
      have K := Own.cast (qs := [box B9 100 (accL l num den i), box B8 100 (waysL l i), row 3 1 (.slice (some ⟨g6, 0, none⟩) 8 c6) 8 (ints (thsF l num den)), box B0 23 [.int .i64 num, .int .i64 den], row 64 3 (vs 11) (n - 1) (X3)]) hJ rfl
      obtain ⟨A9, c9, e9, _⟩ := rd_of_own (K.get 4 rfl)
      rw [e9] at K
      rw [e9]
      have S9 := Lib.hid K
      clear K hJ
      unfold forAll
      simp only [Act.put, List.setIfInBounds_toArray, List.set_cons_zero, List.set_cons_succ]
      clear I2 R1 R2 L1 L2 HXF O1 O2 y1 y2 y3 y4 y5 y6
      generalize (if c = i + 1 then some (⟨b, off, none⟩ : Addr) else some ⟨b, off + (i + 1) * 3, none⟩) = pz
      have z0 : IntKind.i64.wrap ((i : Int) + 1) = ((i + 1 : Nat) : Int) := by rw [show (i : Int) + 1 = ((i + 1 : Nat) : Int) by omega]; exact IntWalk.i64_in _ (by omega)
      obtain ⟨c0, c1, _⟩ := (S9.out.bx 3 rfl).c2
      go_wp2_with fail
      refine (K34.out A9 c9 _ (S9.out.rd 4 rfl)).mono ?_
      rintro e wt ⟨AT, cT, rfl, hOT⟩
      obtain ⟨gT, rfl⟩ := hOT.rowAddr 0 rfl (by decide)
      have ST := Lib.hid (((S9.out.call hOT).sub [0, 1, 2, 3, 4] (by decide) (qs := [row 3 1 (.slice (some ⟨gT, 0, none⟩) 8 cT) 8 (ints T), box B9 100 (accL l num den i), box B8 100 (waysL l i), row 3 1 (.slice (some ⟨g6, 0, none⟩) 8 c6) 8 (ints (thsF l num den)), box B0 23 [.int .i64 num, .int .i64 den]]) rfl))
      clear hOT S9 K34 c0 c1
      obtain ⟨e9, f0, f1, f2⟩ := HTR.out wt ST.out.bel
      have hg0 : ¬ (g : Int) < 0 := by omega
      have hg8' : ¬ (8 : Int) ≤ (g : Int) := by omega
      go_wp2_with fail
      clear e9 f0 f1 f2
      obtain ⟨G1, rfl⟩ : ∃ G1 : Nat, G1 = gk := ⟨_, rfl⟩
      go_loopg [93] 8 (fun q u93 wr => ∃ k : Nat, k ≤ 8 ∧ u93 = .int .i64 (k : Nat) ∧ Hid (k + q = 8 ∧ Own w wr [row 3 1 (.slice (some ⟨gT, 0, none⟩) 8 cT) 8 (ints T), box B9 100 (accL l num den i), box B8 100 (waysL l i), row 3 1 (.slice (some ⟨g6, 0, none⟩) 8 c6) 8 (ints (thsF l num den)), box B0 23 [.int .i64 num, .int .i64 den]]))
      case atStart => exact ⟨0, by omega, rfl, by omega, ST.out⟩
      case round =>
        obtain ⟨k, hk, rfl, hJ⟩ := hrel
        have J1 := Lib.hid hJ.out.1
        have J2 := Lib.hid hJ.out.2
        clear hJ ST
        by_cases hlt2 : k < 8
        · as_aux_lemma =>
          have hk8 : (k : Int) < 8 := by omega
          have zk : IntKind.i64.wrap ((k : Int) + 1) = ((k + 1 : Nat) : Int) := by rw [show (k : Int) + 1 = ((k + 1 : Nat) : Int) by omega]; exact IntWalk.i64_in _ (by omega)
          have fg0 := fun x : OwnOf w [row 3 1 (.slice (some ⟨gT, 0, none⟩) 8 cT) 8 (ints T), box B9 100 (accL l num den i), box B8 100 (waysL l i), row 3 1 (.slice (some ⟨g6, 0, none⟩) 8 c6) 8 (ints (thsF l num den)), box B0 23 [.int .i64 num, .int .i64 den]] => (HTR.out x.wld x.own.bel).1
          have fg1 := fun x : OwnOf w [row 3 1 (.slice (some ⟨gT, 0, none⟩) 8 cT) 8 (ints T), box B9 100 (accL l num den i), box B8 100 (waysL l i), row 3 1 (.slice (some ⟨g6, 0, none⟩) 8 c6) 8 (ints (thsF l num den)), box B0 23 [.int .i64 num, .int .i64 den]] => (HTR.out x.wld x.own.bel).2.1
          have hne : Nonempty (OwnOf w [row 3 1 (.slice (some ⟨gT, 0, none⟩) 8 cT) 8 (ints T), box B9 100 (accL l num den i), box B8 100 (waysL l i), row 3 1 (.slice (some ⟨g6, 0, none⟩) 8 c6) 8 (ints (thsF l num den)), box B0 23 [.int .i64 num, .int .i64 den]]) := ⟨⟨_, J2.out⟩⟩
          by_cases hkg : k = g
          · subst hkg
            go_upto_region 21 with (fail)
            refine wp_region_own J2.out (by kernel_rfl) (by kernel_rfl) ?_
            iterate 18 (go_big_quiet_step (fail))
            refine wpQuiet_nil ?_
            rintro wb ⟨z, hz⟩
            have SB := Lib.hid (show Own w wb [row 3 1 (.slice (some ⟨gT, 0, none⟩) 8 cT) 8 (ints T), box B9 100 (accL l num den i), box B8 100 (waysL l i), row 3 1 (.slice (some ⟨g6, 0, none⟩) 8 c6) 8 (ints (thsF l num den)), box B0 23 [.int .i64 num, .int .i64 den]] by rw [hz]; exact z.own)
            clear hz z J2 fg0 fg1 hne
            go_wp2_with fail
            go_roundg (gk - 1)
            case measure => have := J1.out; omega
            case rel => exact ⟨k + 1, by omega, by go_num, by have := J1.out; omega, SB.out⟩
          · have hkg' : ¬ (k : Int) = (g : Int) := by omega
            have hk1 : ((k : Int) == (g : Int)) = false := by simpa using hkg'
            have hk2 : ((k : Int) != (g : Int)) = true := by simpa using hkg'
            have hk3 : (k == g) = false := by simpa using hkg
            have hk4 : (k != g) = true := by simpa using hkg
            have e1 := HTT.out k hlt2
            have e2 := HAL.out k hlt2
            rw [HWN.out (k : Nat) (by rw [HDB.out]; simp; omega)] at e1
            generalize limF (dif l (k : Nat)) num den = v at *
            have ft : ∀ x : OwnOf w [row 3 1 (.slice (some ⟨gT, 0, none⟩) 8 cT) 8 (ints T), box B9 100 (accL l num den i), box B8 100 (waysL l i), row 3 1 (.slice (some ⟨g6, 0, none⟩) 8 c6) 8 (ints (thsF l num den)), box B0 23 [.int .i64 num, .int .i64 den]], x.wld.cell? ⟨gT, k, none⟩ = some (.int .i64 v) := fun x => x.own.rowAt (g := gT) 0 rfl (by simp [ints, e1])
            have fa : ∀ x : OwnOf w [row 3 1 (.slice (some ⟨gT, 0, none⟩) 8 cT) 8 (ints T), box B9 100 (accL l num den i), box B8 100 (waysL l i), row 3 1 (.slice (some ⟨g6, 0, none⟩) 8 c6) 8 (ints (thsF l num den)), box B0 23 [.int .i64 num, .int .i64 den]], x.wld.cell? ⟨g6, k, none⟩ = some (.int .i64 v) := fun x => x.own.rowAt (g := g6) 3 rfl (by simp [ints, e2])
            clear e1 e2
            go_upto_region 21 with (fail)
            refine wp_region_own J2.out (by kernel_rfl) (by kernel_rfl) ?_
            iterate 18 (go_big_quiet_step (fail))
            refine wpQuiet_nil ?_
            rintro wb ⟨z, hz⟩
            have SB := Lib.hid (show Own w wb [row 3 1 (.slice (some ⟨gT, 0, none⟩) 8 cT) 8 (ints T), box B9 100 (accL l num den i), box B8 100 (waysL l i), row 3 1 (.slice (some ⟨g6, 0, none⟩) 8 c6) 8 (ints (thsF l num den)), box B0 23 [.int .i64 num, .int .i64 den]] by rw [hz]; exact z.own)
            clear hz z J2 fg0 fg1 ft fa hne
            go_wp2_with fail
            go_roundg (gk - 1)
            case measure => have := J1.out; omega
            case rel => exact ⟨k + 1, by omega, by go_num, by have := J1.out; omega, SB.out⟩
        obtain rfl : k = 8 := by omega
        have hdg : difB (g : Nat) ⟨(g : Nat), xb, false⟩ = true := by simp [difB]
        obtain ⟨e9, f0, f1, f2⟩ := HTR.out _ J2.out.bel
        have u8 := (J2.out.bx 2 rfl).1 g _ (waysL_at l i hg8)
        have u9 := (J2.out.bx 2 rfl).2.1
        have ul := (J2.out.bx 2 rfl).2.2
        have hwl := ways_le l g i
        have hal := accD_le (l := l) (kepP (dif l (g : Nat)) num den) g i
        have HW := Lib.hid (HWP.out g hg8 hdg)
        have HA := Lib.hid (HAP.out g hg8 hdg)
        have HK := Lib.hid (HAK.out g hdg)
        have HH := Lib.hid (HKH.out g hdg)
        have ea := accL_at l num den i hg8
        have et := HTT.out g hg8
        rw [← HN.out] at hwl
        generalize (dif (l.take i) (g : Nat)).length = d at *
        generalize (dif (l.take i) (g : Nat)).countP (kepP (dif l (g : Nat)) num den) = a at *
        generalize limF (dif (wo l i) (g : Nat)) num den = t at *
        have HEA := Lib.hid ea
        have HET := Lib.hid et
        have zd : IntKind.i64.wrap ((d : Int) + 1) = ((d + 1 : Nat) : Int) := by rw [show (d : Int) + 1 = ((d + 1 : Nat) : Int) by omega]; exact IntWalk.i64_in _ (by omega)
        have za : IntKind.i64.wrap ((a : Int) + 1) = ((a + 1 : Nat) : Int) := by rw [show (a : Int) + 1 = ((a + 1 : Nat) : Int) by omega]; exact IntWalk.i64_in _ (by omega)
        clear ea et hdg HWP HAP HAK HKH HWN HTT HAL J1
        go_upto_region 25 with (fail)
        have S6 := Lib.hid (show Own w (wr.setCell ⟨B8, g, none⟩ (.int .i64 ((d : Int) + 1))) [row 3 1 (.slice (some ⟨gT, 0, none⟩) 8 cT) 8 (ints T), box B9 100 (accL l num den i), box B8 100 (waysL l (i + 1)), row 3 1 (.slice (some ⟨g6, 0, none⟩) 8 c6) 8 (ints (thsF l num den)), box B0 23 [.int .i64 num, .int .i64 den]] from (J2.out.set 2 rfl g (.int .i64 ((d + 1 : Nat) : Int))).cast (by rw [HW.out]; rfl))
        clear e9 f0 f1 f2 u8 u9 ul J2
        generalize wr.setCell _ _ = w6 at *
        have fg0 := fun x : OwnOf w [row 3 1 (.slice (some ⟨gT, 0, none⟩) 8 cT) 8 (ints T), box B9 100 (accL l num den i), box B8 100 (waysL l (i + 1)), row 3 1 (.slice (some ⟨g6, 0, none⟩) 8 c6) 8 (ints (thsF l num den)), box B0 23 [.int .i64 num, .int .i64 den]] => (HTR.out x.wld x.own.bel).1
        have fg1 := fun x : OwnOf w [row 3 1 (.slice (some ⟨gT, 0, none⟩) 8 cT) 8 (ints T), box B9 100 (accL l num den i), box B8 100 (waysL l (i + 1)), row 3 1 (.slice (some ⟨g6, 0, none⟩) 8 c6) 8 (ints (thsF l num den)), box B0 23 [.int .i64 num, .int .i64 den]] => (HTR.out x.wld x.own.bel).2.1
        have fg2 := fun x : OwnOf w [row 3 1 (.slice (some ⟨gT, 0, none⟩) 8 cT) 8 (ints T), box B9 100 (accL l num den i), box B8 100 (waysL l (i + 1)), row 3 1 (.slice (some ⟨g6, 0, none⟩) 8 c6) 8 (ints (thsF l num den)), box B0 23 [.int .i64 num, .int .i64 den]] => (HTR.out x.wld x.own.bel).2.2.1
        have ft : ∀ x : OwnOf w [row 3 1 (.slice (some ⟨gT, 0, none⟩) 8 cT) 8 (ints T), box B9 100 (accL l num den i), box B8 100 (waysL l (i + 1)), row 3 1 (.slice (some ⟨g6, 0, none⟩) 8 c6) 8 (ints (thsF l num den)), box B0 23 [.int .i64 num, .int .i64 den]], x.wld.cell? ⟨gT, g, none⟩ = some (.int .i64 t) := fun x => x.own.rowAt (g := gT) 0 rfl (by simp [ints, HET.out])
        have hne : Nonempty (OwnOf w [row 3 1 (.slice (some ⟨gT, 0, none⟩) 8 cT) 8 (ints T), box B9 100 (accL l num den i), box B8 100 (waysL l (i + 1)), row 3 1 (.slice (some ⟨g6, 0, none⟩) 8 c6) 8 (ints (thsF l num den)), box B0 23 [.int .i64 num, .int .i64 den]]) := ⟨⟨_, S6.out⟩⟩
        refine wp_region_own S6.out (by kernel_rfl) (by kernel_rfl) ?_
        iterate 14 (go_big_quiet_step (fail))
        refine wpQuiet_nil ?_
        rintro w7 ⟨z, hz⟩
        have S7 := Lib.hid (show Own w w7 [row 3 1 (.slice (some ⟨gT, 0, none⟩) 8 cT) 8 (ints T), box B9 100 (accL l num den i), box B8 100 (waysL l (i + 1)), row 3 1 (.slice (some ⟨g6, 0, none⟩) 8 c6) 8 (ints (thsF l num den)), box B0 23 [.int .i64 num, .int .i64 den]] by rw [hz]; exact z.own)
        clear hz z S6 fg0 fg1 fg2 ft hne
        by_cases hxt : xb ≤ t
        · as_aux_lemma =>
          have HA2 := Lib.hid (HA.out (by rw [← HH.out]; exact decide_eq_true hxt))
          obtain ⟨e9, f0, f1, f2⟩ := HTR.out _ S7.out.bel
          have u8 := (S7.out.bx 1 rfl).1 g _ HEA.out
          have u9 := (S7.out.bx 1 rfl).2.1
          have ul := (S7.out.bx 1 rfl).2.2
          go_upto_region 27 with (fail)
          have S8 := Lib.hid (show Own w (w7.setCell ⟨B9, g, none⟩ (.int .i64 ((a : Int) + 1))) [row 3 1 (.slice (some ⟨gT, 0, none⟩) 8 cT) 8 (ints T), box B9 100 (accL l num den (i + 1)), box B8 100 (waysL l (i + 1)), row 3 1 (.slice (some ⟨g6, 0, none⟩) 8 c6) 8 (ints (thsF l num den)), box B0 23 [.int .i64 num, .int .i64 den]] from (S7.out.set 1 rfl g (.int .i64 ((a + 1 : Nat) : Int))).cast (by rw [HA2.out]; rfl))
          clear e9 f0 f1 f2 u8 u9 ul S7
          generalize w7.setCell _ _ = w8 at *
          go_wp2_with fail
          go_roundg (G1 - 1)
          case measure => have := I1.out; omega
          case rel => exact ⟨i + 1, by omega, by go_num, by have := I1.out; omega, S8.out.tail⟩
        · as_aux_lemma =>
          have HK2 := Lib.hid (HK.out (by rw [← HH.out]; exact decide_eq_false hxt))
          have S8 := Lib.hid (show Own w w7 [row 3 1 (.slice (some ⟨gT, 0, none⟩) 8 cT) 8 (ints T), box B9 100 (accL l num den (i + 1)), box B8 100 (waysL l (i + 1)), row 3 1 (.slice (some ⟨g6, 0, none⟩) 8 c6) 8 (ints (thsF l num den)), box B0 23 [.int .i64 num, .int .i64 den]] from S7.out.cast (by rw [HK2.out]))
          clear S7
          go_wp2_with fail
          go_roundg (G1 - 1)
          case measure => have := I1.out; omega
          case rel => exact ⟨i + 1, by omega, by go_num, by have := I1.out; omega, S8.out.tail⟩
end Go.Proofs.Ytnalbchggjepdaa
