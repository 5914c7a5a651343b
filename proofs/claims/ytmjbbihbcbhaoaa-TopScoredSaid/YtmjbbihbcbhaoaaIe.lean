/- Iris: valid codes, distances, scores. No condition. -/
import Derived.Test.YtmjbbihbcbhaoaaId
namespace Go.Proofs.Ytmjbbihbcbhaoaa
open Go.RowKit Go.Shelf
attribute [local go_sem] Oper.semAt_some

/-- Whether a code is valid. -/
def chkB (c m : Nat) : Bool := decide (c &&& (18446744073709551615 - m) = 0)
def chkN (b : Bool) : Int := if b then 0 else 30
def chkE (c m : Nat) : Int := chkN (chkB c m)
set_option maxRecDepth 100000 in
set_option maxHeartbeats 8000000 in
theorem check_any (c m : Nat) (hc : c < 18446744073709551616) (hm : m < 18446744073709551616) (w : World) :
    Calls Try.prog 7 #[irV c m] w fun e w' => e = .returned (.int .i64 (chkE c m)) ∧ Below w.heap.size w w' := by
  have e1 := u64_andNot_nat c m hc hm
  obtain ⟨y, hy⟩ : ∃ y, y = c &&& (18446744073709551615 - m) := ⟨_, rfl⟩
  rw [← hy] at e1
  have HR := Lib.hid (show chkB c m = decide (y = 0) by rw [hy]; rfl)
  have S0 := Lib.hid ((Own.start w).new' 24 #[.int .u64 (c : Nat), .int .u64 (m : Nat)] (B := w.heap.size) rfl)
  clear hy hc hm
  unfold irV
  by_cases h : y = 0
  · as_aux_lemma =>
    subst h
    have HE := Lib.hid (show chkE c m = 0 by unfold chkE; rw [HR.out]; rfl)
    have e2 : bits .andNot .u64 (c : Int) (m : Int) = 0 := e1
    clear e1
    go_enter Try.func7, Try.ntmps7
    go_wp2_with fail
    go_ret
    exact ⟨by rw [HE.out]; rfl, S0.out.bel⟩
  · as_aux_lemma =>
    have HE := Lib.hid (show chkE c m = 30 by unfold chkE; rw [HR.out, decide_eq_false h]; rfl)
    have hz : ((y : Int) == 0) = false := by simp [h]
    have hz2 : ¬ (y : Int) = 0 := by omega
    go_enter Try.func7, Try.ntmps7
    go_wp2_with fail
    go_ret
    exact ⟨by rw [HE.out]; rfl, S0.out.bel⟩
def witB (n lo hi : Int) : Bool := decide (lo ≤ n ∧ n ≤ hi)
theorem witI_any (n lo hi : Int) (w : World) : Calls Try.prog 15 #[.int .i64 n, .int .i64 lo, .int .i64 hi] w fun e w' => e = .returned (.bool (witB n lo hi)) ∧ w = w' := by
  have HR := Lib.hid (show witB n lo hi = (decide (lo ≤ n) && decide (n ≤ hi)) by simp [witB])
  by_cases h : lo ≤ n
  · have HE := Lib.hid (show witB n lo hi = decide (n ≤ hi) by rw [HR.out, decide_eq_true h, Bool.true_and])
    go_enter Try.func15, Try.ntmps15
    go_wp2_with fail
    go_ret
    exact ⟨by rw [HE.out]; simp, rfl⟩
  · have HE := Lib.hid (show witB n lo hi = false by rw [HR.out, decide_eq_false h, Bool.false_and])
    go_enter Try.func15, Try.ntmps15
    go_wp2_with fail
    go_ret
    exact ⟨by rw [HE.out]; rfl, rfl⟩
def pairC (c m c' m' : Nat) : List Value := [.int .u64 (c : Nat), .int .u64 (m : Nat), .int .u64 (c' : Nat), .int .u64 (m' : Nat)]
set_option maxRecDepth 100000 in
set_option maxHeartbeats 8000000 in
theorem valid_any (c m c' m' : Nat) (hc : c < 18446744073709551616) (hm : m < 18446744073709551616) (hc' : c' < 18446744073709551616) (hm' : m' < 18446744073709551616) (B : Nat) (w : World) (hr : Box w B (pairC c m c' m')) :
    Calls Try.prog 14 #[.slice (some ⟨B, 0, none⟩) 2 2] w fun e w' => e = .returned (.bool (chkB c m && chkB c' m')) ∧ Below w.heap.size w w' := by
  have K := Lib.hid (fun x y hx hy W => check_any x y hx hy W)
  unfold irV chkE at K
  obtain ⟨r, hrr⟩ : ∃ r, r = (chkB c m && chkB c' m') := ⟨_, rfl⟩
  rw [← hrr]
  have HRR := Lib.hid hrr
  have HBX := Lib.hid hr
  have HX := Lib.hid (fun i (hi : i < 2) => (show ∃ x y : Nat, x < 18446744073709551616 ∧ y < 18446744073709551616 ∧ (pairC c m c' m')[i * 2]? = some (.int .u64 (x : Nat)) ∧ (pairC c m c' m')[i * 2 + 1]? = some (.int .u64 (y : Nat)) ∧ chkB x y = (if i = 0 then chkB c m else chkB c' m') by
    obtain rfl | rfl : i = 0 ∨ i = 1 := by omega
    · exact ⟨c, m, hc, hm, rfl, rfl, rfl⟩
    · exact ⟨c', m', hc', hm', rfl, rfl, rfl⟩))
  clear hr hrr hc hm hc' hm'
  go_enter Try.func14, Try.ntmps14
  go_wp2_with fail
  go_loopg [7] 2 (fun q u7 wr => ∃ i : Nat, i ≤ 2 ∧ u7 = .int .i64 ((i : Nat) : Int) ∧ Hid (i + q = 2 ∧ (1 ≤ i → chkB c m = true) ∧ (2 ≤ i → chkB c' m' = true) ∧ Own w wr []))
  case atStart => exact ⟨0, by omega, rfl, by omega, fun h => by omega, fun h => by omega, Own.start w⟩
  case round =>
    obtain ⟨i, hi, rfl, hI⟩ := hrel
    have I1 := Lib.hid hI.out.1
    have I2 := Lib.hid hI.out.2.1
    have I3 := Lib.hid hI.out.2.2.1
    have I4 := Lib.hid hI.out.2.2.2
    clear hI
    by_cases hlt : i < 2
    case neg => as_aux_lemma =>
      have hni : ¬ (i : Int) < 2 := by omega
      have HE := Lib.hid (show r = true by rw [HRR.out, I2.out (by omega), I3.out (by omega)]; rfl)
      clear hlt
      go_wp2_with fail
      go_ret
      exact ⟨by rw [HE.out]; rfl, I4.out.bel⟩
    have hix : (i : Int) < 2 := by omega
    obtain ⟨x, y, lx, ly, f0, f1, hk⟩ := HX.out i hlt
    have HBW := Lib.hid (HBX.out.below I4.out.bel HBX.out.2.2)
    have c0 := HBW.out.1 _ _ f0
    have c1 := HBW.out.1 _ _ f1
    have cl := HBW.out.2.2
    have K1 := Lib.hid (fun W => K.out x y lx ly W)
    have HK := Lib.hid hk
    clear f0 f1 lx ly hk
    cases hb : chkB x y
    · as_aux_lemma =>
      rw [hb] at K1 HK
      have HE := Lib.hid (show r = false by
        have h := HK.out
        rw [HRR.out]
        split at h
        · rw [← h]; rfl
        · rw [← h, Bool.and_false])
      clear hb HK
      go_wp2_with fail
      refine (K1.out _).mono ?_
      rintro e w2 ⟨rfl, hb2⟩
      have S2 := Lib.hid ((I4.out.ext (below_alloc wr (.cells #[.int .u64 (x : Nat), .int .u64 (y : Nat)] 24))).ext hb2)
      clear hb2
      go_wp2_with fail
      go_ret
      exact ⟨by rw [HE.out]; rfl, S2.out.bel⟩
    · as_aux_lemma =>
      rw [hb] at K1 HK
      have HE := Lib.hid (show (1 ≤ i + 1 → chkB c m = true) ∧ (2 ≤ i + 1 → chkB c' m' = true) by
        have h := HK.out
        split at h
        · exact ⟨fun _ => h.symm, fun k => by omega⟩
        · exact ⟨fun _ => I2.out (by omega), fun _ => h.symm⟩)
      clear hb HK
      go_wp2_with fail
      refine (K1.out _).mono ?_
      rintro e w2 ⟨rfl, hb2⟩
      have S2 := Lib.hid ((I4.out.ext (below_alloc wr (.cells #[.int .u64 (x : Nat), .int .u64 (y : Nat)] 24))).ext hb2)
      clear hb2
      go_wp2_with fail
      go_roundg (gk - 1)
      case measure => have := I1.out; omega
      case rel => exact ⟨i + 1, by omega, by go_num, by have := I1.out; omega, HE.out.1, HE.out.2, S2.out⟩
/-- What Distance returns. -/
def disF (c m c' m' : Nat) (t : Int) : Nat × Nat × Int × Int :=
  if (chkB c m && chkB c' m') = true then
    if witB t 0 7 = true then
      if (bestF c m c' m' (ordL (t.toNat + 1))).2.1 = 0 then (0, 0, 0, 6)
      else ((bestF c m c' m' (ordL (t.toNat + 1))).1, (bestF c m c' m' (ordL (t.toNat + 1))).2.1, (bestF c m c' m' (ordL (t.toNat + 1))).2.2, 0)
    else (0, 0, 0, 2)
  else (0, 0, 0, 30)
def disV (r : Nat × Nat × Int × Int) : Value := .tuple #[.int .i64 (r.1 : Nat), .int .i64 (r.2.1 : Nat), .int .i64 r.2.2.1, .int .i64 r.2.2.2]
set_option maxRecDepth 100000 in
set_option maxHeartbeats 8000000 in
theorem distanceI_any (c m c' m' : Nat) (hc : c < 18446744073709551616) (hm : m < 18446744073709551616) (hc' : c' < 18446744073709551616) (hm' : m' < 18446744073709551616) (t : Int) (w : World) :
    Calls Try.prog 10 #[irV c m, irV c' m', .int .i64 t] w fun e w' => e = .returned (disV (disF c m c' m' t)) ∧ Below w.heap.size w w' := by
  have KV := Lib.hid (fun B W hr => valid_any c m c' m' hc hm hc' hm' B W hr)
  have KD := fun (tn : Nat) (ht : tn ≤ 7) W => distance_any c m c' m' hc' hm' tn ht W
  have KW := fun W => witI_any t 0 7 W
  obtain ⟨r, hr⟩ : ∃ r, r = disF c m c' m' t := ⟨_, rfl⟩
  rw [← hr]
  obtain ⟨B, hB⟩ : ∃ B, B = w.heap.size := ⟨_, rfl⟩
  have S1 := Lib.hid (((Own.start w).new' 24 #[.int .u64 (c : Nat), .int .u64 (m : Nat)] (B := B) hB).new' 24 #[.int .u64 (c' : Nat), .int .u64 (m' : Nat)] (B := B + 1) (by simp [hB]))
  clear hc hm hc' hm'
  unfold irV at KD ⊢
  unfold paV at KD
  unfold disV
  cases hv : (chkB c m && chkB c' m')
  · as_aux_lemma =>
    have HE := Lib.hid (show r = (0, 0, 0, 30) by rw [hr]; simp only [disF, hv]; rfl)
    rw [hv] at KV
    clear hr hv KD KW
    go_enter Try.func10, Try.ntmps10
    go_upto_region 1 with (fail)
    rw [← hB]
    clear hB
    generalize World.alloc _ _ = w2 at *
    have S2 := Lib.hid (S1.out.new' 24 #[.int .u64 (c : Nat), .int .u64 (m : Nat), .int .u64 (c' : Nat), .int .u64 (m' : Nat)] (B := w2.heap.size) rfl)
    obtain ⟨s0, s1, _⟩ := (S1.out.bx 1 rfl).c2
    have sl := (S1.out.bx 1 rfl).2.2
    obtain ⟨t0, t1, _⟩ := (S1.out.bx 0 rfl).c2
    have tl := (S1.out.bx 0 rfl).2.2
    go_wp2_with fail
    refine (KV.out _ _ (S2.out.bx 0 rfl)).mono ?_
    rintro e w3 ⟨rfl, hb3⟩
    have S3 := Lib.hid (S2.out.ext hb3)
    clear hb3 s0 s1 sl t0 t1 tl S1 S2
    go_wp2_with fail
    refine bodyPost_ret (v := .tuple #[.int .i64 (r.1 : Nat), .int .i64 (r.2.1 : Nat), .int .i64 r.2.2.1, .int .i64 r.2.2.2]) (by rw [HE.out]; simp [results, Try.results10, go_sem]) rfl ⟨rfl, S3.out.bel⟩
  rw [hv] at KV
  cases hw : witB t 0 7
  · as_aux_lemma =>
    have HE := Lib.hid (show r = (0, 0, 0, 2) by rw [hr]; simp only [disF, hv, hw]; rfl)
    rw [hw] at KW
    replace KW := Lib.hid KW
    clear hr hv hw KD
    go_enter Try.func10, Try.ntmps10
    go_upto_region 1 with (fail)
    rw [← hB]
    clear hB
    generalize World.alloc _ _ = w2 at *
    have S2 := Lib.hid (S1.out.new' 24 #[.int .u64 (c : Nat), .int .u64 (m : Nat), .int .u64 (c' : Nat), .int .u64 (m' : Nat)] (B := w2.heap.size) rfl)
    obtain ⟨s0, s1, _⟩ := (S1.out.bx 1 rfl).c2
    have sl := (S1.out.bx 1 rfl).2.2
    obtain ⟨t0, t1, _⟩ := (S1.out.bx 0 rfl).c2
    have tl := (S1.out.bx 0 rfl).2.2
    go_wp2_with fail
    refine (KV.out _ _ (S2.out.bx 0 rfl)).mono ?_
    rintro e w3 ⟨rfl, hb3⟩
    have S3 := Lib.hid (S2.out.ext hb3)
    clear hb3 s0 s1 sl t0 t1 tl S1 S2
    go_wp2_with fail
    refine (KW.out _).mono ?_
    rintro e w4 ⟨rfl, rfl⟩
    go_wp2_with fail
    refine bodyPost_ret (v := .tuple #[.int .i64 (r.1 : Nat), .int .i64 (r.2.1 : Nat), .int .i64 r.2.2.1, .int .i64 r.2.2.2]) (by rw [HE.out]; simp [results, Try.results10, go_sem]) rfl ⟨rfl, S3.out.bel⟩
  have ht : 0 ≤ t ∧ t ≤ 7 := by simpa [witB] using hw
  obtain ⟨tn, rfl⟩ := Int.eq_ofNat_of_zero_le ht.1
  have KD1 := Lib.hid (KD tn (by omega))
  rw [hw] at KW
  replace KW := Lib.hid KW
  have hg := best_good c m c' m' (ordL (tn + 1)) (0, 0, 0) (by unfold goodP; decide)
  have HR := Lib.hid (show r = if (bestF c m c' m' (ordL (tn + 1))).2.1 = 0 then (0, 0, 0, 6) else ((bestF c m c' m' (ordL (tn + 1))).1, (bestF c m c' m' (ordL (tn + 1))).2.1, (bestF c m c' m' (ordL (tn + 1))).2.2, 0) by rw [hr]; simp only [disF, hv, hw, if_true, Int.toNat_natCast])
  change goodP (bestF c m c' m' (ordL (tn + 1))) at hg
  clear hr hv hw KD ht
  generalize bestF c m c' m' (ordL (tn + 1)) = b at *
  obtain ⟨n, d, tt⟩ := b
  unfold goodP at hg
  dsimp only at hg HR KD1
  by_cases hd : d = 0
  · as_aux_lemma =>
    have HE := Lib.hid (show r = (0, 0, 0, 6) by rw [HR.out, if_pos hd])
    subst hd
    clear hg
    go_enter Try.func10, Try.ntmps10
    go_upto_region 1 with (fail)
    rw [← hB]
    clear hB
    generalize World.alloc _ _ = w2 at *
    have S2 := Lib.hid (S1.out.new' 24 #[.int .u64 (c : Nat), .int .u64 (m : Nat), .int .u64 (c' : Nat), .int .u64 (m' : Nat)] (B := w2.heap.size) rfl)
    obtain ⟨s0, s1, _⟩ := (S1.out.bx 1 rfl).c2
    have sl := (S1.out.bx 1 rfl).2.2
    obtain ⟨t0, t1, _⟩ := (S1.out.bx 0 rfl).c2
    have tl := (S1.out.bx 0 rfl).2.2
    go_wp2_with fail
    refine (KV.out _ _ (S2.out.bx 0 rfl)).mono ?_
    rintro e w3 ⟨rfl, hb3⟩
    have S3 := Lib.hid (S2.out.ext hb3)
    clear hb3 s0 s1 sl t0 t1 tl S1 S2
    go_wp2_with fail
    refine (KW.out _).mono ?_
    rintro e w4 ⟨rfl, rfl⟩
    obtain ⟨s0, s1, _⟩ := (S3.out.bx 2 rfl).c2
    have sl := (S3.out.bx 2 rfl).2.2
    obtain ⟨t0, t1, _⟩ := (S3.out.bx 1 rfl).c2
    have tl := (S3.out.bx 1 rfl).2.2
    go_wp2_with fail
    refine (KD1.out _).mono ?_
    rintro e w5 ⟨rfl, hb5⟩
    have S5 := Lib.hid ((S3.out.ext hb5).new 46 #[.int .i64 (n : Nat), .int .i64 ((0 : Nat) : Int), .int .i64 tt])
    clear hb5 s0 s1 sl t0 t1 tl
    go_wp2_with fail
    refine bodyPost_ret (v := .tuple #[.int .i64 (r.1 : Nat), .int .i64 (r.2.1 : Nat), .int .i64 r.2.2.1, .int .i64 r.2.2.2]) (by rw [HE.out]; simp [results, Try.results10, go_sem]) rfl ⟨rfl, S5.out.bel⟩
  as_aux_lemma =>
  have HE := Lib.hid (show r = (n, d, tt, 0) by rw [HR.out, if_neg hd])
  have hdz : ((d : Int) == 0) = false := by simp [hd]
  have hdy : ¬ (d : Int) = 0 := by omega
  clear hg hd
  go_enter Try.func10, Try.ntmps10
  go_upto_region 1 with (fail)
  rw [← hB]
  clear hB
  generalize World.alloc _ _ = w2 at *
  have S2 := Lib.hid (S1.out.new' 24 #[.int .u64 (c : Nat), .int .u64 (m : Nat), .int .u64 (c' : Nat), .int .u64 (m' : Nat)] (B := w2.heap.size) rfl)
  obtain ⟨s0, s1, _⟩ := (S1.out.bx 1 rfl).c2
  have sl := (S1.out.bx 1 rfl).2.2
  obtain ⟨t0, t1, _⟩ := (S1.out.bx 0 rfl).c2
  have tl := (S1.out.bx 0 rfl).2.2
  go_wp2_with fail
  refine (KV.out _ _ (S2.out.bx 0 rfl)).mono ?_
  rintro e w3 ⟨rfl, hb3⟩
  have S3 := Lib.hid (S2.out.ext hb3)
  clear hb3 s0 s1 sl t0 t1 tl S1 S2
  go_wp2_with fail
  refine (KW.out _).mono ?_
  rintro e w4 ⟨rfl, rfl⟩
  obtain ⟨s0, s1, _⟩ := (S3.out.bx 2 rfl).c2
  have sl := (S3.out.bx 2 rfl).2.2
  obtain ⟨t0, t1, _⟩ := (S3.out.bx 1 rfl).c2
  have tl := (S3.out.bx 1 rfl).2.2
  go_wp2_with fail
  refine (KD1.out _).mono ?_
  rintro e w5 ⟨rfl, hb5⟩
  have S5 := Lib.hid ((S3.out.ext hb5).new 46 #[.int .i64 (n : Nat), .int .i64 (d : Nat), .int .i64 tt])
  have S6 := Lib.hid (S3.out.ext hb5)
  clear hb5 s0 s1 sl t0 t1 tl
  go_upto_region 8 with fail
  generalize w5.alloc _ = w6 at *
  generalize w5.heap.size = B6 at *
  have T5 := Lib.hid (S5.out.sub [0] (by decide) (qs := [box B6 46 [.int .i64 (n : Nat), .int .i64 (d : Nat), .int .i64 tt]]) rfl)
  clear S5 S6 S3
  have fx0 := fun x : OwnOf w [box B6 46 [.int .i64 (n : Nat), .int .i64 (d : Nat), .int .i64 tt]] => (x.bx 0 rfl).1 0 _ rfl
  have fx1 := fun x : OwnOf w [box B6 46 [.int .i64 (n : Nat), .int .i64 (d : Nat), .int .i64 tt]] => (x.bx 0 rfl).1 1 _ rfl
  have fx2 := fun x : OwnOf w [box B6 46 [.int .i64 (n : Nat), .int .i64 (d : Nat), .int .i64 tt]] => (x.bx 0 rfl).1 2 _ rfl
  have hne : Nonempty (OwnOf w [box B6 46 [.int .i64 (n : Nat), .int .i64 (d : Nat), .int .i64 tt]]) := ⟨⟨_, T5.out⟩⟩
  refine wp_region_own T5.out (by kernel_rfl) (by kernel_rfl) ?_
  iterate 10 (go_big_quiet_step (fail))
  refine wpQuiet_nil ?_
  rintro w7 ⟨z, hz⟩
  have S7 := Lib.hid (show Own w w7 [box B6 46 [.int .i64 (n : Nat), .int .i64 (d : Nat), .int .i64 tt]] by rw [hz]; exact z.own)
  clear hz z hne fx0 fx1 fx2 T5
  go_wp2_with fail
  refine bodyPost_ret (v := .tuple #[.int .i64 (r.1 : Nat), .int .i64 (r.2.1 : Nat), .int .i64 r.2.2.1, .int .i64 r.2.2.2]) (by rw [HE.out]; simp [results, Try.results10, go_sem]) rfl ⟨rfl, S7.out.bel⟩
end Go.Proofs.Ytmjbbihbcbhaoaa
