/- Top: scores of probes; the examples. No condition. -/
import Derived.Test.YtmjbbihbcbhaoaaIe
import Derived.Test.YtmjbbihbcbhaoaaRa
namespace Go.Proofs.Ytmjbbihbcbhaoaa
open Go.RowKit Go.Shelf
attribute [local go_sem] Oper.semAt_some

theorem disF_cases (c m c' m' : Nat) (t : Int) :
    (disF c m c' m' t = (0, 0, 0, 30) ∧ (chkB c m && chkB c' m') = false) ∨ (disF c m c' m' t = (0, 0, 0, 2) ∧ witB t 0 7 = false) ∨ disF c m c' m' t = (0, 0, 0, 6) ∨ ∃ n d tt, disF c m c' m' t = (n, d, tt, 0) ∧ n ≤ d ∧ 1 ≤ d ∧ d ≤ 64 := by
  have hg := best_good c m c' m' (ordL (t.toNat + 1)) (0, 0, 0) (by unfold goodP; decide)
  change goodP (bestF c m c' m' (ordL (t.toNat + 1))) at hg
  unfold disF
  generalize bestF c m c' m' (ordL (t.toNat + 1)) = b at *
  obtain ⟨n, d, tt⟩ := b
  unfold goodP at hg
  dsimp only at *
  split
  · split
    · split
      · exact .inr (.inr (.inl rfl))
      · exact .inr (.inr (.inr ⟨n, d, tt, rfl, by omega, by omega, by omega⟩))
    · next h => exact .inr (.inl ⟨rfl, by simpa using h⟩)
  · next h => exact .inl ⟨rfl, by simpa using h⟩
/-- A score, and whether there is one. -/
def scoF (r : Nat × Nat × Int × Int) : Nat × Bool := if r.2.2.2 = 6 then (1000, true) else if r.2.2.2 = 0 then (1000 * r.1 / r.2.1, true) else (0, false)
def scoS (c m c' m' : Nat) (t : Int) : Nat × Bool := scoF (disF c m c' m' t)
theorem scoS_le (c m c' m' : Nat) (t : Int) : (scoS c m c' m' t).1 ≤ 1000 := by
  unfold scoS
  rcases disF_cases c m c' m' t with ⟨h, _⟩ | ⟨h, _⟩ | h | ⟨n, d, tt, h, h1, h2, h3⟩
  · rw [h]; decide
  · rw [h]; decide
  · rw [h]; decide
  · rw [h]
    simp only [scoF]
    split
    · exact Nat.le_refl _
    · exact (Nat.div_le_iff_le_mul (by omega)).2 (by omega)
theorem scoS_no {c m c' m' : Nat} {t : Int} (h : (scoS c m c' m' t).2 = false) : chkB c m = false ∨ chkB c' m' = false ∨ t < 0 ∨ 7 < t := by
  unfold scoS at h
  rcases disF_cases c m c' m' t with ⟨e, k⟩ | ⟨e, k⟩ | e | ⟨n, d, tt, e, _⟩
  · rcases Bool.and_eq_false_iff.1 k with k | k
    · exact .inl k
    · exact .inr (.inl k)
  · have : ¬ (0 ≤ t ∧ t ≤ 7) := by simpa [witB] using k
    omega
  · rw [e] at h; cases h
  · rw [e] at h
    simp [scoF] at h
set_option maxRecDepth 100000 in
set_option maxHeartbeats 8000000 in
theorem scored_any (c m c' m' : Nat) (hc : c < 18446744073709551616) (hm : m < 18446744073709551616) (hc' : c' < 18446744073709551616) (hm' : m' < 18446744073709551616) (t : Int) (w : World) :
    Calls Try.prog 6 #[irV c m, irV c' m', .int .i64 t] w fun e w' => e = .returned (.tuple #[.int .i64 ((scoS c m c' m' t).1 : Nat), .bool (scoS c m c' m' t).2]) ∧ Below w.heap.size w w' := by
  have KD := fun W => distanceI_any c m c' m' hc hm hc' hm' t W
  have hD := disF_cases c m c' m' t
  obtain ⟨s, hs⟩ : ∃ s, s = scoS c m c' m' t := ⟨_, rfl⟩
  rw [← hs]
  unfold scoS at hs
  generalize disF c m c' m' t = r at *
  obtain ⟨B, hB⟩ : ∃ B, B = w.heap.size := ⟨_, rfl⟩
  have S1 := Lib.hid (((Own.start w).new' 24 #[.int .u64 (c : Nat), .int .u64 (m : Nat)] (B := B) hB).new' 24 #[.int .u64 (c' : Nat), .int .u64 (m' : Nat)] (B := B + 1) (by simp [hB]))
  clear hc hm hc' hm'
  unfold irV at KD ⊢
  unfold disV at KD
  rcases hD with ⟨hD, _⟩ | ⟨hD, _⟩ | hD | ⟨n, d, tt, hD, h1, h2, h3⟩
  · as_aux_lemma =>
    subst hD
    have HE := Lib.hid (show s = (0, false) by rw [hs]; rfl)
    clear hs
    dsimp only at KD
    replace KD := Lib.hid KD
    go_enter Try.func6, Try.ntmps6
    go_upto_region 1 with (fail)
    rw [← hB]
    clear hB
    generalize World.alloc _ _ = w2 at *
    obtain ⟨s0, s1, _⟩ := (S1.out.bx 1 rfl).c2
    have sl := (S1.out.bx 1 rfl).2.2
    obtain ⟨t0, t1, _⟩ := (S1.out.bx 0 rfl).c2
    have tl := (S1.out.bx 0 rfl).2.2
    go_wp2_with fail
    refine (KD.out _).mono ?_
    rintro e w3 ⟨rfl, hb3⟩
    have S3 := Lib.hid (S1.out.ext hb3)
    clear hb3 s0 s1 sl t0 t1 tl S1
    go_wp2_with fail
    go_ret2
    exact ⟨by rw [HE.out]; rfl, S3.out.bel⟩
  · as_aux_lemma =>
    subst hD
    have HE := Lib.hid (show s = (0, false) by rw [hs]; rfl)
    clear hs
    dsimp only at KD
    replace KD := Lib.hid KD
    go_enter Try.func6, Try.ntmps6
    go_upto_region 1 with (fail)
    rw [← hB]
    clear hB
    generalize World.alloc _ _ = w2 at *
    obtain ⟨s0, s1, _⟩ := (S1.out.bx 1 rfl).c2
    have sl := (S1.out.bx 1 rfl).2.2
    obtain ⟨t0, t1, _⟩ := (S1.out.bx 0 rfl).c2
    have tl := (S1.out.bx 0 rfl).2.2
    go_wp2_with fail
    refine (KD.out _).mono ?_
    rintro e w3 ⟨rfl, hb3⟩
    have S3 := Lib.hid (S1.out.ext hb3)
    clear hb3 s0 s1 sl t0 t1 tl S1
    go_wp2_with fail
    go_ret2
    exact ⟨by rw [HE.out]; rfl, S3.out.bel⟩
  · as_aux_lemma =>
    subst hD
    have HE := Lib.hid (show s = (1000, true) by rw [hs]; rfl)
    clear hs
    dsimp only at KD
    replace KD := Lib.hid KD
    go_enter Try.func6, Try.ntmps6
    go_upto_region 1 with (fail)
    rw [← hB]
    clear hB
    generalize World.alloc _ _ = w2 at *
    obtain ⟨s0, s1, _⟩ := (S1.out.bx 1 rfl).c2
    have sl := (S1.out.bx 1 rfl).2.2
    obtain ⟨t0, t1, _⟩ := (S1.out.bx 0 rfl).c2
    have tl := (S1.out.bx 0 rfl).2.2
    go_wp2_with fail
    refine (KD.out _).mono ?_
    rintro e w3 ⟨rfl, hb3⟩
    have S3 := Lib.hid (S1.out.ext hb3)
    clear hb3 s0 s1 sl t0 t1 tl S1
    go_wp2_with fail
    go_ret2
    exact ⟨by rw [HE.out]; rfl, S3.out.bel⟩
  · as_aux_lemma =>
    subst hD
    obtain ⟨p, hp⟩ : ∃ p, p = 1000 * n := ⟨_, rfl⟩
    obtain ⟨q, hq⟩ : ∃ q, q = p / d := ⟨_, rfl⟩
    have lq : q ≤ p := by rw [hq]; exact Nat.div_le_self _ _
    have HE := Lib.hid (show s = (q, true) by rw [hs, hq, hp]; rfl)
    dsimp only at KD
    replace KD := Lib.hid KD
    have e1 : (1000 : Int) * (n : Int) = (p : Int) := by omega
    have e2 : IntKind.i64.wrap (p : Int) = (p : Int) := IntWalk.i64_in _ (by omega)
    have e3 : (p : Int).tdiv (d : Int) = (q : Int) := by rw [Int.tdiv_eq_ediv_of_nonneg (by omega), hq]; push_cast; rfl
    have e4 : IntKind.i64.wrap (q : Int) = (q : Int) := IntWalk.i64_in _ (by omega)
    have z1 : ¬ (d : Int) = 0 := by omega
    have z2 : ((d : Int) == 0) = false := by simp; omega
    have z3 : ¬ (d : Int) < 1 := by omega
    have z4 : ¬ (n : Int) < 0 := by omega
    have z5 : ¬ (d : Int) < (n : Int) := by omega
    clear hs hp hq lq h1 h2 h3
    go_enter Try.func6, Try.ntmps6
    go_upto_region 1 with (fail)
    rw [← hB]
    clear hB
    generalize World.alloc _ _ = w2 at *
    obtain ⟨s0, s1, _⟩ := (S1.out.bx 1 rfl).c2
    have sl := (S1.out.bx 1 rfl).2.2
    obtain ⟨t0, t1, _⟩ := (S1.out.bx 0 rfl).c2
    have tl := (S1.out.bx 0 rfl).2.2
    go_wp2_with fail
    refine (KD.out _).mono ?_
    rintro e w3 ⟨rfl, hb3⟩
    have S3 := Lib.hid (S1.out.ext hb3)
    clear hb3 s0 s1 sl t0 t1 tl S1
    go_wp2_with fail
    go_ret2
    exact ⟨by rw [HE.out]; rfl, S3.out.bel⟩
theorem x_one : scoS 3855 1048575 3855 1048575 0 = (0, true) := by decide +kernel
theorem x_two : scoS 3855 1048575 3840 1048575 0 = (200, true) := by decide +kernel
theorem x_srt : srtI [200, 300] = [200, 300] :=
  (srtI_perm [200, 300]).eq_of_pairwise (fun a b _ _ h1 h2 => Int.le_antisymm h1 h2) (srtI_pair [200, 300]) (by decide +kernel)
theorem x_thr : thrF [200, 300] 1 2 = (199, 0) := by
  unfold thrF limF
  rw [x_srt]
  decide +kernel
set_option maxRecDepth 100000 in
set_option maxHeartbeats 8000000 in
theorem alive_any (w : World) : Calls Try.prog 4 #[] w fun e w' => e = .returned (.bool true) ∧ Below w.heap.size w w' := by
  have K1 := Lib.hid (fun W => (show Calls Try.prog 6 #[.agg #[.int .u64 3855, .int .u64 1048575], .agg #[.int .u64 3855, .int .u64 1048575], .int .i64 0] W fun e w' => e = .returned (.tuple #[.int .i64 0, .bool true]) ∧ Below W.heap.size W w' by
    have := scored_any 3855 1048575 3855 1048575 (by decide) (by decide) (by decide) (by decide) 0 W; rw [x_one] at this; exact this))
  have K2 := Lib.hid (fun W => (show Calls Try.prog 6 #[.agg #[.int .u64 3855, .int .u64 1048575], .agg #[.int .u64 3840, .int .u64 1048575], .int .i64 0] W fun e w' => e = .returned (.tuple #[.int .i64 200, .bool true]) ∧ Below W.heap.size W w' by
    have := scored_any 3855 1048575 3840 1048575 (by decide) (by decide) (by decide) (by decide) 0 W; rw [x_two] at this; exact this))
  have K3 := Lib.hid (fun B (W : World) (hr : Rd W (some ⟨B, 0, none⟩) (ints [200, 300])) => (show Calls Try.prog 8 #[.slice (some ⟨B, 0, none⟩) 2 2, .agg #[.int .i64 1, .int .i64 2]] W fun e w' => e = .returned (.tuple #[.int .i64 199, .int .i64 0]) ∧ Below W.heap.size W w' by
    have := threshold_any (some ⟨B, 0, none⟩) [200, 300] 2 2 1 2 W hr rfl (by decide); rw [x_thr] at this; exact this))
  obtain ⟨B, hB⟩ : ∃ B, B = w.heap.size := ⟨_, rfl⟩
  have S1 := Lib.hid ((Own.start w).new' 24 #[.int .u64 3855, .int .u64 1048575] (B := B) hB)
  go_enter Try.func4, Try.ntmps4
  go_upto_region 2 with (fail)
  rw [← hB]
  clear hB
  generalize World.alloc _ _ = w2 at *
  obtain ⟨s0, s1, _⟩ := (S1.out.bx 0 rfl).c2
  have sl := (S1.out.bx 0 rfl).2.2
  go_wp2_with fail
  refine (K1.out _).mono ?_
  rintro e w3 ⟨rfl, hb3⟩
  have S3 := Lib.hid (S1.out.ext hb3)
  clear hb3 s0 s1 sl S1
  obtain ⟨s0, s1, _⟩ := (S3.out.bx 0 rfl).c2
  have sl := (S3.out.bx 0 rfl).2.2
  go_wp2_with fail
  refine (K2.out _).mono ?_
  rintro e w4 ⟨rfl, hb4⟩
  have S4 := Lib.hid (S3.out.ext hb4)
  clear hb4 s0 s1 sl S3
  go_wp2_with fail
  refine (K3.out _ _ (Rd.new w4 #[.int .i64 200, .int .i64 300] 3)).mono ?_
  rintro e w5 ⟨rfl, hb5⟩
  have S5 := Lib.hid ((S4.out.ext (below_alloc w4 (.cells #[.int .i64 200, .int .i64 300] 3))).ext hb5)
  clear hb5
  go_wp2_with fail
  go_ret
  exact ⟨rfl, S5.out.bel⟩
end Go.Proofs.Ytmjbbihbcbhaoaa
