/- Iris: the distance of two codes. No condition. -/
import Derived.Test.YtmjbbihbcbhaoaaIc
namespace Go.Proofs.Ytmjbbihbcbhaoaa
open Go.RowKit Go.Shelf
attribute [local go_sem] Oper.semAt_some

/-- The best part so far. -/
def stepB (c m c' m' : Nat) (s : Nat × Nat × Int) (t : Int) : Nat × Nat × Int :=
  if (decide (16 ≤ cmpD (turnW m t) m') && lesB (cmpN (turnW c t) (turnW m t) c' m') (cmpD (turnW m t) m') s.1 s.2.1) = true then (cmpN (turnW c t) (turnW m t) c' m', cmpD (turnW m t) m', t) else s
def bestF (c m c' m' : Nat) (l : List Int) : Nat × Nat × Int := l.foldl (stepB c m c' m') (0, 0, 0)
def goodP (s : Nat × Nat × Int) : Prop := s.1 ≤ s.2.1 ∧ s.2.1 ≤ 64
theorem step_good {c m c' m' : Nat} {s : Nat × Nat × Int} {t : Int} (h : goodP s) : goodP (stepB c m c' m' s t) := by
  unfold stepB
  split
  · exact cmp_le _ _ _ _
  · exact h
theorem best_good (c m c' m' : Nat) : ∀ (l : List Int) (s : Nat × Nat × Int), goodP s → goodP (l.foldl (stepB c m c' m') s)
  | [], _, h => h
  | t :: l, s, h => best_good c m c' m' l _ (step_good h)
set_option maxRecDepth 100000 in
set_option maxHeartbeats 8000000 in
theorem distance_any (c m c' m' : Nat) (hc' : c' < 18446744073709551616) (hm' : m' < 18446744073709551616) (tn : Nat) (ht : tn ≤ 7) (w : World) :
    Calls Try.prog 16 #[irV c m, irV c' m', .int .i64 (tn : Nat)] w fun e w' => e = .returned (paV (bestF c m c' m' (ordL (tn + 1))).1 (bestF c m c' m' (ordL (tn + 1))).2.1 (bestF c m c' m' (ordL (tn + 1))).2.2) ∧ Below w.heap.size w w' := by
  have HT := Lib.hid (fun (t : Int) (ht : -7 ≤ t ∧ t ≤ 7) W => turn_any c m t ht W)
  have HC := Lib.hid (fun (t : Int) W => compare_any (turnW c t) (turnW m t) c' m' (turnW_lt _ _) (turnW_lt _ _) hc' hm' W)
  have HLE := Lib.hid (fun n d n' d' (t t' : Int) h1 h2 h3 h4 W => less_any n d n' d' t t' h1 h2 h3 h4 W)
  unfold irV at HT HC
  unfold paV at HLE
  unfold irV paV
  obtain ⟨B, hB⟩ : ∃ B, B = w.heap.size := ⟨_, rfl⟩
  have S0 := Lib.hid (((((Own.start w).new' 24 #[.int .u64 (c : Nat), .int .u64 (m : Nat)] (B := B) hB).new' 24 #[.int .u64 (c' : Nat), .int .u64 (m' : Nat)] (B := B + 1) (by simp [hB])).new' 46 #[.int .i64 0, .int .i64 0, .int .i64 0] (B := B + 2) (by simp [hB])).new' 46 #[.int .i64 0, .int .i64 0, .int .i64 0] (B := B + 3) (by simp [hB]))
  have HB := Lib.hid hB
  refine calls_of_wp_marks Try.func16 rfl ?_
  simp only [Try.ntmps16, List.size_toArray, List.length_cons, List.length_nil, Nat.reduceAdd, Nat.reduceSub, Array.replicate_succ, Array.replicate_zero, List.push_toArray, List.append_toArray, List.nil_append, List.cons_append]
  go_upto_region 2 with (fail)
  rw [← hB]
  clear hB
  generalize World.alloc _ _ = w3 at *
  go_wp2_with fail
  refine (orders_any _ _).mono ?_
  rintro e w4 ⟨rfl, hw4⟩
  have S4 := Lib.hid (S0.out.new' 3 #[.int .i64 (tn : Nat)] (B := w3.heap.size) rfl)
  rw [hw4] at S4
  obtain ⟨X, hX⟩ : ∃ X, X = w3.heap.size := ⟨_, rfl⟩
  rw [← hX] at S4 ⊢
  clear hw4 S0 hX
  go_wp2_with fail
  have lb := (S4.out.bx 0 rfl).2.2
  have b1 := (S4.out.bx 0 rfl).1 0 _ rfl
  refine wp_range_own (w0 := w) (gf := 29) (lb := #[.pointer (some ⟨X, 0, none⟩)]) rfl (enters_of Try.func29 (by kernel_rfl) rfl)
    (order_stops 9 (by omega) X tn w4 ht lb b1) (fun _ _ => trivial) (fun _ _ _ _ _ _ _ _ => trivial) (fun _ => trivial) (fun _ => rfl)
    (fun pre s => s = bestF c m c' m' (pre.map (·.1)) ∧ goodP s)
    (fun s : Nat × Nat × Int => [box (B + 3) 46 [.int .i64 (s.1 : Nat), .int .i64 (s.2.1 : Nat), .int .i64 s.2.2], box (B + 2) 46 [.int .i64 0, .int .i64 0, .int .i64 0], box (B + 1) 24 [.int .u64 (c' : Nat), .int .u64 (m' : Nat)], box B 24 [.int .u64 (c : Nat), .int .u64 (m : Nat)]])
    ?hcel (0, 0, 0) ⟨rfl, by unfold goodP; decide⟩ (S4.out.sub [1, 2, 3, 4] (by decide) rfl)
    (fun y => { tmps := #[.agg #[.int .u64 (c : Nat), .int .u64 (m : Nat)], .agg #[.int .u64 (c' : Nat), .int .u64 (m' : Nat)], .int .i64 (tn : Nat), .pointer (some ⟨B, 0, none⟩), .pointer (some ⟨B + 1, 0, none⟩), undef, .pointer (some ⟨B + 2, 0, none⟩), .pointer (some ⟨B + 3, 0, none⟩), .int .i64 y.1, undef, undef, undef, .int .i64 (tn : Nat), .func (.func 29) #[] #[.pointer (some ⟨X, 0, none⟩)], .int .i64 y.1, undef, undef, undef, undef, undef, undef, undef, undef, undef, undef, undef, undef, undef, undef, undef, undef, undef, undef, undef, undef, undef], defers := [] }) ?hassign ?hbody ?hdone
  case hcel =>
    intro s p hp
    simp only [List.mem_cons, List.not_mem_nil, or_false] at hp
    rcases hp with rfl | rfl | rfl | rfl
    all_goals exact .inl (box_cel _ _ _)
  case hassign =>
    intro y lq K W1 hK
    simp only [encT]
    gi_wp2
    exact hK
  case hdone =>
    rintro Dn xs s W5 hS hR hO
    have HM2 := Lib.hid (show s = bestF c m c' m' (ordL (tn + 1)) by rw [hR.1, hS])
    obtain ⟨s1, s2, s3⟩ := s
    dsimp only at hO
    have HO := Lib.hid (hO.perm (List.Perm.trans (List.Perm.refl _) (List.perm_middle (l₁ := [box (B + 3) 46 [.int .i64 (s1 : Nat), .int .i64 (s2 : Nat), .int .i64 s3], box (B + 2) 46 [.int .i64 0, .int .i64 0, .int .i64 0], box (B + 1) 24 [.int .u64 (c' : Nat), .int .u64 (m' : Nat)], box B 24 [.int .u64 (c : Nat), .int .u64 (m : Nat)]]) (l₂ := []) (a := mk Dn)).symm))
    clear hO hS hR
    obtain ⟨k0, k1, k2, _⟩ := (HO.out.bx 0 rfl).c3
    have kl := (HO.out.bx 0 rfl).2.2
    obtain ⟨j0, j1, j2, _⟩ := (HO.out.bx 1 rfl).c3
    have jl := (HO.out.bx 1 rfl).2.2
    have jf := (HO.out.bx 1 rfl).2.1
    go_wp2_with fail
    have HO9 := Lib.hid (((HO.out.set 1 rfl 0 (.int .i64 (s1 : Nat))).set 1 rfl 1 (.int .i64 (s2 : Nat))).set 1 rfl 2 (.int .i64 s3))
    refine leaves_marks (ps := [box (B + 3) 46 [.int .i64 (s1 : Nat), .int .i64 (s2 : Nat), .int .i64 s3], box (B + 2) 46 [.int .i64 (s1 : Nat), .int .i64 (s2 : Nat), .int .i64 s3], box (B + 1) 24 [.int .u64 (c' : Nat), .int .u64 (m' : Nat)], box B 24 [.int .u64 (c : Nat), .int .u64 (m : Nat)]]) (fun w' h => ?_) [Dn] _ HO9.out
    obtain ⟨q0, q1, q2, _⟩ := (h.bx 1 rfl).c3
    exact ⟨.agg #[.int .i64 (s1 : Nat), .int .i64 (s2 : Nat), .int .i64 s3], by simp [results, Try.results16, go_sem, q0, q1, q2], by rw [← HM2.out], h.bel⟩
  case hbody =>
    intro lq pre y s W1 hpl hR hO
    obtain ⟨t, ht7⟩ := y
    obtain ⟨s1, s2, s3⟩ := s
    obtain ⟨hR1, hR2⟩ := hR
    have HO := Lib.hid (hO.cast (qs := [box (B + 3) 46 [.int .i64 (s1 : Nat), .int .i64 (s2 : Nat), .int .i64 s3], box (B + 2) 46 [.int .i64 0, .int .i64 0, .int .i64 0], box (B + 1) 24 [.int .u64 (c' : Nat), .int .u64 (m' : Nat)], box B 24 [.int .u64 (c : Nat), .int .u64 (m : Nat)]]) rfl)
    have HST := Lib.hid (show bestF c m c' m' ((pre ++ [(⟨t, ht7⟩ : TT)]).map (·.1)) = stepB c m c' m' (s1, s2, s3) t ∧ goodP (stepB c m c' m' (s1, s2, s3) t) by
      refine ⟨?_, step_good hR2⟩
      rw [hR1, bestF, bestF, List.map_append, List.foldl_append]
      rfl)
    have hg := hR2
    unfold goodP at hg
    dsimp only at hg
    have hcl := cmp_le (turnW c t) (turnW m t) c' m'
    have K1 := Lib.hid (fun W => HT.out t ht7 W)
    have K2 := Lib.hid (fun W => HC.out t W)
    have HSB := Lib.hid (show stepB c m c' m' (s1, s2, s3) t = if (decide (16 ≤ cmpD (turnW m t) m') && lesB (cmpN (turnW c t) (turnW m t) c' m') (cmpD (turnW m t) m') s1 s2) = true then (cmpN (turnW c t) (turnW m t) c' m', cmpD (turnW m t) m', t) else (s1, s2, s3) from rfl)
    generalize cmpN (turnW c t) (turnW m t) c' m' = n2 at *
    generalize cmpD (turnW m t) m' = d2 at *
    generalize turnW c t = tc at *
    generalize turnW m t = tm at *
    have KL := Lib.hid (fun W => HLE.out n2 d2 s1 s2 t s3 (by omega) (by omega) (by omega) (by omega) W)
    clear hR1 hR2 hO hpl
    obtain ⟨t0, t1, _⟩ := (HO.out.bx 3 rfl).c2
    have tl := (HO.out.bx 3 rfl).2.2
    obtain ⟨u0, u1, _⟩ := (HO.out.bx 2 rfl).c2
    have ul := (HO.out.bx 2 rfl).2.2
    have hne : Nonempty (ExtOf W1) := ⟨⟨W1, Below.refl _ _⟩⟩
    dsimp only
    gi_wp2
    refine wpIn_region_ext (by kernel_rfl) (by kernel_rfl) (by kernel_rfl) ?_
    iterate 2 (go_big_quiet_step (fail))
    go_big_quiet_step ((go_at_call 22; exact ext_of (K1.out _)))
    iterate 1 (go_big_quiet_step (fail))
    go_big_quiet_step ((go_at_call 21; exact ext_of (K2.out _)))
    iterate 5 (go_big_quiet_step (fail))
    refine wpQuiet_nil ?_
    rintro W2 ⟨z, hz⟩
    have HB2 := Lib.hid (show Below W1.heap.size W1 W2 by rw [hz]; exact z.ext)
    clear hz z hne K1 K2 t0 t1 u0 u1 tl ul
    have HO2 := Lib.hid (HO.out.ext HB2.out)
    have HO3 := Lib.hid (HO2.out.new 46 #[.int .i64 (n2 : Nat), .int .i64 (d2 : Nat), .int .i64 t])
    obtain ⟨k0, k1, k2, _⟩ := (HO2.out.bx 0 rfl).c3
    have kl := (HO2.out.bx 0 rfl).2.2
    have HKO := Lib.hid ((keeps_below HB2.out).trans (KeepsOthers.alloc W2 (.cells #[.int .i64 (n2 : Nat), .int .i64 (d2 : Nat), .int .i64 t] 46)))
    by_cases h16 : 16 ≤ d2
    case neg =>
      have h16z : ¬ (16 : Int) ≤ (d2 : Int) := by omega
      have HE := Lib.hid (show stepB c m c' m' (s1, s2, s3) t = (s1, s2, s3) by rw [HSB.out, decide_eq_false h16]; rfl)
      clear h16 hcl hg
      rw [HE.out] at HST
      gi_wp2
      all_goals first
        | exact absurd (by assumption : some undef = some (Value.bool _)) (by simp [undef])
        | exact ⟨HKO.out, trivial, (s1, s2, s3), ⟨HST.out.1.symm, HST.out.2⟩, HO3.out.tail⟩
        | (refine ⟨trivial, ?_⟩
           gi_wp2
           exact ⟨HKO.out, trivial, (s1, s2, s3), ⟨HST.out.1.symm, HST.out.2⟩, HO3.out.tail⟩)
    have h16z : (16 : Int) ≤ (d2 : Int) := by omega
    have HE := Lib.hid (show stepB c m c' m' (s1, s2, s3) t = if lesB n2 d2 s1 s2 = true then (n2, d2, t) else (s1, s2, s3) by rw [HSB.out, decide_eq_true h16, Bool.true_and])
    clear h16 hcl hg HSB
    generalize lesB n2 d2 s1 s2 = lb at *
    gi_wp2
    refine ⟨trivial, ?_⟩
    refine (CallsIn.inRound lq (callsIn_wide.2 (KL.out _))).mono ?_
    rintro e W4 ⟨rfl, hb4⟩
    have HO4 := Lib.hid (HO3.out.ext hb4)
    have HKO4 := Lib.hid (HKO.out.trans (keeps_below hb4))
    clear k0 k1 k2 kl hb4 KL
    obtain ⟨p0, p1, p2, _⟩ := (HO4.out.bx 0 rfl).c3
    have pl := (HO4.out.bx 0 rfl).2.2
    obtain ⟨k0, k1, k2, _⟩ := (HO4.out.bx 1 rfl).c3
    have kl := (HO4.out.bx 1 rfl).2.2
    have kf := (HO4.out.bx 1 rfl).2.1
    cases lb
    · have HE2 := Lib.hid (show stepB c m c' m' (s1, s2, s3) t = (s1, s2, s3) by rw [HE.out]; rfl)
      rw [HE2.out] at HST
      gi_wp2
      exact ⟨HKO4.out, trivial, (s1, s2, s3), ⟨HST.out.1.symm, HST.out.2⟩, HO4.out.tail⟩
    · have HE2 := Lib.hid (show stepB c m c' m' (s1, s2, s3) t = (n2, d2, t) by rw [HE.out]; rfl)
      rw [HE2.out] at HST
      gi_wp2
      exact ⟨((HKO4.out.trans (KeepsOthers.setCell _ _ _)).trans (KeepsOthers.setCell _ _ _)).trans (KeepsOthers.setCell _ _ _), trivial, (n2, d2, t), ⟨HST.out.1.symm, HST.out.2⟩, ((HO4.out.tail.set 0 rfl 0 (.int .i64 (n2 : Nat))).set 0 rfl 1 (.int .i64 (d2 : Nat))).set 0 rfl 2 (.int .i64 t)⟩
end Go.Proofs.Ytmjbbihbcbhaoaa
