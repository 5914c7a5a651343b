/- Iris: a code turned, two codes compared, parts. No condition. -/
import Derived.Test.YtmjbbihbcbhaoaaIa
namespace Go.Proofs.Ytmjbbihbcbhaoaa
open Go.RowKit Go.Shelf
attribute [local go_sem] Oper.semAt_some

/-- A code: its bits, and which are known. -/
def irV (c m : Nat) : Value := .agg #[.int .u64 (c : Nat), .int .u64 (m : Nat)]
def irC (c m : Nat) : List Value := [.int .u64 (c : Nat), .int .u64 (m : Nat)]
set_option maxRecDepth 100000 in
set_option maxHeartbeats 8000000 in
theorem turn_any (c m : Nat) (t : Int) (ht : -7 ≤ t ∧ t ≤ 7) (w : World) :
    Calls Try.prog 22 #[irV c m, .int .i64 t] w fun e w' => e = .returned (irV (turnW c t) (turnW m t)) ∧ Below w.heap.size w w' := by
  have K1 := Lib.hid (fun W => word_any c t ht W)
  have K2 := Lib.hid (fun W => word_any m t ht W)
  obtain ⟨B, hB⟩ : ∃ B, B = w.heap.size := ⟨_, rfl⟩
  have S1 := Lib.hid (((Own.start w).new' 24 #[.int .u64 (c : Nat), .int .u64 (m : Nat)] (B := B) hB).new' 24 #[.int .u64 0, .int .u64 0] (B := B + 1) (by simp [hB]))
  have HB := Lib.hid hB
  unfold irV
  generalize turnW c t = c' at *
  generalize turnW m t = m' at *
  go_enter Try.func22, Try.ntmps22
  go_upto_region 1 with (fail)
  rw [← hB]
  clear hB
  generalize World.alloc _ _ = w2 at *
  have fx0 := fun x : OwnOf w [box (B + 1) 24 [.int .u64 0, .int .u64 0], box B 24 [.int .u64 (c : Nat), .int .u64 (m : Nat)]] => (x.bx 1 rfl).1 0 _ rfl
  have fx1 := fun x : OwnOf w [box (B + 1) 24 [.int .u64 0, .int .u64 0], box B 24 [.int .u64 (c : Nat), .int .u64 (m : Nat)]] => (x.bx 1 rfl).1 1 _ rfl
  have hne : Nonempty (OwnOf w [box (B + 1) 24 [.int .u64 0, .int .u64 0], box B 24 [.int .u64 (c : Nat), .int .u64 (m : Nat)]]) := ⟨⟨_, S1.out⟩⟩
  refine wp_region_own S1.out (by kernel_rfl) (by kernel_rfl) ?_
  iterate 8 (go_big_quiet_step (fail))
  refine wpQuiet_nil ?_
  rintro w3 ⟨z, hz⟩
  have S3 := Lib.hid (show Own w w3 [box (B + 1) 24 [.int .u64 0, .int .u64 0], box B 24 [.int .u64 (c : Nat), .int .u64 (m : Nat)]] by rw [hz]; exact z.own)
  clear hz z hne fx0 fx1 S1
  obtain ⟨t0, t1, _⟩ := (S3.out.bx 0 rfl).c2
  have tl := (S3.out.bx 0 rfl).2.2
  have tf := (S3.out.bx 0 rfl).2.1
  go_wp2_with fail
  refine (K1.out _).mono ?_
  rintro e w4 ⟨rfl, rfl⟩
  go_wp2_with fail
  refine (K2.out _).mono ?_
  rintro e w4 ⟨rfl, rfl⟩
  go_wp2_with fail
  have S9 := Lib.hid ((S3.out.set 0 rfl 0 (.int .u64 (c' : Nat))).set 0 rfl 1 (.int .u64 (m' : Nat)))
  obtain ⟨q0, q1, _⟩ := (S9.out.bx 0 rfl).c2
  refine bodyPost_ret (v := .agg #[.int .u64 (c' : Nat), .int .u64 (m' : Nat)]) (by simp [results, Try.results22, go_sem, q0, q1]) rfl ⟨rfl, S9.out.bel⟩
/-- How many bits that both know differ, and how many there are. -/
def cmpN (c m c' m' : Nat) : Nat := ones ((c ^^^ c') &&& (m &&& m'))
def cmpD (m m' : Nat) : Nat := ones (m &&& m')
theorem cmp_le (c m c' m' : Nat) : cmpN c m c' m' ≤ cmpD m m' ∧ cmpD m m' ≤ 64 := ⟨ones_mono _ _, ones_le _⟩
set_option maxRecDepth 100000 in
set_option maxHeartbeats 8000000 in
theorem compare_any (c m c' m' : Nat) (hc : c < 18446744073709551616) (hm : m < 18446744073709551616) (hc' : c' < 18446744073709551616) (hm' : m' < 18446744073709551616) (w : World) :
    Calls Try.prog 21 #[irV c m, irV c' m'] w fun e w' => e = .returned (.tuple #[.int .i64 (cmpN c m c' m' : Nat), .int .i64 (cmpD m m' : Nat)]) ∧ Below w.heap.size w w' := by
  obtain ⟨x, hx⟩ : ∃ x, x = c ^^^ c' := ⟨_, rfl⟩
  obtain ⟨k, hk⟩ : ∃ k, k = m &&& m' := ⟨_, rfl⟩
  obtain ⟨y, hy⟩ : ∃ y, y = x &&& k := ⟨_, rfl⟩
  have lx : x < 18446744073709551616 := by rw [hx]; exact Nat.xor_lt_two_pow (n := 64) hc hc'
  have lk : k < 18446744073709551616 := by rw [hk]; exact Nat.lt_of_le_of_lt Nat.and_le_left hm
  have ly : y < 18446744073709551616 := by rw [hy]; exact Nat.lt_of_le_of_lt Nat.and_le_left lx
  have e1 : bits .and .u64 (m : Int) (m' : Int) = (k : Int) := by rw [u64_and_nat _ _ hm hm', hk]
  have e2 : bits .xor .u64 (c : Int) (c' : Int) = (x : Int) := by rw [u64_xor_nat _ _ hc hc', hx]
  have e3 : bits .and .u64 (x : Int) (k : Int) = (y : Int) := by rw [u64_and_nat _ _ lx lk, hy]
  have KY := Lib.hid (fun W => ones64_any y ly W)
  have KK := Lib.hid (fun W => ones64_any k lk W)
  have HE := Lib.hid (show ones y = cmpN c m c' m' ∧ ones k = cmpD m m' by rw [hy, hx, hk]; exact ⟨rfl, rfl⟩)
  rw [← HE.out.1, ← HE.out.2]
  clear hx hk hy lx lk ly hc hm hc' hm' HE
  obtain ⟨B, hB⟩ : ∃ B, B = w.heap.size := ⟨_, rfl⟩
  have S1 := Lib.hid (((Own.start w).new' 24 #[.int .u64 (c : Nat), .int .u64 (m : Nat)] (B := B) hB).new' 24 #[.int .u64 (c' : Nat), .int .u64 (m' : Nat)] (B := B + 1) (by simp [hB]))
  unfold irV
  generalize ones y = ny at *
  generalize ones k = nk at *
  go_enter Try.func21, Try.ntmps21
  go_upto_region 1 with (fail)
  rw [← hB]
  clear hB
  generalize World.alloc _ _ = w2 at *
  obtain ⟨t0, t1, _⟩ := (S1.out.bx 0 rfl).c2
  have tl := (S1.out.bx 0 rfl).2.2
  obtain ⟨s0, s1, _⟩ := (S1.out.bx 1 rfl).c2
  have sl := (S1.out.bx 1 rfl).2.2
  go_wp2_with fail
  refine (KY.out _).mono ?_
  rintro e w4 ⟨rfl, rfl⟩
  go_wp2_with fail
  refine (KK.out _).mono ?_
  rintro e w4 ⟨rfl, rfl⟩
  go_wp2_with fail
  go_ret2
  exact ⟨rfl, S1.out.bel⟩
/-- A part: its cells. -/
def paV (n d : Nat) (t : Int) : Value := .agg #[.int .i64 (n : Nat), .int .i64 (d : Nat), .int .i64 t]
def lesB (n d n' d' : Nat) : Bool := decide (0 < d) && (decide (d' = 0) || decide (n * d' < n' * d))
set_option maxRecDepth 100000 in
set_option maxHeartbeats 8000000 in
theorem less_any (n d n' d' : Nat) (t t' : Int) (hn : n ≤ 64) (hd : d ≤ 64) (hn' : n' ≤ 64) (hd' : d' ≤ 64) (w : World) :
    Calls Try.prog 23 #[paV n d t, paV n' d' t'] w fun e w' => e = .returned (.bool (lesB n d n' d')) ∧ Below w.heap.size w w' := by
  obtain ⟨r, hr⟩ : ∃ r, r = lesB n d n' d' := ⟨_, rfl⟩
  rw [← hr]
  obtain ⟨p1, hp1⟩ : ∃ p, p = n * d' := ⟨_, rfl⟩
  obtain ⟨p2, hp2⟩ : ∃ p, p = n' * d := ⟨_, rfl⟩
  have l1 : p1 ≤ 64 * 64 := by rw [hp1]; exact Nat.mul_le_mul hn hd'
  have l2 : p2 ≤ 64 * 64 := by rw [hp2]; exact Nat.mul_le_mul hn' hd
  have e1 : (n : Int) * (d' : Int) = (p1 : Int) := by rw [hp1]; push_cast; rfl
  have e2 : (n' : Int) * (d : Int) = (p2 : Int) := by rw [hp2]; push_cast; rfl
  have e1w : IntKind.i64.wrap (p1 : Int) = (p1 : Int) := IntWalk.i64_in _ (by omega)
  have e2w : IntKind.i64.wrap (p2 : Int) = (p2 : Int) := IntWalk.i64_in _ (by omega)
  have HR := Lib.hid (show r = (decide (0 < d) && (decide (d' = 0) || decide (p1 < p2))) by rw [hr, hp1, hp2]; rfl)
  clear hr hp1 hp2 l1 l2
  obtain ⟨B, hB⟩ : ∃ B, B = w.heap.size := ⟨_, rfl⟩
  have S1 := Lib.hid (((Own.start w).new' 46 #[.int .i64 (n : Nat), .int .i64 (d : Nat), .int .i64 t] (B := B) hB).new' 46 #[.int .i64 (n' : Nat), .int .i64 (d' : Nat), .int .i64 t'] (B := B + 1) (by simp [hB]))
  unfold paV
  by_cases h1 : 0 < d
  case neg => as_aux_lemma =>
    have h1z : ¬ (0 : Int) < (d : Int) := by omega
    have HE := Lib.hid (show r = false by rw [HR.out, decide_eq_false h1]; rfl)
    clear h1
    go_enter Try.func23, Try.ntmps23
    go_upto_region 1 with (fail)
    rw [← hB]
    clear hB
    generalize World.alloc _ _ = w2 at *
    obtain ⟨s0, s1, s2, _⟩ := (S1.out.bx 1 rfl).c3
    have sl := (S1.out.bx 1 rfl).2.2
    go_wp2_with fail
    go_ret
    exact ⟨by rw [HE.out]; rfl, S1.out.bel⟩
  have h1z : (0 : Int) < (d : Int) := by omega
  have HR2 := Lib.hid (show r = (decide (d' = 0) || decide (p1 < p2)) by rw [HR.out, decide_eq_true h1, Bool.true_and])
  clear HR h1
  by_cases h2 : d' = 0
  · as_aux_lemma =>
    have HE := Lib.hid (show r = true by rw [HR2.out, decide_eq_true h2, Bool.true_or])
    subst h2
    go_enter Try.func23, Try.ntmps23
    go_upto_region 1 with (fail)
    rw [← hB]
    clear hB
    generalize World.alloc _ _ = w2 at *
    obtain ⟨s0, s1, s2, _⟩ := (S1.out.bx 1 rfl).c3
    have sl := (S1.out.bx 1 rfl).2.2
    obtain ⟨t0, t1, t2, _⟩ := (S1.out.bx 0 rfl).c3
    have tl := (S1.out.bx 0 rfl).2.2
    go_wp2_with fail
    go_ret
    exact ⟨by rw [HE.out]; rfl, S1.out.bel⟩
  as_aux_lemma =>
  have HE := Lib.hid (show r = decide (p1 < p2) by rw [HR2.out, decide_eq_false h2, Bool.false_or])
  have h2z : ((d' : Int) == 0) = false := by simp [h2]
  have h2y : ¬ (d' : Int) = 0 := by omega
  go_enter Try.func23, Try.ntmps23
  go_upto_region 1 with (fail)
  rw [← hB]
  clear hB
  generalize World.alloc _ _ = w2 at *
  obtain ⟨s0, s1, s2, _⟩ := (S1.out.bx 1 rfl).c3
  have sl := (S1.out.bx 1 rfl).2.2
  obtain ⟨t0, t1, t2, _⟩ := (S1.out.bx 0 rfl).c3
  have tl := (S1.out.bx 0 rfl).2.2
  go_wp2_with fail
  go_ret
  exact ⟨by rw [HE.out]; simp, S1.out.bel⟩
end Go.Proofs.Ytmjbbihbcbhaoaa
