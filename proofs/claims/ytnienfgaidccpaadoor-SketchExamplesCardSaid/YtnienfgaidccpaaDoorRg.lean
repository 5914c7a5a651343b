/- Words: the choice of a pivot. No condition. -/
import Derived.Test.YtnienfgaidccpaaDoorRf
namespace Go.Proofs.YtnienfgaidccpaaDoor
open Go.RowKit Go.Shelf
attribute [local go_sem] Oper.semAt_some

theorem o2_bnd {d : Array Nat} {a b s x y z m : Nat} (h : Sort.order2 ltN d a b s = (x, y, z)) (ha : a < m) (hb : b < m) : x < m ∧ y < m ∧ z ≤ s + 1 := by
  unfold Sort.order2 at h
  split at h <;> (cases h; exact ⟨by assumption, by assumption, by omega⟩)
set_option maxRecDepth 100000 in
set_option maxHeartbeats 8000000 in
theorem order2_any (w0 : World) (ps : List Piece) (g n c : Nat) (d : Array Nat) (W : World) (B s : Nat) (hO : Own w0 W (box B 3 [.int .i64 ((s : Nat) : Int)] :: dat g n c d :: ps)) (a b x y z : Nat) (hd : d.size = n) (ha : a < n) (hb : b < n) (hs : s ≤ 1000) (hr : Sort.order2 ltN d a b s = (x, y, z)) :
    Calls Tryd.prog 123 #[.slice (some ⟨g, 0, none⟩) n c, .int .i64 (a : Nat), .int .i64 (b : Nat), .pointer (some ⟨B, 0, none⟩)] W fun e w' => e = .returned (.tuple #[.int .i64 (x : Nat), .int .i64 (y : Nat)]) ∧ Own w0 w' (box B 3 [.int .i64 ((z : Nat) : Int)] :: dat g n c d :: ps) := by
  have S0 := Lib.hid hO
  have hai : (a : Int) < (n : Int) := by omega
  have hbi : (b : Int) < (n : Int) := by omega
  have HR := Lib.hid (show (if ltN d[b]! d[a]! = true then (b, a, s + 1) else (a, b, s)) = (x, y, z) from hr)
  have FA := Lib.hid (fun z : OwnOf w0 (box B 3 [.int .i64 ((s : Nat) : Int)] :: dat g n c d :: ps) => z.own.rowAt (g := g) 1 rfl (at_arr (d := d) (i := b) (by omega) rfl))
  have FB := Lib.hid (fun z : OwnOf w0 (box B 3 [.int .i64 ((s : Nat) : Int)] :: dat g n c d :: ps) => z.own.rowAt (g := g) 1 rfl (at_arr (d := d) (i := a) (by omega) rfl))
  have hne : Nonempty (OwnOf w0 (box B 3 [.int .i64 ((s : Nat) : Int)] :: dat g n c d :: ps)) := ⟨⟨_, hO⟩⟩
  have zs : IntKind.i64.wrap ((s : Int) + 1) = ((s + 1 : Nat) : Int) := by rw [show (s : Int) + 1 = ((s + 1 : Nat) : Int) by omega]; exact IntWalk.i64_in _ (by omega)
  clear hO hd hr ha hb
  generalize d[b]! = x1 at *
  generalize d[a]! = x2 at *
  have fa := FA.out
  have fb := FB.out
  have KL := Lib.hid (fun W1 => less_any x1 x2 W1)
  clear FA FB
  cases hl : ltN x1 x2
  all_goals
    rw [hl] at KL HR
    clear hl
    obtain ⟨e1, e2, e3⟩ : _ ∧ _ ∧ _ := by
      have h := HR.out
      simp only [Bool.false_eq_true, if_false, if_true, Prod.mk.injEq] at h
      exact h
    subst e1 e2 e3
    clear HR
    go_enter Tryd.func123, Tryd.ntmps123
    go_upto_region 1 with (fail)
    refine wp_region_own S0.out (by kernel_rfl) (by kernel_rfl) ?_
    iterate 8 (go_big_quiet_step (fail))
    go_big_quiet_step ((go_at_call 111; exact own_same (KL.out _)))
    refine wpQuiet_nil ?_
    rintro w9 ⟨z, hz⟩
    have S9 := Lib.hid (show Own w0 w9 (box B 3 [.int .i64 ((s : Nat) : Int)] :: dat g n c d :: ps) by rw [hz]; exact z.own)
    clear hz z S0 fa fb hne KL
    have t0 := (S9.out.bx 0 rfl).1 0 _ rfl
    have tf := (S9.out.bx 0 rfl).2.1
    have tl := (S9.out.bx 0 rfl).2.2
    go_wp2_with fail
    go_ret2
    first
    | exact ⟨rfl, S9.out⟩
    | exact ⟨rfl, S9.out.set 0 rfl 0 _⟩
set_option maxRecDepth 100000 in
set_option maxHeartbeats 8000000 in
theorem median_any (w0 : World) (ps : List Piece) (g n c : Nat) (d : Array Nat) (W : World) (B s : Nat) (hO : Own w0 W (box B 3 [.int .i64 ((s : Nat) : Int)] :: dat g n c d :: ps)) (a b f m z : Nat) (hd : d.size = n) (ha : a < n) (hb : b < n) (hf : f < n) (hs : s ≤ 900) (hr : Sort.median ltN d a b f s = (m, z)) :
    Calls Tryd.prog 121 #[.slice (some ⟨g, 0, none⟩) n c, .int .i64 (a : Nat), .int .i64 (b : Nat), .int .i64 (f : Nat), .pointer (some ⟨B, 0, none⟩)] W fun e w' => e = .returned (.int .i64 (m : Nat)) ∧ Own w0 w' (box B 3 [.int .i64 ((z : Nat) : Int)] :: dat g n c d :: ps) ∧ m < n ∧ z ≤ s + 3 := by
  have S0 := Lib.hid hO
  obtain ⟨a1, b1, s1, h1⟩ : ∃ x y z, Sort.order2 ltN d a b s = (x, y, z) := ⟨_, _, _, rfl⟩
  obtain ⟨b2, f2, s2, h2⟩ : ∃ x y z, Sort.order2 ltN d b1 f s1 = (x, y, z) := ⟨_, _, _, rfl⟩
  obtain ⟨a3, b3, s3, h3⟩ : ∃ x y z, Sort.order2 ltN d a1 b2 s2 = (x, y, z) := ⟨_, _, _, rfl⟩
  obtain ⟨p1, p2, p3⟩ := o2_bnd h1 ha hb
  obtain ⟨p4, p5, p6⟩ := o2_bnd h2 p2 hf
  obtain ⟨p7, p8, p9⟩ := o2_bnd h3 p1 p4
  have hm : Sort.median ltN d a b f s = (b3, s3) := by simp only [Sort.median, h1, h2, h3]
  obtain ⟨e1, e2⟩ : b3 = m ∧ s3 = z := by rw [hm] at hr; simpa using hr
  subst e1 e2
  have K1 := Lib.hid (fun W hO => order2_any w0 ps g n c d W B s hO a b a1 b1 s1 hd ha hb (by omega) h1)
  have K2 := Lib.hid (fun W hO => order2_any w0 ps g n c d W B s1 hO b1 f b2 f2 s2 hd p2 hf (by omega) h2)
  have K3 := Lib.hid (fun W hO => order2_any w0 ps g n c d W B s2 hO a1 b2 a3 b3 s3 hd p1 p4 (by omega) h3)
  have HB := Lib.hid (show b3 < n ∧ s3 ≤ s + 3 by omega)
  clear hO hd hr h1 h2 h3 hm
  go_enter Tryd.func121, Tryd.ntmps121
  go_wp2_with (first | (go_at_call 123; with_reducible refine (K1.out _ S0.out).mono ?_; rintro e w1 ⟨rfl, q⟩; have S1 := Lib.hid q; clear q) | (go_at_call 123; with_reducible refine (K2.out _ S1.out).mono ?_; rintro e w2 ⟨rfl, q⟩; have S2 := Lib.hid q; clear q) | (go_at_call 123; with_reducible refine (K3.out _ S2.out).mono ?_; rintro e w3 ⟨rfl, q⟩; have S3 := Lib.hid q; clear q))
  go_ret
  exact ⟨rfl, S3.out, HB.out⟩
set_option maxRecDepth 100000 in
set_option maxHeartbeats 8000000 in
theorem medAdj_any (w0 : World) (ps : List Piece) (g n c : Nat) (d : Array Nat) (W : World) (B s : Nat) (hO : Own w0 W (box B 3 [.int .i64 ((s : Nat) : Int)] :: dat g n c d :: ps)) (a m z : Nat) (hd : d.size = n) (ha : 1 ≤ a) (ha2 : a + 1 < n) (hn : n ≤ 1000000) (hs : s ≤ 900) (hr : Sort.medianAdjacent ltN d a s = (m, z)) :
    Calls Tryd.prog 120 #[.slice (some ⟨g, 0, none⟩) n c, .int .i64 (a : Nat), .pointer (some ⟨B, 0, none⟩)] W fun e w' => e = .returned (.int .i64 (m : Nat)) ∧ Own w0 w' (box B 3 [.int .i64 ((z : Nat) : Int)] :: dat g n c d :: ps) ∧ m < n ∧ z ≤ s + 3 := by
  have S0 := Lib.hid hO
  obtain ⟨am, ham⟩ : ∃ am, am = a - 1 := ⟨_, rfl⟩
  obtain ⟨ap, hap⟩ : ∃ ap, ap = a + 1 := ⟨_, rfl⟩
  have z1 : (a : Int) - 1 = (am : Int) := by omega
  have z2 : (a : Int) + 1 = (ap : Int) := by omega
  have z1w : IntKind.i64.wrap (am : Int) = (am : Int) := IntWalk.i64_in _ (by omega)
  have z2w : IntKind.i64.wrap (ap : Int) = (ap : Int) := IntWalk.i64_in _ (by omega)
  have K1 := Lib.hid (fun W hO => median_any w0 ps g n c d W B s hO am a ap m z hd (by omega) (by omega) (by omega) hs (by rw [ham, hap]; exact hr))
  clear ham hap
  clear hO hd hr
  go_enter Tryd.func120, Tryd.ntmps120
  go_wp2_with (go_at_call 121; with_reducible refine (K1.out _ S0.out).mono ?_; rintro e w1 ⟨rfl, q, q2⟩; have HB := Lib.hid q2; clear q2; have S1 := Lib.hid q; clear q)
  go_ret
  exact ⟨rfl, S1.out, HB.out⟩
def hnt : Sort.Hint → Int
  | .unknown => 0
  | .increasing => 1
  | .decreasing => 2
theorem choose_big {d : Array Nat} {a b i j k i2 j2 k2 s1 s2 s3 m s : Nat} (hi : i = a + (b - a) / 4 * 1) (hj : j = a + (b - a) / 4 * 2) (hk : k = a + (b - a) / 4 * 3) (h : 50 ≤ b - a)
    (h1 : Sort.medianAdjacent ltN d i 0 = (i2, s1)) (h2 : Sort.medianAdjacent ltN d j s1 = (j2, s2)) (h3 : Sort.medianAdjacent ltN d k s2 = (k2, s3)) (h4 : Sort.median ltN d i2 j2 k2 s3 = (m, s)) :
    Sort.choosePivot ltN d a b = (m, if s = 0 then .increasing else if s = 12 then .decreasing else .unknown) := by
  simp only [Sort.choosePivot]
  rw [if_pos (show b - a ≥ 8 by omega), if_pos (show b - a ≥ 50 from h), ← hi, ← hj, ← hk]
  simp only [h1, h2, h3, h4]
theorem choose_mid {d : Array Nat} {a b i j k m s : Nat} (hi : i = a + (b - a) / 4 * 1) (hj : j = a + (b - a) / 4 * 2) (hk : k = a + (b - a) / 4 * 3) (h8 : 8 ≤ b - a) (h : ¬ 50 ≤ b - a)
    (h4 : Sort.median ltN d i j k 0 = (m, s)) :
    Sort.choosePivot ltN d a b = (m, if s = 0 then .increasing else if s = 12 then .decreasing else .unknown) := by
  simp only [Sort.choosePivot]
  rw [if_pos (show b - a ≥ 8 by omega), if_neg (show ¬ b - a ≥ 50 from h), ← hi, ← hj, ← hk]
  simp only [h4]
set_option maxRecDepth 100000 in
set_option maxHeartbeats 8000000 in
theorem choosePivot_any (w0 : World) (ps : List Piece) (g n c : Nat) (d : Array Nat) (W : World) (hO : Own w0 W (dat g n c d :: ps)) (a b : Nat) (hd : d.size = n) (hab : a + 13 ≤ b) (hbn : b ≤ n) (hn : n ≤ 1000000) :
    Calls Tryd.prog 108 #[.slice (some ⟨g, 0, none⟩) n c, .int .i64 (a : Nat), .int .i64 (b : Nat)] W fun e w' => e = .returned (.tuple #[.int .i64 ((Sort.choosePivot ltN d a b).1 : Nat), .int .i64 (hnt (Sort.choosePivot ltN d a b).2)]) ∧ Own w0 w' (dat g n c d :: ps) := by
  obtain ⟨L, hL⟩ : ∃ L, L = b - a := ⟨_, rfl⟩
  obtain ⟨Q, hQ⟩ : ∃ Q, Q = L / 4 := ⟨_, rfl⟩
  obtain ⟨i, hi⟩ : ∃ i, i = a + Q := ⟨_, rfl⟩
  obtain ⟨j, hj⟩ : ∃ j, j = a + Q * 2 := ⟨_, rfl⟩
  obtain ⟨k, hk⟩ : ∃ k, k = a + Q * 3 := ⟨_, rfl⟩
  have zL : (b : Int) - (a : Int) = (L : Int) := by omega
  have zLw : IntKind.i64.wrap (L : Int) = (L : Int) := IntWalk.i64_in _ (by omega)
  have zQ : (L : Int).tdiv 4 = (Q : Int) := by rw [Int.tdiv_eq_ediv_of_nonneg (by omega)]; omega
  have zQw : IntKind.i64.wrap (Q : Int) = (Q : Int) := IntWalk.i64_in _ (by omega)
  obtain ⟨Q2, hQ2⟩ : ∃ Q2, Q2 = Q * 2 := ⟨_, rfl⟩
  obtain ⟨Q3, hQ3⟩ : ∃ Q3, Q3 = Q * 3 := ⟨_, rfl⟩
  have z2 : (Q : Int) * 2 = (Q2 : Int) := by omega
  have z2w : IntKind.i64.wrap (Q2 : Int) = (Q2 : Int) := IntWalk.i64_in _ (by omega)
  have z3 : (Q : Int) * 3 = (Q3 : Int) := by omega
  have z3w : IntKind.i64.wrap (Q3 : Int) = (Q3 : Int) := IntWalk.i64_in _ (by omega)
  have zi : (a : Int) + (Q : Int) = (i : Int) := by omega
  have ziw : IntKind.i64.wrap (i : Int) = (i : Int) := IntWalk.i64_in _ (by omega)
  have zj : (a : Int) + (Q2 : Int) = (j : Int) := by omega
  have zjw : IntKind.i64.wrap (j : Int) = (j : Int) := IntWalk.i64_in _ (by omega)
  have zk : (a : Int) + (Q3 : Int) = (k : Int) := by omega
  have zkw : IntKind.i64.wrap (k : Int) = (k : Int) := IntWalk.i64_in _ (by omega)
  have hL8 : (8 : Int) ≤ (L : Int) := by omega
  have hi1 : i = a + (b - a) / 4 * 1 := by omega
  have hj1 : j = a + (b - a) / 4 * 2 := by omega
  have hk1 : k = a + (b - a) / 4 * 3 := by omega
  have S00 := Lib.hid (show Own w0 (W.alloc (.cells #[.int .i64 0] 3)) (box W.heap.size 3 [.int .i64 ((0 : Nat) : Int)] :: dat g n c d :: ps) from hO.new' 3 #[.int .i64 0] rfl)
  have hS0 := Lib.hid hO
  have hWs : W.heap.size < (W.alloc (.cells #[.int .i64 0] 3)).heap.size := by simp
  obtain ⟨P, hP⟩ : ∃ P, P = Sort.choosePivot ltN d a b := ⟨_, rfl⟩
  rw [← hP]
  by_cases h50 : 50 ≤ L
  · have h5 : (50 : Int) ≤ (L : Int) := by omega
    obtain ⟨i2, s1, h1⟩ : ∃ x y, Sort.medianAdjacent ltN d i 0 = (x, y) := ⟨_, _, rfl⟩
    obtain ⟨j2, s2, h2⟩ : ∃ x y, Sort.medianAdjacent ltN d j s1 = (x, y) := ⟨_, _, rfl⟩
    obtain ⟨k2, s3, h3⟩ : ∃ x y, Sort.medianAdjacent ltN d k s2 = (x, y) := ⟨_, _, rfl⟩
    obtain ⟨m, s, h4⟩ : ∃ x y, Sort.median ltN d i2 j2 k2 s3 = (x, y) := ⟨_, _, rfl⟩
    rw [choose_big hi1 hj1 hk1 (by omega) h1 h2 h3 h4] at hP
    have HP := Lib.hid hP
    have K1 := Lib.hid (fun W B hO => medAdj_any w0 ps g n c d W B 0 hO i i2 s1 hd (by omega) (by omega) hn (by omega) h1)
    have K2 := Lib.hid (fun (p : s1 ≤ 0 + 3) W B hO => medAdj_any w0 ps g n c d W B s1 hO j j2 s2 hd (by omega) (by omega) hn (by omega) h2)
    have K3 := Lib.hid (fun (p : s2 ≤ s1 + 3) (p1 : s1 ≤ 0 + 3) W B hO => medAdj_any w0 ps g n c d W B s2 hO k k2 s3 hd (by omega) (by omega) hn (by omega) h3)
    have K4 := Lib.hid (fun (p : s3 ≤ s2 + 3) (p2 : s2 ≤ s1 + 3) (p1 : s1 ≤ 0 + 3) (q1 : i2 < n) (q2 : j2 < n) (q3 : k2 < n) W B hO => median_any w0 ps g n c d W B s3 hO i2 j2 k2 m s hd q1 q2 q3 (by omega) h4)
    clear hO hP h1 h2 h3 h4 hi hj hk hi1 hj1 hk1 hQ hQ2 hQ3 hL hd
    go_enter Tryd.func108, Tryd.ntmps108
    go_upto_region 12 with (first
      | (go_at_call 120; with_reducible refine (K1.out _ _ S00.out).mono ?_; rintro e w1 ⟨rfl, q, q1, q2⟩; have S1 := Lib.hid q; have B1 := Lib.hid q1; have C1 := Lib.hid q2; clear q q1 q2)
      | (go_at_call 120; with_reducible refine (K2.out C1.out _ _ S1.out).mono ?_; rintro e w2 ⟨rfl, q, q1, q2⟩; have S2 := Lib.hid q; have B2 := Lib.hid q1; have C2 := Lib.hid q2; clear q q1 q2)
      | (go_at_call 120; with_reducible refine (K3.out C2.out C1.out _ _ S2.out).mono ?_; rintro e w3 ⟨rfl, q, q1, q2⟩; have S3 := Lib.hid q; have B3 := Lib.hid q1; have C3 := Lib.hid q2; clear q q1 q2)
      | (go_at_call 121; with_reducible refine (K4.out C3.out C2.out C1.out B1.out B2.out B3.out _ _ S3.out).mono ?_; rintro e w4 ⟨rfl, q, q1, q2⟩; have S4 := Lib.hid q; clear q q1 q2))
    have t0 := (S4.out.bx 0 rfl).1 0 _ rfl
    have tl := (S4.out.bx 0 rfl).2.2
    have ST := Lib.hid (S4.out.tail)
    by_cases hs0 : s = 0
    · have HE := Lib.hid (show P = (m, .increasing) by rw [HP.out, if_pos hs0])
      subst hs0
      go_wp2_with fail
      go_ret2
      exact ⟨by rw [HE.out]; rfl, ST.out⟩
    by_cases hs1 : s = 12
    · have HE := Lib.hid (show P = (m, .decreasing) by rw [HP.out, if_neg hs0, if_pos hs1])
      subst hs1
      go_wp2_with fail
      go_ret2
      exact ⟨by rw [HE.out]; rfl, ST.out⟩
    have HE := Lib.hid (show P = (m, .unknown) by rw [HP.out, if_neg hs0, if_neg hs1])
    have n0 : ¬ (s : Int) = 0 := by omega
    have n1 : ¬ (s : Int) = 12 := by omega
    have m0 : ((s : Int) == 0) = false := by simp [hs0]
    have m1 : ((s : Int) == 12) = false := by simp [n1]
    go_wp2_with fail
    go_ret2
    exact ⟨by rw [HE.out]; rfl, ST.out⟩
  · have h5 : ¬ (50 : Int) ≤ (L : Int) := by omega
    obtain ⟨m, s, h4⟩ : ∃ x y, Sort.median ltN d i j k 0 = (x, y) := ⟨_, _, rfl⟩
    rw [choose_mid hi1 hj1 hk1 (by omega) (by omega) h4] at hP
    have HP := Lib.hid hP
    have K4 := Lib.hid (fun W B hO => median_any w0 ps g n c d W B 0 hO i j k m s hd (by omega) (by omega) (by omega) (by omega) h4)
    clear hO hP h4 hi hj hk hi1 hj1 hk1 hQ hQ2 hQ3 hL hd
    go_enter Tryd.func108, Tryd.ntmps108
    go_upto_region 12 with (
      (go_at_call 121; with_reducible refine (K4.out _ _ S00.out).mono ?_; rintro e w4 ⟨rfl, q, q1, q2⟩; have S4 := Lib.hid q; clear q q1 q2))
    have t0 := (S4.out.bx 0 rfl).1 0 _ rfl
    have tl := (S4.out.bx 0 rfl).2.2
    have ST := Lib.hid (S4.out.tail)
    by_cases hs0 : s = 0
    · have HE := Lib.hid (show P = (m, .increasing) by rw [HP.out, if_pos hs0])
      subst hs0
      go_wp2_with fail
      go_ret2
      exact ⟨by rw [HE.out]; rfl, ST.out⟩
    by_cases hs1 : s = 12
    · have HE := Lib.hid (show P = (m, .decreasing) by rw [HP.out, if_neg hs0, if_pos hs1])
      subst hs1
      go_wp2_with fail
      go_ret2
      exact ⟨by rw [HE.out]; rfl, ST.out⟩
    have HE := Lib.hid (show P = (m, .unknown) by rw [HP.out, if_neg hs0, if_neg hs1])
    have n0 : ¬ (s : Int) = 0 := by omega
    have n1 : ¬ (s : Int) = 12 := by omega
    have m0 : ((s : Int) == 0) = false := by simp [hs0]
    have m1 : ((s : Int) == 12) = false := by simp [n1]
    go_wp2_with fail
    go_ret2
    exact ⟨by rw [HE.out]; rfl, ST.out⟩
end Go.Proofs.YtnienfgaidccpaaDoor
