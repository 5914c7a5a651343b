/- Ridge: the minutiae of the program. No condition. -/
import Derived.Test.YtjelnbfnoliocaaPz
namespace Go.Proofs.Ytjelnbfnoliocaa
open Go.RowKit Go.Shelf
attribute [local go_sem] Oper.semAt_some

set_option maxRecDepth 100000 in
set_option maxHeartbeats 1000000 in
theorem min_no (W H E : Int) (A : Option Addr) (l : List Bool) (n c : Nat) (w : World) (hv : sized1B W H n = false) :
    Calls Try.prog 39 #[.agg #[.int .i64 W, .int .i64 H, .slice A n c], .int .i64 E] w (MinPost W H l [] 10 w) := by
  have HCk := Lib.hid (fun W1 => (show Calls Try.prog 31 #[.agg #[.int .i64 W, .int .i64 H, .slice A n c]] W1 fun e w' => e = .returned (.int .i64 10) ∧ Below W1.heap.size W1 w' by have := check_any W H A n c W1; rw [hv] at this; exact this))
  have S0 := Lib.hid (((Own.start w).new 34 #[.int .i64 W, .int .i64 H, .slice A n c]).new' 3 #[.int .i64 E] (B := w.heap.size + 1) (by simp))
  obtain ⟨t0, t1, t2, _⟩ := (S0.out.bx 1 rfl).c3
  clear hv
  refine calls_of_wp_marks Try.func39 rfl ?_
  simp only [Try.ntmps39, List.size_toArray, List.length_cons, List.length_nil, Nat.reduceAdd, Nat.reduceSub, Array.replicate_succ, Array.replicate_zero, List.push_toArray, List.append_toArray, List.nil_append, List.cons_append]
  go_wp2_with fail
  refine (HCk.out _).mono ?_
  rintro e w1 ⟨rfl, hb1⟩
  have S1 := Lib.hid (S0.out.ext hb1)
  clear t0 t1 t2 hb1
  have d0 := (S1.out.bx 0 rfl).c1.1
  go_wp2_with fail
  refine leaves_marks (ps := [box (w.heap.size + 1) 3 [.int .i64 E], box w.heap.size 34 [.int .i64 W, .int .i64 H, .slice A n c]]) (fun w' h => ?_) [] _ S1.out
  refine ⟨.tuple #[.slice none 0 0, .int .i64 10], by simp [results, Try.results39, go_sem], none, 0, rfl, (h.sub [] (by decide) (qs := []) rfl).nil 77 4⟩
set_option maxRecDepth 100000 in
set_option maxHeartbeats 1000000 in
theorem min_edge (W H E : Int) (A : Option Addr) (l : List Bool) (n c : Nat) (w : World) (hv : sized1B W H n = true) (hE : inB 0 20 E = false) :
    Calls Try.prog 39 #[.agg #[.int .i64 W, .int .i64 H, .slice A n c], .int .i64 E] w (MinPost W H l [] 2 w) := by
  have HCk := Lib.hid (fun W1 => (show Calls Try.prog 31 #[.agg #[.int .i64 W, .int .i64 H, .slice A n c]] W1 fun e w' => e = .returned (.int .i64 0) ∧ Below W1.heap.size W1 w' by have := check_any W H A n c W1; rw [hv] at this; exact this))
  have HCE := Lib.hid (fun W1 => (show Calls Try.prog 58 #[.int .i64 E, .int .i64 0, .int .i64 20] W1 fun e w' => e = .returned (.bool false) ∧ W1 = w' by have := within_any 0 20 E W1; rw [hE] at this; exact this))
  have S0 := Lib.hid (((Own.start w).new 34 #[.int .i64 W, .int .i64 H, .slice A n c]).new' 3 #[.int .i64 E] (B := w.heap.size + 1) (by simp))
  obtain ⟨t0, t1, t2, _⟩ := (S0.out.bx 1 rfl).c3
  clear hv hE
  refine calls_of_wp_marks Try.func39 rfl ?_
  simp only [Try.ntmps39, List.size_toArray, List.length_cons, List.length_nil, Nat.reduceAdd, Nat.reduceSub, Array.replicate_succ, Array.replicate_zero, List.push_toArray, List.append_toArray, List.nil_append, List.cons_append]
  go_wp2_with fail
  refine (HCk.out _).mono ?_
  rintro e w1 ⟨rfl, hb1⟩
  have S1 := Lib.hid (S0.out.ext hb1)
  clear t0 t1 t2 hb1
  have d0 := (S1.out.bx 0 rfl).c1.1
  go_wp2_with fail
  refine (HCE.out _).mono ?_
  rintro e w2 ⟨rfl, rfl⟩
  go_wp2_with fail
  refine leaves_marks (ps := [box (w.heap.size + 1) 3 [.int .i64 E], box w.heap.size 34 [.int .i64 W, .int .i64 H, .slice A n c]]) (fun w' h => ?_) [] _ S1.out
  refine ⟨.tuple #[.slice none 0 0, .int .i64 2], by simp [results, Try.results39, go_sem], none, 0, rfl, (h.sub [] (by decide) (qs := []) rfl).nil 77 4⟩
theorem ring_get (r : Nat → Bool) (i : Nat) (h : i < [r 0, r 1, r 2, r 3, r 4, r 5, r 6, r 7].length) : [r 0, r 1, r 2, r 3, r 4, r 5, r 6, r 7][i] = r i := by
  simp only [List.length_cons, List.length_nil] at h
  obtain rfl | rfl | rfl | rfl | rfl | rfl | rfl | rfl : i = 0 ∨ i = 1 ∨ i = 2 ∨ i = 3 ∨ i = 4 ∨ i = 5 ∨ i = 6 ∨ i = 7 := by omega
  all_goals rfl
set_option maxRecDepth 100000 in
set_option maxHeartbeats 8000000 in
theorem min_ok (W H E : Int) (A : Option Addr) (l : List Bool) (n c : Nat) (w : World) (hv : sized1B W H n = true) (hE : inB 0 20 E = true) (hr : Rd w A (bools l)) (hn : n = l.length) :
    Calls Try.prog 39 #[.agg #[.int .i64 W, .int .i64 H, .slice A n c], .int .i64 E] w (MinPost W H l (minI W H l E n) 0 w) := by
  obtain ⟨hW, hH, hWH⟩ := valid_bd hv
  have hWHb : W * H ≤ 20 * 20 := Int.mul_le_mul (by omega) (by omega) (by omega) (by omega)
  have hn400 : n ≤ 400 := by omega
  have hn1 : 1 ≤ n := by
    have : 1 * 1 ≤ W * H := Int.mul_le_mul (by omega) (by omega) (by omega) (by omega)
    omega
  have hEb : 0 ≤ E ∧ E ≤ 20 := by simpa [inB] using hE
  obtain ⟨hE0, hE1⟩ := hEb
  obtain ⟨b0, off, rfl, hb0, hc0⟩ := hr.at_ (bools_get (show 0 < l.length by omega))
  have HRD := Lib.hid (fun W1 (h : Below w.heap.size w W1) => hr.below h)
  have HB0 := Lib.hid hb0
  have HCk := Lib.hid (fun W1 => (show Calls Try.prog 31 #[.agg #[.int .i64 W, .int .i64 H, .slice (some ⟨b0, off, none⟩) n c]] W1 fun e w' => e = .returned (.int .i64 0) ∧ Below W1.heap.size W1 w' by have := check_any W H (some ⟨b0, off, none⟩) n c W1; rw [hv] at this; exact this))
  have HCE := Lib.hid (fun W1 => (show Calls Try.prog 58 #[.int .i64 E, .int .i64 0, .int .i64 20] W1 fun e w' => e = .returned (.bool true) ∧ W1 = w' by have := within_any 0 20 E W1; rw [hE] at this; exact this))
  have C63 := Lib.hid (fun (x y : Int) W1 (h : Below w.heap.size w W1) h1 h2 => around_any W H x y (some ⟨b0, off, none⟩) l n c W1 hv (hr.below h) hn h1 h2)
  have HOK := Lib.hid hv
  have HN := Lib.hid hn
  have HFIN := Lib.hid (show minP W H l E ((pixI l l.length).map (plc W)) = minI W H l E n by rw [hn]; rfl)
  have S0 := Lib.hid (((Own.start w).new 34 #[.int .i64 W, .int .i64 H, .slice (some ⟨b0, off, none⟩) n c]).new' 3 #[.int .i64 E] (B := w.heap.size + 1) (by simp))
  obtain ⟨t0, t1, t2, _⟩ := (S0.out.bx 1 rfl).c3
  clear hv hE hr hn hWH hWHb hc0 hb0
  refine calls_of_wp_marks Try.func39 rfl ?_
  simp only [Try.ntmps39, List.size_toArray, List.length_cons, List.length_nil, Nat.reduceAdd, Nat.reduceSub, Array.replicate_succ, Array.replicate_zero, List.push_toArray, List.append_toArray, List.nil_append, List.cons_append]
  go_wp2_with fail
  refine (HCk.out _).mono ?_
  rintro e w1 ⟨rfl, hb1⟩
  have S1 := Lib.hid (S0.out.ext hb1)
  clear t0 t1 t2 hb1 S0
  have d0 := (S1.out.bx 0 rfl).c1.1
  go_wp2_with fail
  refine (HCE.out _).mono ?_
  rintro e w2 ⟨rfl, rfl⟩
  obtain ⟨t0, t1, t2, _⟩ := (S1.out.bx 1 rfl).c3
  have lt := (S1.out.bx 1 rfl).2.2
  go_wp2_with fail
  refine (pixels_any _ _ _ _ _ _).mono ?_
  rintro e w4 ⟨rfl, hw4⟩
  have L4 := Lib.hid (((S1.out.new' 62 #[.slice none 0 0] (B := w1.heap.size) rfl).new' 34 #[.int .i64 W, .int .i64 H, .slice (some ⟨b0, off, none⟩) n c] (B := w1.heap.size + 1) (by simp)).nil 77 4)
  rw [hw4] at L4
  go_wp2_with fail
  generalize hX : w1.heap.size = X at *
  clear hX hw4 t0 t1 t2 lt d0 S1 HCk HCE
  have L5 := Lib.hid (L4.out.cast (qs := row 77 4 (.slice none 0 0) 0 [] :: box (X + 1) 34 [.int .i64 W, .int .i64 H, .slice (some ⟨b0, off, none⟩) n c] :: box X 62 [.slice none 0 0] :: [box (w.heap.size + 1) 3 [.int .i64 E], box w.heap.size 34 [.int .i64 W, .int .i64 H, .slice (some ⟨b0, off, none⟩) n c]]) rfl)
  clear L4
  have lb := (L5.out.bx 1 rfl).2.2
  have lz : b0 < w4.heap.size := by have := HB0.out; have := L5.out.bel.size; omega
  have HR4 := Lib.hid (HRD.out _ L5.out.bel)
  obtain ⟨b1, b2, b3, _⟩ := (L5.out.bx 1 rfl).c3
  refine wp_range_own (w0 := w) (gf := 83) (lb := #[.pointer (some ⟨X + 1, 0, none⟩)]) rfl (enters_of Try.func83 (by kernel_rfl) rfl)
    (pix_stops 9 (by omega) (X + 1) b0 (some ⟨b0, off, none⟩) l n c W H w4 HOK.out HN.out HR4.out (fun b o e => .inr (by injection e with e; injection e with e _; exact e.symm)) lb b1 b2 b3)
    Keep2.trans (fun W1 lq o o' hl _ _ _ => ⟨World.putObj_heap_other (by omega), World.putObj_heap_other (by omega), by simp⟩) (fun W1 => ⟨rfl, rfl, Nat.le_refl _⟩) (fun _ => rfl)
    (fun pre s => s.2.2 = minP W H l E (pre.map (·.1)))
    (fun s : Option Addr × Nat × List (Int × Int) => row 77 4 (.slice s.1 s.2.2.length s.2.1) s.2.2.length (flat (mntE W H l) s.2.2) :: box (X + 1) 34 [.int .i64 W, .int .i64 H, .slice (some ⟨b0, off, none⟩) n c] :: box X 62 [.slice s.1 s.2.2.length s.2.1] :: [box (w.heap.size + 1) 3 [.int .i64 E], box w.heap.size 34 [.int .i64 W, .int .i64 H, .slice (some ⟨b0, off, none⟩) n c]])
    ?hcel (none, 0, []) rfl L5.out
    (fun x => { tmps := #[.agg #[.int .i64 W, .int .i64 H, .slice (some ⟨b0, off, none⟩) n c], .int .i64 E, .pointer (some ⟨w.heap.size, 0, none⟩), .pointer (some ⟨w.heap.size + 1, 0, none⟩), .slice none 0 0, .int .i64 0, .int .i64 0, .pointer (some ⟨X, 0, none⟩), .int .i64 x.1.1, .int .i64 x.1.2, undef, undef, undef, .agg #[.int .i64 W, .int .i64 H, .slice (some ⟨b0, off, none⟩) n c], .int .i64 0, .int .i64 0, .bool false, undef, .int .i64 E, .bool true, .bool false, .agg #[.int .i64 W, .int .i64 H, .slice (some ⟨b0, off, none⟩) n c], .func (.func 83) #[] #[.pointer (some ⟨X + 1, 0, none⟩)], .int .i64 x.1.1, .int .i64 x.1.2, undef, undef, undef, undef, undef, undef, undef, undef, undef, undef, undef, undef, undef, undef, undef, undef, undef, undef, undef, undef, undef, undef, undef, undef, undef, undef, undef, undef, undef, undef, undef, undef, undef, undef, undef, undef, undef, undef, undef, undef, undef, undef, undef, undef, undef, undef], defers := [] }) ?hassign ?hbody ?hdone
  case hcel =>
    intro s p hp
    simp only [List.mem_cons, List.not_mem_nil, or_false] at hp
    rcases hp with rfl | rfl | rfl | rfl | rfl
    · exact .inl (row_cel _ _ _ _ _)
    all_goals exact .inl (box_cel _ _ _)
  case hassign =>
    intro x lq K W1 hK
    simp only [encPl]
    gi_wp2
    exact hK
  case hdone =>
    rintro Dn xs ⟨A2, c2, m⟩ W5 hS hR hO
    simp only at hR
    have HM := Lib.hid (show m = minI W H l E n by rw [hR, hS]; exact HFIN.out)
    have HO := Lib.hid (hO.perm (List.Perm.trans (List.Perm.refl _) (List.perm_middle (l₁ := row 77 4 (.slice A2 m.length c2) m.length (flat (mntE W H l) m) :: box (X + 1) 34 [.int .i64 W, .int .i64 H, .slice (some ⟨b0, off, none⟩) n c] :: box X 62 [.slice A2 m.length c2] :: [box (w.heap.size + 1) 3 [.int .i64 E], box w.heap.size 34 [.int .i64 W, .int .i64 H, .slice (some ⟨b0, off, none⟩) n c]]) (l₂ := [])).symm))
    clear hO hS hR
    have k0 := (HO.out.bx 2 rfl).c1.1
    go_wp2_with fail
    refine leaves_marks (ps := row 77 4 (.slice A2 m.length c2) m.length (flat (mntE W H l) m) :: box (X + 1) 34 [.int .i64 W, .int .i64 H, .slice (some ⟨b0, off, none⟩) n c] :: box X 62 [.slice A2 m.length c2] :: [box (w.heap.size + 1) 3 [.int .i64 E], box w.heap.size 34 [.int .i64 W, .int .i64 H, .slice (some ⟨b0, off, none⟩) n c]]) (fun w' h => ?_) [Dn] _ HO.out
    refine ⟨.tuple #[.slice A2 m.length c2, .int .i64 0], by simp [results, Try.results39, go_sem], A2, c2, by rw [HM.out], ?_⟩
    have h2 := HM.out
    rw [← h2]
    exact h.sub [0] (by decide) rfl
  case hbody =>
    intro lq pre x s W1 hpl hR hO
    obtain ⟨A2, c2, m⟩ := s
    obtain ⟨⟨x, y⟩, hxy⟩ := x
    simp only at hR
    have HO := Lib.hid (hO.cast (qs := row 77 4 (.slice A2 m.length c2) m.length (flat (mntE W H l) m) :: box (X + 1) 34 [.int .i64 W, .int .i64 H, .slice (some ⟨b0, off, none⟩) n c] :: box X 62 [.slice A2 m.length c2] :: [box (w.heap.size + 1) 3 [.int .i64 E], box w.heap.size 34 [.int .i64 W, .int .i64 H, .slice (some ⟨b0, off, none⟩) n c]]) rfl)
    have HRR := Lib.hid (show minP W H l E ((pre ++ [(⟨(x, y), hxy⟩ : PPlc W H)]).map (·.1)) = m ++ if goodP W H l E (x, y) then [(x, y)] else [] by rw [List.map_append, hR]; exact minP_snoc W H l E _ _)
    have hml : m.length ≤ 400 := by
      have h1 := minP_len W H l E (pre.map (·.1))
      have h2 := HN.out
      rw [← hR] at h1
      simp at h1
      omega
    obtain ⟨⟨p1, p2⟩, p3, p4⟩ := hxy
    simp only at p1 p2 p3 p4
    have HB := Lib.hid (show mntE W H l (x, y) = [.int .i64 x, .int .i64 y, .int .u8 (if 3 ≤ crossN (nbF W H l x y) 8 then 2 else 1), .int .u8 (firstN (nbF W H l x y) : Nat)] from rfl)
    have HG := Lib.hid (show goodP W H l E (x, y) = ((crossN (nbF W H l x y) 8 == 1 || decide (3 ≤ crossN (nbF W H l x y) 8)) && (decide (E ≤ x) && (decide (E ≤ y) && (decide (E ≤ W - 1 - x) && decide (E ≤ H - 1 - y))))) from rfl)
    have N63 := Lib.hid (fun W1 h => C63.out x y W1 h (by omega) (by omega))
    clear C63 hO hR hpl HR4 b1 b2 b3 HFIN
    have HZ := Lib.hid (crossN_le (nbF W H l x y) 8)
    generalize goodP W H l E (x, y) = gd at *
    generalize nbF W H l x y = r at *
    obtain ⟨t0, t1, t2, _⟩ := (HO.out.bx 4 rfl).c3
    gi_wp2_with fail
    refine ⟨trivial, ?_⟩
    refine (CallsIn.inRound lq (callsIn_wide.2 (N63.out _ HO.out.bel))).mono ?_
    rintro e W2 ⟨rfl, hb2⟩
    have O2 := Lib.hid (((HO.out.ext hb2).new' 97 #[.bool (r 0), .bool (r 1), .bool (r 2), .bool (r 3), .bool (r 4), .bool (r 5), .bool (r 6), .bool (r 7)] (B := W2.heap.size) rfl).cast (qs := box W2.heap.size 97 [.bool (r 0), .bool (r 1), .bool (r 2), .bool (r 3), .bool (r 4), .bool (r 5), .bool (r 6), .bool (r 7)] :: row 77 4 (.slice A2 m.length c2) m.length (flat (mntE W H l) m) :: box (X + 1) 34 [.int .i64 W, .int .i64 H, .slice (some ⟨b0, off, none⟩) n c] :: box X 62 [.slice A2 m.length c2] :: [box (w.heap.size + 1) 3 [.int .i64 E], box w.heap.size 34 [.int .i64 W, .int .i64 H, .slice (some ⟨b0, off, none⟩) n c]]) rfl)
    have K2 := Lib.hid ((keeps_below hb2).trans (KeepsOthers.alloc W2 (.cells #[.bool (r 0), .bool (r 1), .bool (r 2), .bool (r 3), .bool (r 4), .bool (r 5), .bool (r 6), .bool (r 7)] 97)))
    unfold ringV
    clear t0 t1 t2 hb2 N63
    gi_wp2_with fail
    refine ⟨trivial, ?_⟩
    generalize W2.alloc _ = W3 at *
    generalize W2.heap.size = RB at *
    refine (CallsIn.inRound lq (callsIn_wide.2 (index_any (some ⟨RB, 0, none⟩) [r 0, r 1, r 2, r 3, r 4, r 5, r 6, r 7] 8 8 _ (rd_box (xs := bools [r 0, r 1, r 2, r 3, r 4, r 5, r 6, r 7]) (sp := []) (O2.out.bx 0 rfl)) rfl rfl r (ring_get r)))).mono ?_
    rintro e W4 ⟨z, rfl, rfl, hz0, hz1, hz⟩
    have hf8 := firstN_lt r
    obtain ⟨d, hd⟩ : ∃ d, IntKind.u8.wrap z = d := ⟨_, rfl⟩
    have HD := Lib.hid (show crossN r 8 ≠ 0 → d = (firstN r : Nat) from fun h => by rw [← hd, hz h]; exact IntWalk.u8_in _ (by omega))
    clear hz
    have e0 := (O2.out.bx 0 rfl).1 0 _ rfl
    have e1 := (O2.out.bx 0 rfl).1 1 _ rfl
    have e2 := (O2.out.bx 0 rfl).1 2 _ rfl
    have e3 := (O2.out.bx 0 rfl).1 3 _ rfl
    have e4 := (O2.out.bx 0 rfl).1 4 _ rfl
    have e5 := (O2.out.bx 0 rfl).1 5 _ rfl
    have e6 := (O2.out.bx 0 rfl).1 6 _ rfl
    have e7 := (O2.out.bx 0 rfl).1 7 _ rfl
    have le := (O2.out.bx 0 rfl).2.2
    gi_wp2_with fail
    refine ⟨trivial, ?_⟩
    refine (CallsIn.inRound lq (callsIn_wide.2 (crossings_any r _))).mono ?_
    rintro e W5 ⟨rfl, hb5⟩
    have O3 := Lib.hid (((O2.out.new' 77 #[.int .i64 x, .int .i64 y, .int .u8 0, .int .u8 d] (B := W3.heap.size) rfl).ext hb5).cast (qs := box W3.heap.size 77 [.int .i64 x, .int .i64 y, .int .u8 0, .int .u8 d] :: box RB 97 [.bool (r 0), .bool (r 1), .bool (r 2), .bool (r 3), .bool (r 4), .bool (r 5), .bool (r 6), .bool (r 7)] :: row 77 4 (.slice A2 m.length c2) m.length (flat (mntE W H l) m) :: box (X + 1) 34 [.int .i64 W, .int .i64 H, .slice (some ⟨b0, off, none⟩) n c] :: box X 62 [.slice A2 m.length c2] :: [box (w.heap.size + 1) 3 [.int .i64 E], box w.heap.size 34 [.int .i64 W, .int .i64 H, .slice (some ⟨b0, off, none⟩) n c]]) rfl)
    have K3 := Lib.hid (K2.out.trans ((KeepsOthers.alloc W3 (.cells #[.int .i64 x, .int .i64 y, .int .u8 0, .int .u8 d] 77)).trans (keeps_below hb5)))
    clear e0 e1 e2 e3 e4 e5 e6 e7 le hb5 hz0 hz1 hd O2 K2
    have HQ8 := HZ.out
    generalize firstN r = f at *
    generalize crossN r 8 = q at *
    generalize W3.heap.size = MB at *
    have d0 := (O3.out.bx 5 rfl).c1.1
    obtain ⟨t0, t1, t2, _⟩ := (O3.out.bx 6 rfl).c3
    have HSK := Lib.hid (fun (h : gd = false) a => (show roundPost (Keep2 (X + 1) b0) (fun s : Option Addr × Nat × List (Int × Int) => s.2.2 = minP W H l E ((pre ++ [(⟨(x, y), ⟨p1, p2⟩, p3, p4⟩ : PPlc W H)]).map (·.1))) (fun s : Option Addr × Nat × List (Int × Int) => row 77 4 (.slice s.1 s.2.2.length s.2.1) s.2.2.length (flat (mntE W H l) s.2.2) :: box (X + 1) 34 [.int .i64 W, .int .i64 H, .slice (some ⟨b0, off, none⟩) n c] :: box X 62 [.slice s.1 s.2.2.length s.2.1] :: [box (w.heap.size + 1) 3 [.int .i64 E], box w.heap.size 34 [.int .i64 W, .int .i64 H, .slice (some ⟨b0, off, none⟩) n c]]) w W1 .normal a W5 from
      ⟨K3.out, ⟨(show _ = _ from O3.out.get 3 rfl).trans (show _ = _ from HO.out.get 1 rfl).symm, (O3.out.bel.block b0 HB0.out).trans (HO.out.bel.block b0 HB0.out).symm, K3.out.size⟩, (A2, c2, m), by rw [HRR.out, h]; simp, O3.out.tail.tail⟩))
    by_cases hx1 : E ≤ x ∧ x ≤ W - 1 - E
    case neg =>
      have HV := Lib.hid (show gd = false by rw [HG.out]; simp; omega)
      have N58 := Lib.hid (fun W1 => (show Calls Try.prog 58 #[.int .i64 x, .int .i64 E, .int .i64 (W - 1 - E)] W1 fun e w' => e = .returned (.bool false) ∧ W1 = w' by have := within_any E (W - 1 - E) x W1; rwa [show inB E (W - 1 - E) x = false by simp [inB]; omega] at this))
      gi_wp2_with fail
      refine ⟨trivial, ?_⟩
      refine (CallsIn.inRound lq (callsIn_wide.2 (N58.out _))).mono ?_
      rintro e W6 ⟨rfl, rfl⟩
      gi_wp2_with fail
      refine ⟨trivial, ?_⟩
      gi_wp2_with fail
      exact HSK.out HV.out _
    have N58 := Lib.hid (fun W1 => (show Calls Try.prog 58 #[.int .i64 x, .int .i64 E, .int .i64 (W - 1 - E)] W1 fun e w' => e = .returned (.bool true) ∧ W1 = w' by have := within_any E (W - 1 - E) x W1; rwa [show inB E (W - 1 - E) x = true by simp [inB]; omega] at this))
    by_cases hy1 : E ≤ y ∧ y ≤ H - 1 - E
    case neg =>
      have HV := Lib.hid (show gd = false by rw [HG.out]; simp; omega)
      have N59 := Lib.hid (fun W1 => (show Calls Try.prog 58 #[.int .i64 y, .int .i64 E, .int .i64 (H - 1 - E)] W1 fun e w' => e = .returned (.bool false) ∧ W1 = w' by have := within_any E (H - 1 - E) y W1; rwa [show inB E (H - 1 - E) y = false by simp [inB]; omega] at this))
      gi_wp2_with fail
      refine ⟨trivial, ?_⟩
      refine (CallsIn.inRound lq (callsIn_wide.2 (N58.out _))).mono ?_
      rintro e W6 ⟨rfl, rfl⟩
      clear N58
      gi_wp2_with fail
      refine ⟨trivial, ?_⟩
      refine (CallsIn.inRound lq (callsIn_wide.2 (N59.out _))).mono ?_
      rintro e W6 ⟨rfl, rfl⟩
      gi_wp2_with fail
      exact HSK.out HV.out _
    have N59 := Lib.hid (fun W1 => (show Calls Try.prog 58 #[.int .i64 y, .int .i64 E, .int .i64 (H - 1 - E)] W1 fun e w' => e = .returned (.bool true) ∧ W1 = w' by have := within_any E (H - 1 - E) y W1; rwa [show inB E (H - 1 - E) y = true by simp [inB]; omega] at this))
    gi_wp2_with fail
    refine ⟨trivial, ?_⟩
    refine (CallsIn.inRound lq (callsIn_wide.2 (N58.out _))).mono ?_
    rintro e W6 ⟨rfl, rfl⟩
    clear N58
    gi_wp2_with fail
    refine ⟨trivial, ?_⟩
    refine (CallsIn.inRound lq (callsIn_wide.2 (N59.out _))).mono ?_
    rintro e W6 ⟨rfl, rfl⟩
    clear N59
    by_cases hq1 : q = 1
    case pos =>
      have f1 : ((q : Int) == 1) = true := by simp; omega
      have HV := Lib.hid (show gd = true by rw [HG.out]; simp; omega)
      rw [if_neg (by omega)] at HB
      have HF := Lib.hid (HD.out (by omega))
      clear hq1
      have m0 := (O3.out.bx 0 rfl).1 0 _ rfl
      have m1 := (O3.out.bx 0 rfl).1 1 _ rfl
      have m2 := (O3.out.bx 0 rfl).1 2 _ rfl
      have m3 := (O3.out.bx 0 rfl).1 3 _ rfl
      have lm := (O3.out.bx 0 rfl).2.2
      have fm := (O3.out.bx 0 rfl).2.1
      have k0 := (O3.out.bx 4 rfl).c1.1
      have lk := (O3.out.bx 4 rfl).2.2
      have O4 := Lib.hid ((O3.out.set 0 rfl 2 (.int .u8 1)).cast (qs := box MB 77 [.int .i64 x, .int .i64 y, .int .u8 1, .int .u8 d] :: box RB 97 [.bool (r 0), .bool (r 1), .bool (r 2), .bool (r 3), .bool (r 4), .bool (r 5), .bool (r 6), .bool (r 7)] :: row 77 4 (.slice A2 m.length c2) m.length (flat (mntE W H l) m) :: box (X + 1) 34 [.int .i64 W, .int .i64 H, .slice (some ⟨b0, off, none⟩) n c] :: box X 62 [.slice A2 m.length c2] :: [box (w.heap.size + 1) 3 [.int .i64 E], box w.heap.size 34 [.int .i64 W, .int .i64 H, .slice (some ⟨b0, off, none⟩) n c]]) rfl)
      have O5 := Lib.hid (O4.out.ext (below_alloc _ (.cells #[.int .i64 x, .int .i64 y, .int .u8 1, .int .u8 d] 77)))
      have K5 := Lib.hid ((K3.out.trans (KeepsOthers.setCell W5 ⟨MB, 2, none⟩ (.int .u8 1))).trans (KeepsOthers.alloc _ (.cells #[.int .i64 x, .int .i64 y, .int .u8 1, .int .u8 d] 77)))
      gi_wp2_with (gi_at_builtin; refine wpListIn_appP rfl (.tmp 66) (.tmp 68) 62 rfl st62 2 O5.out rfl rfl rfl (m.length + 1) (flat (mntE W H l) (m ++ [(x, y)])) ?_ (mntE W H l (x, y)) rfl (by rw [flat_append, flat_cons, flat_nil, List.append_nil]) (by rw [HB.out, ← HF.out]; simpa using Rd.new (W5.setCell ⟨MB, 2, none⟩ (.int .u8 1)) #[.int .i64 x, .int .i64 y, .int .u8 1, .int .u8 d] 77) rfl (by simp [mntE, Value.oneCell']) (by unfold maxLen; omega) (by omega); intro A3 c3 W8 hO8 hk8; have O8 := Lib.hid (hO8.cast (qs := box MB 77 [.int .i64 x, .int .i64 y, .int .u8 1, .int .u8 d] :: box RB 97 [.bool (r 0), .bool (r 1), .bool (r 2), .bool (r 3), .bool (r 4), .bool (r 5), .bool (r 6), .bool (r 7)] :: row 77 4 (.slice A3 (m.length + 1) c3) (m.length + 1) (flat (mntE W H l) (m ++ [(x, y)])) :: box (X + 1) 34 [.int .i64 W, .int .i64 H, .slice (some ⟨b0, off, none⟩) n c] :: box X 62 [.slice A2 m.length c2] :: [box (w.heap.size + 1) 3 [.int .i64 E], box w.heap.size 34 [.int .i64 W, .int .i64 H, .slice (some ⟨b0, off, none⟩) n c]]) rfl); have HK8 := Lib.hid hk8; clear hO8 hk8 k0 lk m0 m1 m2 m3 lm fm; have k0 := (O8.out.bx 4 rfl).c1.1; have kf := (O8.out.bx 4 rfl).2.1; have lk := (O8.out.bx 4 rfl).2.2)
      have O9 := Lib.hid ((O8.out.set 4 rfl 0 (.slice A3 (m.length + 1) c3)).cast (qs := box MB 77 [.int .i64 x, .int .i64 y, .int .u8 1, .int .u8 d] :: box RB 97 [.bool (r 0), .bool (r 1), .bool (r 2), .bool (r 3), .bool (r 4), .bool (r 5), .bool (r 6), .bool (r 7)] :: row 77 4 (.slice A3 (m ++ [(x, y)]).length c3) (m ++ [(x, y)]).length (flat (mntE W H l) (m ++ [(x, y)])) :: box (X + 1) 34 [.int .i64 W, .int .i64 H, .slice (some ⟨b0, off, none⟩) n c] :: box X 62 [.slice A3 (m ++ [(x, y)]).length c3] :: [box (w.heap.size + 1) 3 [.int .i64 E], box w.heap.size 34 [.int .i64 W, .int .i64 H, .slice (some ⟨b0, off, none⟩) n c]]) (by simp))
      have K9 := Lib.hid ((K5.out.trans HK8.out).trans (KeepsOthers.setCell _ ⟨X, 0, none⟩ (.slice A3 (m.length + 1) c3)))
      exact ⟨K9.out, ⟨(show _ = _ from O9.out.get 3 rfl).trans (show _ = _ from HO.out.get 1 rfl).symm, (O9.out.bel.block b0 HB0.out).trans (HO.out.bel.block b0 HB0.out).symm, K9.out.size⟩, (A3, c3, m ++ [(x, y)]), by rw [HRR.out, HV.out]; simp, O9.out.tail.tail⟩
    by_cases hq2 : 3 ≤ q
    case pos =>
      have f1 : ((q : Int) == 1) = false := by simp; omega
      have f2 : 2 < (q : Int) := by omega
      have HV := Lib.hid (show gd = true by rw [HG.out]; simp; omega)
      rw [if_pos hq2] at HB
      have HF := Lib.hid (HD.out (by omega))
      clear hq1 hq2
      have m0 := (O3.out.bx 0 rfl).1 0 _ rfl
      have m1 := (O3.out.bx 0 rfl).1 1 _ rfl
      have m2 := (O3.out.bx 0 rfl).1 2 _ rfl
      have m3 := (O3.out.bx 0 rfl).1 3 _ rfl
      have lm := (O3.out.bx 0 rfl).2.2
      have fm := (O3.out.bx 0 rfl).2.1
      have k0 := (O3.out.bx 4 rfl).c1.1
      have lk := (O3.out.bx 4 rfl).2.2
      have O4 := Lib.hid ((O3.out.set 0 rfl 2 (.int .u8 2)).cast (qs := box MB 77 [.int .i64 x, .int .i64 y, .int .u8 2, .int .u8 d] :: box RB 97 [.bool (r 0), .bool (r 1), .bool (r 2), .bool (r 3), .bool (r 4), .bool (r 5), .bool (r 6), .bool (r 7)] :: row 77 4 (.slice A2 m.length c2) m.length (flat (mntE W H l) m) :: box (X + 1) 34 [.int .i64 W, .int .i64 H, .slice (some ⟨b0, off, none⟩) n c] :: box X 62 [.slice A2 m.length c2] :: [box (w.heap.size + 1) 3 [.int .i64 E], box w.heap.size 34 [.int .i64 W, .int .i64 H, .slice (some ⟨b0, off, none⟩) n c]]) rfl)
      have O5 := Lib.hid (O4.out.ext (below_alloc _ (.cells #[.int .i64 x, .int .i64 y, .int .u8 2, .int .u8 d] 77)))
      have K5 := Lib.hid ((K3.out.trans (KeepsOthers.setCell W5 ⟨MB, 2, none⟩ (.int .u8 2))).trans (KeepsOthers.alloc _ (.cells #[.int .i64 x, .int .i64 y, .int .u8 2, .int .u8 d] 77)))
      gi_wp2_with (gi_at_builtin; refine wpListIn_appP rfl (.tmp 66) (.tmp 68) 62 rfl st62 2 O5.out rfl rfl rfl (m.length + 1) (flat (mntE W H l) (m ++ [(x, y)])) ?_ (mntE W H l (x, y)) rfl (by rw [flat_append, flat_cons, flat_nil, List.append_nil]) (by rw [HB.out, ← HF.out]; simpa using Rd.new (W5.setCell ⟨MB, 2, none⟩ (.int .u8 2)) #[.int .i64 x, .int .i64 y, .int .u8 2, .int .u8 d] 77) rfl (by simp [mntE, Value.oneCell']) (by unfold maxLen; omega) (by omega); intro A3 c3 W8 hO8 hk8; have O8 := Lib.hid (hO8.cast (qs := box MB 77 [.int .i64 x, .int .i64 y, .int .u8 2, .int .u8 d] :: box RB 97 [.bool (r 0), .bool (r 1), .bool (r 2), .bool (r 3), .bool (r 4), .bool (r 5), .bool (r 6), .bool (r 7)] :: row 77 4 (.slice A3 (m.length + 1) c3) (m.length + 1) (flat (mntE W H l) (m ++ [(x, y)])) :: box (X + 1) 34 [.int .i64 W, .int .i64 H, .slice (some ⟨b0, off, none⟩) n c] :: box X 62 [.slice A2 m.length c2] :: [box (w.heap.size + 1) 3 [.int .i64 E], box w.heap.size 34 [.int .i64 W, .int .i64 H, .slice (some ⟨b0, off, none⟩) n c]]) rfl); have HK8 := Lib.hid hk8; clear hO8 hk8 k0 lk m0 m1 m2 m3 lm fm; have k0 := (O8.out.bx 4 rfl).c1.1; have kf := (O8.out.bx 4 rfl).2.1; have lk := (O8.out.bx 4 rfl).2.2)
      have O9 := Lib.hid ((O8.out.set 4 rfl 0 (.slice A3 (m.length + 1) c3)).cast (qs := box MB 77 [.int .i64 x, .int .i64 y, .int .u8 2, .int .u8 d] :: box RB 97 [.bool (r 0), .bool (r 1), .bool (r 2), .bool (r 3), .bool (r 4), .bool (r 5), .bool (r 6), .bool (r 7)] :: row 77 4 (.slice A3 (m ++ [(x, y)]).length c3) (m ++ [(x, y)]).length (flat (mntE W H l) (m ++ [(x, y)])) :: box (X + 1) 34 [.int .i64 W, .int .i64 H, .slice (some ⟨b0, off, none⟩) n c] :: box X 62 [.slice A3 (m ++ [(x, y)]).length c3] :: [box (w.heap.size + 1) 3 [.int .i64 E], box w.heap.size 34 [.int .i64 W, .int .i64 H, .slice (some ⟨b0, off, none⟩) n c]]) (by simp))
      have K9 := Lib.hid ((K5.out.trans HK8.out).trans (KeepsOthers.setCell _ ⟨X, 0, none⟩ (.slice A3 (m.length + 1) c3)))
      exact ⟨K9.out, ⟨(show _ = _ from O9.out.get 3 rfl).trans (show _ = _ from HO.out.get 1 rfl).symm, (O9.out.bel.block b0 HB0.out).trans (HO.out.bel.block b0 HB0.out).symm, K9.out.size⟩, (A3, c3, m ++ [(x, y)]), by rw [HRR.out, HV.out]; simp, O9.out.tail.tail⟩
    have f1 : ((q : Int) == 1) = false := by simp; omega
    have f2 : ¬ 2 < (q : Int) := by omega
    have HV := Lib.hid (show gd = false by rw [HG.out]; simp; omega)
    clear hq1 hq2
    gi_wp2_with fail
    exact HSK.out HV.out _
end Go.Proofs.Ytjelnbfnoliocaa
