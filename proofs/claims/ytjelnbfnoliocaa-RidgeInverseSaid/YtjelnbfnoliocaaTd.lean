/- Ridge: the walk of RidgeSimple. No condition. -/
import Derived.Test.YtjelnbfnoliocaaTc
namespace Go.Proofs.Ytjelnbfnoliocaa
open Go.RowKit Go.Shelf
attribute [local go_sem] Oper.semAt_some

theorem plc_at {W x y : Int} {i : Nat} (hW : 1 ≤ W) (hx : 0 ≤ x ∧ x ≤ W - 1) (hi : (i : Int) = y * W + x) : plc W i = (x, y) := by
  unfold plc
  rw [hi]
  have h1 : (y * W + x) / W = y := by rw [Int.add_comm, Int.add_mul_ediv_right _ _ (by omega), Int.ediv_eq_zero_of_lt hx.1 (by omega), Int.zero_add]
  have h2 : (y * W + x) % W = x := by rw [Int.add_comm, Int.add_mul_emod_self_right, Int.emod_eq_of_lt hx.1 (by omega)]
  rw [h1, h2]
theorem nbI_at {W H x y : Int} {i : Nat} {l : List Bool} (hW : 1 ≤ W) (hx : 0 ≤ x ∧ x ≤ W - 1) (hi : (i : Int) = y * W + x) : nbI W H l i = nbF W H l x y := by
  funext d
  unfold nbI
  rw [plc_at hW hx hi]
theorem parts_bd {W H : Int} {n : Nat} (ok : sized1B W H n = true) (l : List Bool) : 0 ≤ ridgesF W H l ∧ ridgesF W H l ≤ 484 ∧ -1 ≤ lakesF W H l ∧ lakesF W H l ≤ 484 := by
  obtain ⟨hW, hH, _⟩ := valid_bd ok
  have h1 := compsF_le W H l true false hW hH
  have h2 := compsF_le W H l false true hW hH
  unfold ridgesF lakesF
  omega
theorem asked_ok {W H x y : Int} {n : Nat} (h : askedF W H n x y = 0) : sized1B W H n = true ∧ inB 0 (W - 1) x = true ∧ inB 0 (H - 1) y = true := by
  unfold askedF at h
  cases h1 : sized1B W H n
  · rw [h1] at h; simp at h
  · rw [h1] at h
    simp only [if_true] at h
    cases h2 : (inB 0 (W - 1) x && inB 0 (H - 1) y)
    · rw [h2] at h; simp at h
    · simp only [Bool.and_eq_true] at h2
      exact ⟨rfl, h2⟩
theorem asked_no {W H x y : Int} {n : Nat} (h : askedF W H n x y ≠ 0) : askedF W H n x y = 2 ∨ askedF W H n x y = 10 := by
  unfold askedF at h ⊢
  split
  · rename_i h1
    rw [if_pos h1] at h
    split
    · rename_i h2
      rw [if_pos h2] at h
      exact absurd rfl h
    · exact .inl rfl
  · exact .inr rfl
theorem take_int {W H x y : Int} {n : Nat} {l : List Bool} (ok : sized1B W H n = true) (hn : n = l.length) (hx : inB 0 (W - 1) x = true) (hy : inB 0 (H - 1) y = true) (hb : isF W H l x y = true) :
    ∃ i : Nat, (i : Int) = y * W + x ∧ i < l.length ∧ l.getD i false = true ∧
    ((ridgesF W H l - lakesF W H l) - (ridgesF W H (l.set i false) - lakesF W H (l.set i false)) = 1 - (turnsN (nbF W H l x y) 4 : Int)) ∧
    (turnsN (nbF W H l x y) 4 ≤ 1 → cntN (nbF W H l x y) 8 ≠ 0 → ridgesF W H (l.set i false) = ridgesF W H l) ∧
    (cntN (nbF W H l x y) 8 = 0 → ridgesF W H l = ridgesF W H (l.set i false) + 1 ∧ turnsN (nbF W H l x y) 4 = 0) ∧
    (turnsN (nbF W H l x y) 4 = 1 → cntN (nbF W H l x y) 8 ≠ 0) := by
  obtain ⟨hW, hH, hnn⟩ := valid_bd ok
  have hx' : 0 ≤ x ∧ x ≤ W - 1 := by simpa [inB] using hx
  have hy' : 0 ≤ y ∧ y ≤ H - 1 := by simpa [inB] using hy
  obtain ⟨p1, p2, p3, p4⟩ := place_lt hnn hx' hy'
  obtain ⟨a, b, ha, hb', hab, _⟩ := sized_nat ok
  have hi : (((y * W + x).toNat : Nat) : Int) = y * W + x := by omega
  have hg : l.getD (y * W + x).toNat false = true := by rw [← hb]; simp [isF, hx, hy]
  have hlt : (y * W + x).toNat < l.length := by omega
  rw [← nbI_at hW.1 hx' hi]
  subst ha; subst hb'
  exact ⟨_, hi, hlt, hg, take_F (by rw [← hn, hab]) hlt hg⟩
set_option maxRecDepth 100000 in
set_option maxHeartbeats 1000000 in
theorem ridgeSimple_walk (W H x y : Int) (A : Option Addr) (l : List Bool) (n c : Nat) (w : World) (hr : Rd w A (bools l)) (hn : n = l.length) :
    Calls Try.prog 14 #[.agg #[.int .i64 W, .int .i64 H, .slice A n c], .int .i64 x, .int .i64 y] w fun e w' => e = .returned (.bool true) ∧ Below w.heap.size w w' := by
  have S0 := Lib.hid ((Own.start w).new 34 #[.int .i64 W, .int .i64 H, .slice A n c])
  have HF := Lib.hid (fun W1 (h : Below w.heap.size w W1) => hr.below h)
  have K33 := fun W1 h => Turns_any W H x y A l n c W1 h hn
  by_cases ha : askedF W H n x y = 0
  case neg => as_aux_lemma =>
    rcases asked_no ha with h | h
    all_goals
      rw [h, if_neg (by decide)] at K33
      replace K33 := Lib.hid K33
      clear hr hn ha h
      go_enter Try.func14, Try.ntmps14
      go_wp2_with fail
      refine (alive_any _).mono ?_
      rintro e w1 ⟨rfl, hb1⟩
      have S1 := Lib.hid (S0.out.ext hb1)
      clear hb1 S0
      obtain ⟨t0_0, t0_1, t0_2, _⟩ := (S1.out.bx 0 rfl).c3
      have lt0 := (S1.out.bx 0 rfl).2.2
      go_wp2_with fail
      refine (K33.out _ (HF.out _ S1.out.bel)).mono ?_
      rintro e w2 ⟨rfl, hb2⟩
      have S2 := Lib.hid (S1.out.ext hb2)
      clear hb2 S1 t0_0 t0_1 t0_2 lt0
      go_wp2_with fail
      go_ret
      exact ⟨rfl, S2.out.bel⟩
  obtain ⟨ok, hx, hy⟩ := asked_ok ha
  rw [ha, if_pos rfl] at K33
  have K46 := fun W1 h => refIs_any W H x y A l n c W1 ok h hn
  cases hb : isF W H l x y
  · as_aux_lemma =>
    rw [hb] at K46
    replace K33 := Lib.hid K33
    replace K46 := Lib.hid K46
    clear hr hn ha hx hy hb ok
    go_enter Try.func14, Try.ntmps14
    go_wp2_with fail
    refine (alive_any _).mono ?_
    rintro e w1 ⟨rfl, hb1⟩
    have S1 := Lib.hid (S0.out.ext hb1)
    clear hb1 S0
    obtain ⟨t0_0, t0_1, t0_2, _⟩ := (S1.out.bx 0 rfl).c3
    have lt0 := (S1.out.bx 0 rfl).2.2
    go_wp2_with fail
    refine (K33.out _ (HF.out _ S1.out.bel)).mono ?_
    rintro e w2 ⟨rfl, hb2⟩
    have S2 := Lib.hid (S1.out.ext hb2)
    clear hb2 S1 t0_0 t0_1 t0_2 lt0
    obtain ⟨t0_0, t0_1, t0_2, _⟩ := (S2.out.bx 0 rfl).c3
    have lt0 := (S2.out.bx 0 rfl).2.2
    go_wp2_with fail
    refine (K46.out _ (HF.out _ S2.out.bel)).mono ?_
    rintro e w3 ⟨rfl, hb3⟩
    have S3 := Lib.hid (S2.out.ext hb3)
    clear hb3 S2 t0_0 t0_1 t0_2 lt0
    go_wp2_with fail
    go_ret
    exact ⟨rfl, S3.out.bel⟩
  have K45 := fun W1 h => aroundN_any W H x y A l n c W1 ok h hn (by obtain ⟨hW, _⟩ := valid_bd ok; simp [inB] at hx; omega) (by obtain ⟨_, hH, _⟩ := valid_bd ok; simp [inB] at hy; omega)
  have K28 := Lib.hid (fun W1 h => twin_any W H A l n c W1 h hn (by obtain ⟨a, b, _, _, h1, _, _, h2, h3⟩ := sized_nat ok; have : a * b ≤ 20 * 20 := Nat.mul_le_mul h2 h3; omega))
  have K29 := fun W1 h => parts_ok W H A l n c W1 ok h hn
  obtain ⟨i, hi, hil, hg, f1, f2, f3, f4⟩ := take_int ok hn hx hy hb
  have K29' := fun A1 c1 W1 h => parts_ok W H A1 (l.set i false) n c1 W1 ok h (by rw [List.length_set]; exact hn)
  obtain ⟨b1, b2, b3, b4⟩ := parts_bd ok l
  obtain ⟨b5, b6, b7, b8⟩ := parts_bd ok (l.set i false)
  have t4 := turnsN_le (nbF W H l x y) 4
  rw [hb] at K46
  obtain ⟨hW, hH, hnn⟩ := valid_bd ok
  obtain ⟨p1, p2, p3, p4⟩ := place_lt hnn (by simpa [inB] using hx) (by simpa [inB] using hy)
  have hn4 : n ≤ 400 := by
    have b2 : W * H ≤ 20 * 20 := Int.mul_le_mul hW.2 hH.2 (by omega) (by omega)
    omega
  have e1 : IntKind.i64.wrap (y * W) = y * W := IntWalk.i64_in _ (by omega)
  have hin : i < n := by omega
  have hkn : (i : Int) < (n : Int) := by omega
  have e2 : IntKind.i64.wrap (y * W + x) = (i : Int) := by rw [← hi]; exact IntWalk.i64_in _ (by omega)
  replace K46 := Lib.hid K46
  generalize turnsN (nbF W H l x y) 4 = t at *
  generalize cntN (nbF W H l x y) 8 = a at *
  generalize ridgesF W H (l.set i false) = R' at *
  generalize lakesF W H (l.set i false) = K' at *
  generalize ridgesF W H l = R at *
  generalize lakesF W H l = K at *
  have HSL := Lib.hid (bools_set l i false)
  have hgl : l[i]? = some true := by rw [List.getD_eq_getElem?_getD, List.getElem?_eq_getElem hil] at hg; rw [List.getElem?_eq_getElem hil]; simpa using hg
  have HG := Lib.hid (show (bools l)[i]? = some (.bool true) by unfold bools; rw [List.getElem?_map, hgl]; rfl)
  clear hr ha hx hy hb ok hW hH hnn p1 p2 p3 p4 hg hgl hil
  by_cases c1 : t = 1
  case pos => as_aux_lemma =>
    subst c1
    obtain rfl : R' = R := f2 (by omega) (f4 rfl)
    obtain rfl : K' = K := by omega
    replace K33 := Lib.hid K33
    replace K29 := Lib.hid K29
    replace K29' := Lib.hid K29'
    replace K45 := Lib.hid K45
    have HI := Lib.hid hi
    have HN := Lib.hid hn
    clear f1 f2 f3 f4 hi b1 b2 b3 b4 b5 b6 b7 b8 t4 hn
    go_enter Try.func14, Try.ntmps14
    go_wp2_with fail
    refine (alive_any _).mono ?_
    rintro e w1 ⟨rfl, hb1⟩
    have S1 := Lib.hid (S0.out.ext hb1)
    clear hb1 S0
    obtain ⟨t0_0, t0_1, t0_2, _⟩ := (S1.out.bx 0 rfl).c3
    have lt0 := (S1.out.bx 0 rfl).2.2
    go_wp2_with fail
    refine (K33.out _ (HF.out _ S1.out.bel)).mono ?_
    rintro e w2 ⟨rfl, hb2⟩
    have S2 := Lib.hid (S1.out.ext hb2)
    clear hb2 S1 t0_0 t0_1 t0_2 lt0
    obtain ⟨t0_0, t0_1, t0_2, _⟩ := (S2.out.bx 0 rfl).c3
    have lt0 := (S2.out.bx 0 rfl).2.2
    go_wp2_with fail
    refine (K46.out _ (HF.out _ S2.out.bel)).mono ?_
    rintro e w3 ⟨rfl, hb3⟩
    have S3 := Lib.hid (S2.out.ext hb3)
    clear hb3 S2 t0_0 t0_1 t0_2 lt0
    obtain ⟨t0_0, t0_1, t0_2, _⟩ := (S3.out.bx 0 rfl).c3
    have lt0 := (S3.out.bx 0 rfl).2.2
    go_wp2_with fail
    refine (K28.out _ (HF.out _ S3.out.bel)).mono ?_
    rintro e w4 ⟨A1, c1, rfl, hO4⟩
    have S4 := Lib.hid ((S3.out.call hO4).cast (qs := [row 4 1 (.slice A1 n c1) n (bools l), box w.heap.size 34 [.int .i64 W, .int .i64 H, .slice A n c]]) rfl)
    clear hO4 S3 t0_0 t0_1 t0_2 lt0
    go_upto_region 6 with fail
    have S5 := Lib.hid ((S4.out.new' 34 #[.int .i64 W, .int .i64 H, .slice A1 n c1] (B := w4.heap.size) rfl).cast (qs := [box w4.heap.size 34 [.int .i64 W, .int .i64 H, .slice A1 n c1], row 4 1 (.slice A1 n c1) n (bools l), box w.heap.size 34 [.int .i64 W, .int .i64 H, .slice A n c]]) rfl)
    generalize w4.alloc (.cells #[.int .i64 W, .int .i64 H, .slice A1 n c1] 34) = w5 at *
    generalize w4.heap.size = B1 at *
    clear S4
    obtain ⟨g, rfl⟩ := S5.out.rowAddr 1 rfl (by omega)
    have cg := S5.out.rowAt 1 rfl HG.out
    have lg := (S5.out.rowLt 1 rfl).1
    have fg := (S5.out.rowLt 1 rfl).2
    obtain ⟨t0_0, t0_1, t0_2, _⟩ := (S5.out.bx 0 rfl).c3
    have lt0 := (S5.out.bx 0 rfl).2.2
    obtain ⟨t2_0, t2_1, t2_2, _⟩ := (S5.out.bx 2 rfl).c3
    have lt2 := (S5.out.bx 2 rfl).2.2
    go_upto_region 7 with fail
    have S9 := Lib.hid ((S5.out.setRow 1 rfl i (.bool false)).cast (qs := [box B1 34 [.int .i64 W, .int .i64 H, .slice (some ⟨g, 0, none⟩) n c1], row 4 1 (.slice (some ⟨g, 0, none⟩) n c1) n (bools (l.set i false)), box w.heap.size 34 [.int .i64 W, .int .i64 H, .slice A n c]]) (by rw [← HSL.out]; rfl))
    generalize w5.setCell _ _ = w9 at *
    clear S5 t0_0 t0_1 t0_2 lt0 t2_0 t2_1 t2_2 lt2 cg lg fg
    obtain ⟨t2_0, t2_1, t2_2, _⟩ := (S9.out.bx 2 rfl).c3
    have lt2 := (S9.out.bx 2 rfl).2.2
    go_wp2_with fail
    refine (K29.out _ (HF.out _ S9.out.bel)).mono ?_
    rintro e w10 ⟨rfl, hb10⟩
    have S10 := Lib.hid (S9.out.ext hb10)
    clear hb10 S9 t2_0 t2_1 t2_2 lt2
    obtain ⟨t0_0, t0_1, t0_2, _⟩ := (S10.out.bx 0 rfl).c3
    have lt0 := (S10.out.bx 0 rfl).2.2
    go_wp2_with fail
    refine (K29'.out _ c1 _ (S10.out.rd 1 rfl)).mono ?_
    rintro e w11 ⟨rfl, hb11⟩
    have S11 := Lib.hid (S10.out.ext hb11)
    clear hb11 S10 t0_0 t0_1 t0_2 lt0
    go_wp2_with fail
    go_ret
    exact ⟨rfl, S11.out.bel⟩
  have c1b : (((t : Nat) : Int) == 1) = false := by simp; omega
  have c1c : (((t : Nat) : Int) != 1) = true := by simp; omega
  by_cases c2 : a = 0
  case pos => as_aux_lemma =>
    subst c2
    obtain ⟨g1, g2⟩ := f3 rfl
    subst g2
    subst g1
    obtain rfl : K' = K := by omega
    replace K33 := Lib.hid K33
    replace K29 := Lib.hid K29
    replace K29' := Lib.hid K29'
    replace K45 := Lib.hid K45
    have HI := Lib.hid hi
    have HN := Lib.hid hn
    clear f1 f2 f3 f4 hi t4 c1 hn
    go_enter Try.func14, Try.ntmps14
    go_wp2_with fail
    refine (alive_any _).mono ?_
    rintro e w1 ⟨rfl, hb1⟩
    have S1 := Lib.hid (S0.out.ext hb1)
    clear hb1 S0
    obtain ⟨t0_0, t0_1, t0_2, _⟩ := (S1.out.bx 0 rfl).c3
    have lt0 := (S1.out.bx 0 rfl).2.2
    go_wp2_with fail
    refine (K33.out _ (HF.out _ S1.out.bel)).mono ?_
    rintro e w2 ⟨rfl, hb2⟩
    have S2 := Lib.hid (S1.out.ext hb2)
    clear hb2 S1 t0_0 t0_1 t0_2 lt0
    obtain ⟨t0_0, t0_1, t0_2, _⟩ := (S2.out.bx 0 rfl).c3
    have lt0 := (S2.out.bx 0 rfl).2.2
    go_wp2_with fail
    refine (K46.out _ (HF.out _ S2.out.bel)).mono ?_
    rintro e w3 ⟨rfl, hb3⟩
    have S3 := Lib.hid (S2.out.ext hb3)
    clear hb3 S2 t0_0 t0_1 t0_2 lt0
    obtain ⟨t0_0, t0_1, t0_2, _⟩ := (S3.out.bx 0 rfl).c3
    have lt0 := (S3.out.bx 0 rfl).2.2
    go_wp2_with fail
    refine (K28.out _ (HF.out _ S3.out.bel)).mono ?_
    rintro e w4 ⟨A1, c1, rfl, hO4⟩
    have S4 := Lib.hid ((S3.out.call hO4).cast (qs := [row 4 1 (.slice A1 n c1) n (bools l), box w.heap.size 34 [.int .i64 W, .int .i64 H, .slice A n c]]) rfl)
    clear hO4 S3 t0_0 t0_1 t0_2 lt0
    go_upto_region 6 with fail
    have S5 := Lib.hid ((S4.out.new' 34 #[.int .i64 W, .int .i64 H, .slice A1 n c1] (B := w4.heap.size) rfl).cast (qs := [box w4.heap.size 34 [.int .i64 W, .int .i64 H, .slice A1 n c1], row 4 1 (.slice A1 n c1) n (bools l), box w.heap.size 34 [.int .i64 W, .int .i64 H, .slice A n c]]) rfl)
    generalize w4.alloc (.cells #[.int .i64 W, .int .i64 H, .slice A1 n c1] 34) = w5 at *
    generalize w4.heap.size = B1 at *
    clear S4
    obtain ⟨g, rfl⟩ := S5.out.rowAddr 1 rfl (by omega)
    have cg := S5.out.rowAt 1 rfl HG.out
    have lg := (S5.out.rowLt 1 rfl).1
    have fg := (S5.out.rowLt 1 rfl).2
    obtain ⟨t0_0, t0_1, t0_2, _⟩ := (S5.out.bx 0 rfl).c3
    have lt0 := (S5.out.bx 0 rfl).2.2
    obtain ⟨t2_0, t2_1, t2_2, _⟩ := (S5.out.bx 2 rfl).c3
    have lt2 := (S5.out.bx 2 rfl).2.2
    go_upto_region 7 with fail
    have S9 := Lib.hid ((S5.out.setRow 1 rfl i (.bool false)).cast (qs := [box B1 34 [.int .i64 W, .int .i64 H, .slice (some ⟨g, 0, none⟩) n c1], row 4 1 (.slice (some ⟨g, 0, none⟩) n c1) n (bools (l.set i false)), box w.heap.size 34 [.int .i64 W, .int .i64 H, .slice A n c]]) (by rw [← HSL.out]; rfl))
    generalize w5.setCell _ _ = w9 at *
    clear S5 t0_0 t0_1 t0_2 lt0 t2_0 t2_1 t2_2 lt2 cg lg fg
    obtain ⟨t2_0, t2_1, t2_2, _⟩ := (S9.out.bx 2 rfl).c3
    have lt2 := (S9.out.bx 2 rfl).2.2
    go_wp2_with fail
    refine (K29.out _ (HF.out _ S9.out.bel)).mono ?_
    rintro e w10 ⟨rfl, hb10⟩
    have S10 := Lib.hid (S9.out.ext hb10)
    clear hb10 S9 t2_0 t2_1 t2_2 lt2
    obtain ⟨t0_0, t0_1, t0_2, _⟩ := (S10.out.bx 0 rfl).c3
    have lt0 := (S10.out.bx 0 rfl).2.2
    go_wp2_with fail
    refine (K29'.out _ c1 _ (S10.out.rd 1 rfl)).mono ?_
    rintro e w11 ⟨rfl, hb11⟩
    have S11 := Lib.hid (S10.out.ext hb11)
    clear hb11 S10 t0_0 t0_1 t0_2 lt0
    obtain ⟨t2_0, t2_1, t2_2, _⟩ := (S11.out.bx 2 rfl).c3
    have lt2 := (S11.out.bx 2 rfl).2.2
    go_wp2_with fail
    refine (K45.out _ (HF.out _ S11.out.bel)).mono ?_
    rintro e w12 ⟨rfl, hb12⟩
    have S12 := Lib.hid (S11.out.ext hb12)
    clear hb12 S11 t2_0 t2_1 t2_2 lt2
    go_wp2_with fail
    go_ret
    exact ⟨rfl, S12.out.bel⟩
  have c2b : (((a : Nat) : Int) == 0) = false := by simp; omega
  have c2c : (((a : Nat) : Int) != 0) = true := by simp; omega
  by_cases c3 : t = 0
  case pos => as_aux_lemma =>
    subst c3
    obtain rfl : R' = R := f2 (by omega) c2
    obtain rfl : K' = K + 1 := by omega
    replace K33 := Lib.hid K33
    replace K29 := Lib.hid K29
    replace K29' := Lib.hid K29'
    replace K45 := Lib.hid K45
    have HI := Lib.hid hi
    have HN := Lib.hid hn
    clear f1 f2 f3 f4 hi t4 c1 c2 hn
    go_enter Try.func14, Try.ntmps14
    go_wp2_with fail
    refine (alive_any _).mono ?_
    rintro e w1 ⟨rfl, hb1⟩
    have S1 := Lib.hid (S0.out.ext hb1)
    clear hb1 S0
    obtain ⟨t0_0, t0_1, t0_2, _⟩ := (S1.out.bx 0 rfl).c3
    have lt0 := (S1.out.bx 0 rfl).2.2
    go_wp2_with fail
    refine (K33.out _ (HF.out _ S1.out.bel)).mono ?_
    rintro e w2 ⟨rfl, hb2⟩
    have S2 := Lib.hid (S1.out.ext hb2)
    clear hb2 S1 t0_0 t0_1 t0_2 lt0
    obtain ⟨t0_0, t0_1, t0_2, _⟩ := (S2.out.bx 0 rfl).c3
    have lt0 := (S2.out.bx 0 rfl).2.2
    go_wp2_with fail
    refine (K46.out _ (HF.out _ S2.out.bel)).mono ?_
    rintro e w3 ⟨rfl, hb3⟩
    have S3 := Lib.hid (S2.out.ext hb3)
    clear hb3 S2 t0_0 t0_1 t0_2 lt0
    obtain ⟨t0_0, t0_1, t0_2, _⟩ := (S3.out.bx 0 rfl).c3
    have lt0 := (S3.out.bx 0 rfl).2.2
    go_wp2_with fail
    refine (K28.out _ (HF.out _ S3.out.bel)).mono ?_
    rintro e w4 ⟨A1, c1, rfl, hO4⟩
    have S4 := Lib.hid ((S3.out.call hO4).cast (qs := [row 4 1 (.slice A1 n c1) n (bools l), box w.heap.size 34 [.int .i64 W, .int .i64 H, .slice A n c]]) rfl)
    clear hO4 S3 t0_0 t0_1 t0_2 lt0
    go_upto_region 6 with fail
    have S5 := Lib.hid ((S4.out.new' 34 #[.int .i64 W, .int .i64 H, .slice A1 n c1] (B := w4.heap.size) rfl).cast (qs := [box w4.heap.size 34 [.int .i64 W, .int .i64 H, .slice A1 n c1], row 4 1 (.slice A1 n c1) n (bools l), box w.heap.size 34 [.int .i64 W, .int .i64 H, .slice A n c]]) rfl)
    generalize w4.alloc (.cells #[.int .i64 W, .int .i64 H, .slice A1 n c1] 34) = w5 at *
    generalize w4.heap.size = B1 at *
    clear S4
    obtain ⟨g, rfl⟩ := S5.out.rowAddr 1 rfl (by omega)
    have cg := S5.out.rowAt 1 rfl HG.out
    have lg := (S5.out.rowLt 1 rfl).1
    have fg := (S5.out.rowLt 1 rfl).2
    obtain ⟨t0_0, t0_1, t0_2, _⟩ := (S5.out.bx 0 rfl).c3
    have lt0 := (S5.out.bx 0 rfl).2.2
    obtain ⟨t2_0, t2_1, t2_2, _⟩ := (S5.out.bx 2 rfl).c3
    have lt2 := (S5.out.bx 2 rfl).2.2
    go_upto_region 7 with fail
    have S9 := Lib.hid ((S5.out.setRow 1 rfl i (.bool false)).cast (qs := [box B1 34 [.int .i64 W, .int .i64 H, .slice (some ⟨g, 0, none⟩) n c1], row 4 1 (.slice (some ⟨g, 0, none⟩) n c1) n (bools (l.set i false)), box w.heap.size 34 [.int .i64 W, .int .i64 H, .slice A n c]]) (by rw [← HSL.out]; rfl))
    generalize w5.setCell _ _ = w9 at *
    clear S5 t0_0 t0_1 t0_2 lt0 t2_0 t2_1 t2_2 lt2 cg lg fg
    obtain ⟨t2_0, t2_1, t2_2, _⟩ := (S9.out.bx 2 rfl).c3
    have lt2 := (S9.out.bx 2 rfl).2.2
    go_wp2_with fail
    refine (K29.out _ (HF.out _ S9.out.bel)).mono ?_
    rintro e w10 ⟨rfl, hb10⟩
    have S10 := Lib.hid (S9.out.ext hb10)
    clear hb10 S9 t2_0 t2_1 t2_2 lt2
    obtain ⟨t0_0, t0_1, t0_2, _⟩ := (S10.out.bx 0 rfl).c3
    have lt0 := (S10.out.bx 0 rfl).2.2
    go_wp2_with fail
    refine (K29'.out _ c1 _ (S10.out.rd 1 rfl)).mono ?_
    rintro e w11 ⟨rfl, hb11⟩
    have S11 := Lib.hid (S10.out.ext hb11)
    clear hb11 S10 t0_0 t0_1 t0_2 lt0
    obtain ⟨t2_0, t2_1, t2_2, _⟩ := (S11.out.bx 2 rfl).c3
    have lt2 := (S11.out.bx 2 rfl).2.2
    go_wp2_with fail
    refine (K45.out _ (HF.out _ S11.out.bel)).mono ?_
    rintro e w12 ⟨rfl, hb12⟩
    have S12 := Lib.hid (S11.out.ext hb12)
    clear hb12 S11 t2_0 t2_1 t2_2 lt2
    go_wp2_with fail
    go_ret
    exact ⟨rfl, S12.out.bel⟩
  as_aux_lemma =>
    have c3b : (((t : Nat) : Int) == 0) = false := by simp; omega
    have c3c : (((t : Nat) : Int) != 0) = true := by simp; omega
    obtain ⟨D, hD⟩ : ∃ D : Int, D = R' - K' := ⟨_, rfl⟩
    obtain ⟨E, hE⟩ : ∃ E : Int, E = R - K := ⟨_, rfl⟩
    obtain ⟨F, hF⟩ : ∃ F : Int, F = E + (t : Int) := ⟨_, rfl⟩
    have d1 : IntKind.i64.wrap (R' - K') = D := by rw [hD]; exact IntWalk.i64_in _ (by omega)
    have d2 : IntKind.i64.wrap (R - K) = E := by rw [hE]; exact IntWalk.i64_in _ (by omega)
    have d3 : IntKind.i64.wrap (E + (t : Int)) = F := by rw [hF]; exact IntWalk.i64_in _ (by omega)
    have d4 : IntKind.i64.wrap (F - 1) = D := by rw [IntWalk.i64_in _ (by omega)]; omega
    clear hD hE hF
    replace K33 := Lib.hid K33
    replace K29 := Lib.hid K29
    replace K29' := Lib.hid K29'
    replace K45 := Lib.hid K45
    have HI := Lib.hid hi
    have HN := Lib.hid hn
    clear f1 f2 f3 f4 hi t4 c1 c2 c3 b1 b2 b3 b4 b5 b6 b7 b8 hn
    go_enter Try.func14, Try.ntmps14
    go_wp2_with fail
    refine (alive_any _).mono ?_
    rintro e w1 ⟨rfl, hb1⟩
    have S1 := Lib.hid (S0.out.ext hb1)
    clear hb1 S0
    obtain ⟨t0_0, t0_1, t0_2, _⟩ := (S1.out.bx 0 rfl).c3
    have lt0 := (S1.out.bx 0 rfl).2.2
    go_wp2_with fail
    refine (K33.out _ (HF.out _ S1.out.bel)).mono ?_
    rintro e w2 ⟨rfl, hb2⟩
    have S2 := Lib.hid (S1.out.ext hb2)
    clear hb2 S1 t0_0 t0_1 t0_2 lt0
    obtain ⟨t0_0, t0_1, t0_2, _⟩ := (S2.out.bx 0 rfl).c3
    have lt0 := (S2.out.bx 0 rfl).2.2
    go_wp2_with fail
    refine (K46.out _ (HF.out _ S2.out.bel)).mono ?_
    rintro e w3 ⟨rfl, hb3⟩
    have S3 := Lib.hid (S2.out.ext hb3)
    clear hb3 S2 t0_0 t0_1 t0_2 lt0
    obtain ⟨t0_0, t0_1, t0_2, _⟩ := (S3.out.bx 0 rfl).c3
    have lt0 := (S3.out.bx 0 rfl).2.2
    go_wp2_with fail
    refine (K28.out _ (HF.out _ S3.out.bel)).mono ?_
    rintro e w4 ⟨A1, c1, rfl, hO4⟩
    have S4 := Lib.hid ((S3.out.call hO4).cast (qs := [row 4 1 (.slice A1 n c1) n (bools l), box w.heap.size 34 [.int .i64 W, .int .i64 H, .slice A n c]]) rfl)
    clear hO4 S3 t0_0 t0_1 t0_2 lt0
    go_upto_region 6 with fail
    have S5 := Lib.hid ((S4.out.new' 34 #[.int .i64 W, .int .i64 H, .slice A1 n c1] (B := w4.heap.size) rfl).cast (qs := [box w4.heap.size 34 [.int .i64 W, .int .i64 H, .slice A1 n c1], row 4 1 (.slice A1 n c1) n (bools l), box w.heap.size 34 [.int .i64 W, .int .i64 H, .slice A n c]]) rfl)
    generalize w4.alloc (.cells #[.int .i64 W, .int .i64 H, .slice A1 n c1] 34) = w5 at *
    generalize w4.heap.size = B1 at *
    clear S4
    obtain ⟨g, rfl⟩ := S5.out.rowAddr 1 rfl (by omega)
    have cg := S5.out.rowAt 1 rfl HG.out
    have lg := (S5.out.rowLt 1 rfl).1
    have fg := (S5.out.rowLt 1 rfl).2
    obtain ⟨t0_0, t0_1, t0_2, _⟩ := (S5.out.bx 0 rfl).c3
    have lt0 := (S5.out.bx 0 rfl).2.2
    obtain ⟨t2_0, t2_1, t2_2, _⟩ := (S5.out.bx 2 rfl).c3
    have lt2 := (S5.out.bx 2 rfl).2.2
    go_upto_region 7 with fail
    have S9 := Lib.hid ((S5.out.setRow 1 rfl i (.bool false)).cast (qs := [box B1 34 [.int .i64 W, .int .i64 H, .slice (some ⟨g, 0, none⟩) n c1], row 4 1 (.slice (some ⟨g, 0, none⟩) n c1) n (bools (l.set i false)), box w.heap.size 34 [.int .i64 W, .int .i64 H, .slice A n c]]) (by rw [← HSL.out]; rfl))
    generalize w5.setCell _ _ = w9 at *
    clear S5 t0_0 t0_1 t0_2 lt0 t2_0 t2_1 t2_2 lt2 cg lg fg
    obtain ⟨t2_0, t2_1, t2_2, _⟩ := (S9.out.bx 2 rfl).c3
    have lt2 := (S9.out.bx 2 rfl).2.2
    go_wp2_with fail
    refine (K29.out _ (HF.out _ S9.out.bel)).mono ?_
    rintro e w10 ⟨rfl, hb10⟩
    have S10 := Lib.hid (S9.out.ext hb10)
    clear hb10 S9 t2_0 t2_1 t2_2 lt2
    obtain ⟨t0_0, t0_1, t0_2, _⟩ := (S10.out.bx 0 rfl).c3
    have lt0 := (S10.out.bx 0 rfl).2.2
    go_wp2_with fail
    refine (K29'.out _ c1 _ (S10.out.rd 1 rfl)).mono ?_
    rintro e w11 ⟨rfl, hb11⟩
    have S11 := Lib.hid (S10.out.ext hb11)
    clear hb11 S10 t0_0 t0_1 t0_2 lt0
    obtain ⟨t2_0, t2_1, t2_2, _⟩ := (S11.out.bx 2 rfl).c3
    have lt2 := (S11.out.bx 2 rfl).2.2
    go_wp2_with fail
    refine (K45.out _ (HF.out _ S11.out.bel)).mono ?_
    rintro e w12 ⟨rfl, hb12⟩
    have S12 := Lib.hid (S11.out.ext hb12)
    clear hb12 S11 t2_0 t2_1 t2_2 lt2
    go_wp2_with fail
    go_ret
    exact ⟨rfl, S12.out.bel⟩
end Go.Proofs.Ytjelnbfnoliocaa
