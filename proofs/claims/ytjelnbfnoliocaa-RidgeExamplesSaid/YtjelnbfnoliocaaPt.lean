/- Ridge: thinning, of the reference. No condition. -/
import Derived.Test.YtjelnbfnoliocaaPs
import Derived.Test.YtjelnbfnoliocaaPe
import Derived.Test.YtjelnbfnoliocaaPn
namespace Go.Proofs.Ytjelnbfnoliocaa
open Go.RowKit

theorem turnsN_congr {r s : Nat → Bool} (h : ∀ d, r d = s d) (j : Nat) : turnsN r j = turnsN s j := by
  have : r = s := funext h
  rw [this]
set_option maxHeartbeats 1000000 in
theorem aroundN_any (W H x y : Int) (A : Option Addr) (l : List Bool) (n c : Nat) (w : World) (hv : sized1B W H n = true) (hr : Rd w A (bools l)) (hn : n = l.length) (hx : -1 ≤ x ∧ x ≤ 20) (hy : -1 ≤ y ∧ y ≤ 20) :
    Calls Try.prog 45 #[.agg #[.int .i64 W, .int .i64 H, .slice A n c], .int .i64 x, .int .i64 y] w fun e w' => e = .returned (.int .i64 (cntN (nbF W H l x y) 8 : Nat)) ∧ Below w.heap.size w w' := by
  have HC := Lib.hid (fun (j : Nat) (hj : j ≤ 20) W1 (h : Below w.heap.size w W1) => near_any W H x y j j A l n c W1 hv (hr.below h) hn hx hy rfl hj)
  have S0 := Lib.hid ((Own.start w).new 34 #[.int .i64 W, .int .i64 H, .slice A n c])
  clear hv hr hn
  go_enter Try.func45, Try.ntmps45
  go_wp2_with fail
  generalize w.alloc (.cells #[.int .i64 W, .int .i64 H, .slice A n c] 34) = W0 at *
  go_loopg [7, 8] 8 (fun k u7 u8 wr => ∃ j t : Nat, j ≤ 8 ∧ t ≤ j ∧ u7 = .int .i64 t ∧ u8 = .int .i64 j ∧ Hid (j + k = 8 ∧ t = cntN (nbF W H l x y) j ∧ Own w wr [box w.heap.size 34 [.int .i64 W, .int .i64 H, .slice A n c]]))
  case atStart => exact ⟨0, 0, by omega, by omega, rfl, rfl, by omega, rfl, S0.out⟩
  case round =>
    obtain ⟨j, t, hj, ht, rfl, rfl, hI⟩ := hrel
    have I1 := Lib.hid hI.out.1
    have I2 := Lib.hid hI.out.2.1
    have I3 := Lib.hid hI.out.2.2
    clear hI
    obtain ⟨t0, t1, t2, _⟩ := (I3.out.bx 0 rfl).c3
    have hl := (I3.out.bx 0 rfl).2.2
    by_cases hlt : j < 8
    · have HS := Lib.hid (show cntN (nbF W H l x y) (j + 1) = cntN (nbF W H l x y) j + (if nbF W H l x y j then 1 else 0) from rfl)
      have HC1 := Lib.hid (HC.out j (by omega) wr I3.out.bel)
      generalize nbF W H l x y j = b at *
      go_wp2_with fail
      refine HC1.out.mono ?_
      rintro e w1 ⟨rfl, hb1⟩
      have S1 := Lib.hid (I3.out.ext hb1)
      clear hb1 t0 t1 t2 hl
      cases b
      all_goals
        go_wp2_with fail
        go_roundg (gk - 1)
        case measure => have := I1.out; omega
        case rel => first
          | exact ⟨j + 1, t + 1, by omega, by omega, by go_num, by go_num, by have := I1.out; omega, by rw [HS.out, I2.out]; rfl, S1.out⟩
          | exact ⟨j + 1, t, by omega, by omega, rfl, by go_num, by have := I1.out; omega, by rw [HS.out, I2.out]; rfl, S1.out⟩
    · obtain rfl : j = 8 := by omega
      go_wp2_with fail
      go_ret
      exact ⟨ret_int (by rw [I2.out]), I3.out.bel⟩

/-- What Takes answers. -/
def takesF (W H : Int) (l : List Bool) (x y : Int) : Bool := isF W H l x y && ((turnsN (nbF W H l x y) 4 == 1) && (cntN (nbF W H l x y) 8 != 1))
set_option maxRecDepth 100000 in
set_option maxHeartbeats 1000000 in
theorem takes_any (W H x y : Int) (A : Option Addr) (l : List Bool) (n c : Nat) (w : World) (hv : sized1B W H n = true) (hr : Rd w A (bools l)) (hn : n = l.length) (hx : -1 ≤ x ∧ x ≤ 20) (hy : -1 ≤ y ∧ y ≤ 20) :
    Calls Try.prog 86 #[.agg #[.int .i64 W, .int .i64 H, .slice A n c], .int .i64 x, .int .i64 y] w fun e w' => e = .returned (.bool (takesF W H l x y)) ∧ Below w.heap.size w w' := by
  have C46 := Lib.hid (fun W1 (h : Below w.heap.size w W1) => refIs_any W H x y A l n c W1 hv (hr.below h) hn)
  have C66 := Lib.hid (fun W1 (h : Below w.heap.size w W1) => turned_any W H x y A l n c W1 hv (hr.below h) hn hx hy)
  have C45 := Lib.hid (fun W1 (h : Below w.heap.size w W1) => aroundN_any W H x y A l n c W1 hv (hr.below h) hn hx hy)
  have HT := Lib.hid (show takesF W H l x y = (isF W H l x y && ((turnsN (nbF W H l x y) 4 == 1) && (cntN (nbF W H l x y) 8 != 1))) from rfl)
  have b1 := turnsN_le (nbF W H l x y) 4
  have b2 := cntN_le (nbF W H l x y) 8
  generalize takesF W H l x y = R at *
  generalize isF W H l x y = b at *
  generalize turnsN (nbF W H l x y) 4 = t at *
  generalize cntN (nbF W H l x y) 8 = q at *
  have S0 := Lib.hid ((Own.start w).new 34 #[.int .i64 W, .int .i64 H, .slice A n c])
  clear hv hr hn
  obtain ⟨t0, t1, t2, _⟩ := (S0.out.bx 0 rfl).c3
  cases b
  · go_enter Try.func86, Try.ntmps86
    go_wp2_with fail
    refine (C46.out _ S0.out.bel).mono ?_
    rintro e w1 ⟨rfl, hb1⟩
    have S1 := Lib.hid (S0.out.ext hb1)
    clear hb1 t0 t1 t2
    go_wp2_with fail
    go_ret
    exact ⟨by rw [HT.out]; rfl, S1.out.bel⟩
  · by_cases ht : t = 1
    case neg =>
      have f1 : ((t : Int) == 1) = false := by simp; omega
      have HR := Lib.hid (show R = false by rw [HT.out]; simp [ht])
      clear ht
      go_enter Try.func86, Try.ntmps86
      go_wp2_with fail
      refine (C46.out _ S0.out.bel).mono ?_
      rintro e w1 ⟨rfl, hb1⟩
      have S1 := Lib.hid (S0.out.ext hb1)
      clear hb1 t0 t1 t2
      obtain ⟨t0, t1, t2, _⟩ := (S1.out.bx 0 rfl).c3
      go_wp2_with fail
      refine (C66.out _ S1.out.bel).mono ?_
      rintro e w2 ⟨rfl, hb1⟩
      have S2 := Lib.hid (S1.out.ext hb1)
      clear hb1 t0 t1 t2
      go_wp2_with fail
      go_ret
      exact ⟨by rw [HR.out]; rfl, S2.out.bel⟩
    · subst ht
      by_cases hq : q = 1
      · subst hq
        have HR := Lib.hid (show R = false by rw [HT.out]; rfl)
        go_enter Try.func86, Try.ntmps86
        go_wp2_with fail
        refine (C46.out _ S0.out.bel).mono ?_
        rintro e w1 ⟨rfl, hb1⟩
        have S1 := Lib.hid (S0.out.ext hb1)
        clear hb1 t0 t1 t2
        obtain ⟨t0, t1, t2, _⟩ := (S1.out.bx 0 rfl).c3
        go_wp2_with fail
        refine (C66.out _ S1.out.bel).mono ?_
        rintro e w2 ⟨rfl, hb1⟩
        have S2 := Lib.hid (S1.out.ext hb1)
        clear hb1 t0 t1 t2
        obtain ⟨t0, t1, t2, _⟩ := (S2.out.bx 0 rfl).c3
        go_wp2_with fail
        refine (C45.out _ S2.out.bel).mono ?_
        rintro e w3 ⟨rfl, hb1⟩
        have S3 := Lib.hid (S2.out.ext hb1)
        clear hb1 t0 t1 t2
        go_wp2_with fail
        go_ret
        exact ⟨by rw [HR.out]; rfl, S3.out.bel⟩
      · have f1 : ((q : Int) != 1) = true := by simp; omega
        have f2 : ((q : Int) == 1) = false := by simp; omega
        have HR := Lib.hid (show R = true by rw [HT.out]; simp [hq])
        clear hq
        go_enter Try.func86, Try.ntmps86
        go_wp2_with fail
        refine (C46.out _ S0.out.bel).mono ?_
        rintro e w1 ⟨rfl, hb1⟩
        have S1 := Lib.hid (S0.out.ext hb1)
        clear hb1 t0 t1 t2
        obtain ⟨t0, t1, t2, _⟩ := (S1.out.bx 0 rfl).c3
        go_wp2_with fail
        refine (C66.out _ S1.out.bel).mono ?_
        rintro e w2 ⟨rfl, hb1⟩
        have S2 := Lib.hid (S1.out.ext hb1)
        clear hb1 t0 t1 t2
        obtain ⟨t0, t1, t2, _⟩ := (S2.out.bx 0 rfl).c3
        go_wp2_with fail
        refine (C45.out _ S2.out.bel).mono ?_
        rintro e w3 ⟨rfl, hb1⟩
        have S3 := Lib.hid (S2.out.ext hb1)
        clear hb1 t0 t1 t2
        go_wp2_with fail
        go_ret
        exact ⟨by rw [HR.out]; rfl, S3.out.bel⟩

theorem plc_in {W H : Int} {i n : Nat} (hW : 1 ≤ W ∧ W ≤ 20) (_ : 1 ≤ H ∧ H ≤ 20) (hn : (n : Int) = W * H) (hi : i < n) : Plc W H (plc W i) ∧ (i : Int) / W * W + (i : Int) % W = i := by
  have hd : (i : Int) / W < H := Int.ediv_lt_of_lt_mul (by omega) (by rw [Int.mul_comm]; omega)
  refine ⟨⟨⟨Int.emod_nonneg _ (by omega), by have := Int.emod_lt_of_pos (i : Int) (show 0 < W by omega); unfold plc; simp only; omega⟩, Int.ediv_nonneg (by omega) (by omega), by unfold plc; simp only; omega⟩, ?_⟩
  have := Int.mul_ediv_add_emod (i : Int) W
  rw [Int.mul_comm] at this
  exact this
theorem isF_at {W H : Int} {l : List Bool} {i n : Nat} (hW : 1 ≤ W ∧ W ≤ 20) (hH : 1 ≤ H ∧ H ≤ 20) (hn : (n : Int) = W * H) (hi : i < n) : isF W H l (plc W i).1 (plc W i).2 = l.getD i false := by
  obtain ⟨⟨h1, h2⟩, h3⟩ := plc_in hW hH hn hi
  have a : inB 0 (W - 1) (plc W i).1 = true := by simp [inB, h1]
  have b : inB 0 (H - 1) (plc W i).2 = true := by simp [inB, h2]
  have e : (plc W i).2 * W + (plc W i).1 = (i : Int) := h3
  unfold isF
  rw [a, b, e]
  rfl
theorem takesF_at {W H : Int} {l : List Bool} {i n : Nat} (hW : 1 ≤ W ∧ W ≤ 20) (hH : 1 ≤ H ∧ H ≤ 20) (hn : (n : Int) = W * H) (hi : i < n) : takesF W H l (plc W i).1 (plc W i).2 = (l.getD i false && simpleB W H l i) := by
  unfold takesF
  rw [isF_at hW hH hn hi]
  rfl
/-- Whether a pass takes a pixel. -/
theorem pass_take {W H : Int} {l : List Bool} {d i : Nat} : (l.getD i false && !nbI W H l i d && ((passN W H l d i).getD i false && simpleB W H (passN W H l d i) i)) = (wantB W H l d i && simpleB W H (passN W H l d i) i) := by
  rw [passN_at (Nat.le_refl _)]
  unfold wantB
  cases l.getD i false <;> simp
def PassPost (W H : Int) (n : Nat) (l : List Bool) (w : World) (e : Ending) (w' : World) : Prop :=
  ∃ A c, e = .returned (.agg #[.int .i64 W, .int .i64 H, .slice A n c]) ∧ Own w w' [row 4 1 (.slice A n c) n (bools l)]
set_option maxRecDepth 100000 in
set_option maxHeartbeats 4000000 in
theorem passed_any (W H : Int) (d : Nat) (A : Option Addr) (l : List Bool) (n c : Nat) (w : World) (hv : sized1B W H n = true) (hr : Rd w A (bools l)) (hn : n = l.length) (hd : d ≤ 20) :
    Calls Try.prog 84 #[.agg #[.int .i64 W, .int .i64 H, .slice A n c], .int .i64 (d : Int)] w (PassPost W H n (passF W H l d) w) := by
  obtain ⟨hW, hH, hWH⟩ := valid_bd hv
  have hWHb : W * H ≤ 20 * 20 := Int.mul_le_mul (by omega) (by omega) (by omega) (by omega)
  have hn400 : n ≤ 400 := by omega
  have hn1 : 1 ≤ n := by
    have : 1 * 1 ≤ W * H := Int.mul_le_mul (by omega) (by omega) (by omega) (by omega)
    omega
  obtain ⟨b0, off, rfl, hb0, hc0⟩ := hr.at_ (bools_get (show 0 < l.length by omega))
  have HC0 := Lib.hid (fun W1 (h : Below w.heap.size w W1) j (hj : j < l.length) => (h.cell (p := ⟨b0, off + j, none⟩) hb0).trans (hc0 j _ (bools_get hj)))
  have hbw : ∀ W1, Below w.heap.size w W1 → b0 < W1.heap.size := fun W1 h => by have := h.size; omega
  have HBW := Lib.hid hbw
  have C48 := Lib.hid (fun (x y : Int) W1 (h : Below w.heap.size w W1) h1 h2 => near_any W H x y d d (some ⟨b0, off, none⟩) l n c W1 hv (hr.below h) hn h1 h2 rfl hd)
  have C86 := Lib.hid (fun (x y : Int) A1 T c1 W1 (h : Rd W1 A1 (bools T)) h0 h1 h2 => takes_any W H x y A1 T n c1 W1 hv h h0 h1 h2)
  have CT := Lib.hid (fun W1 (h : Below w.heap.size w W1) => twin_any W H (some ⟨b0, off, none⟩) l n c W1 (hr.below h) hn (by omega))
  have HN := Lib.hid hn
  have HWH := Lib.hid hWH
  have S0 := Lib.hid (((Own.start w).new 34 #[.int .i64 W, .int .i64 H, .slice (some ⟨b0, off, none⟩) n c]).new' 34 #[.int .i64 0, .int .i64 0, .slice none 0 0] (B := w.heap.size + 1) (by simp))
  obtain ⟨t0, t1, t2, _⟩ := (S0.out.bx 1 rfl).c3
  clear hv hr hn hd hWH hWHb hc0 hb0 hbw
  go_enter Try.func84, Try.ntmps84
  go_wp2_with fail
  refine (CT.out _ S0.out.bel).mono ?_
  rintro e w1 ⟨A1, c1, rfl, hO1⟩
  have S1 := Lib.hid (S0.out.call hO1)
  obtain ⟨g, rfl⟩ := S1.out.rowAddr 0 rfl (by omega)
  clear hO1
  have t0' := (S1.out.bx 2 rfl).c3
  clear t0 t1 t2
  obtain ⟨t0, t1, t2, _⟩ := t0'
  have lt := (S1.out.bx 2 rfl).2.2
  go_upto_region 2 with fail
  have S := Lib.hid ((S1.out.new' 34 #[.int .i64 W, .int .i64 H, .slice (some ⟨g, 0, none⟩) n c1] (B := w1.heap.size) rfl).cast (qs := [box w1.heap.size 34 [.int .i64 W, .int .i64 H, .slice (some ⟨g, 0, none⟩) n c1], row 4 1 (.slice (some ⟨g, 0, none⟩) n c1) n (bools l), box (w.heap.size + 1) 34 [.int .i64 0, .int .i64 0, .slice none 0 0], box w.heap.size 34 [.int .i64 W, .int .i64 H, .slice (some ⟨b0, off, none⟩) n c]]) rfl)
  generalize w1.alloc (.cells #[.int .i64 W, .int .i64 H, .slice (some ⟨g, 0, none⟩) n c1] 34) = w2 at *
  generalize w1.heap.size = B at *
  clear S1 S0 CT t0 t1 t2 lt
  go_wp2_with fail
  go_loopg [6] n (fun k u6 wr => ∃ i : Nat, i ≤ n ∧ u6 = .int .i64 i ∧ Hid (i + k = n ∧ Own w wr [box B 34 [.int .i64 W, .int .i64 H, .slice (some ⟨g, 0, none⟩) n c1], row 4 1 (.slice (some ⟨g, 0, none⟩) n c1) n (bools (passN W H l d i)), box (w.heap.size + 1) 34 [.int .i64 0, .int .i64 0, .slice none 0 0], box w.heap.size 34 [.int .i64 W, .int .i64 H, .slice (some ⟨b0, off, none⟩) n c]]))
  case atStart => exact ⟨0, by omega, rfl, by omega, S.out⟩
  case round =>
    obtain ⟨i, hi, rfl, hI⟩ := hrel
    have I1 := Lib.hid hI.out.1
    have I2 := Lib.hid hI.out.2
    clear hI
    obtain ⟨t0, t1, t2, _⟩ := (I2.out.bx 3 rfl).c3
    have lt := (I2.out.bx 3 rfl).2.2
    by_cases hlt : i < n
    case neg =>
      obtain rfl : i = n := by omega
      obtain ⟨s0, s1, s2, _⟩ := (I2.out.bx 0 rfl).c3
      have ls := (I2.out.bx 0 rfl).2.2
      obtain ⟨r0, r1, r2, rf⟩ := (I2.out.bx 2 rfl).c3
      have lr := (I2.out.bx 2 rfl).2.2
      go_wp2_with fail
      have S3 := Lib.hid ((((I2.out.set 2 rfl 0 (.int .i64 W)).set 2 rfl 1 (.int .i64 H)).set 2 rfl 2 (.slice (some ⟨g, 0, none⟩) i c1)).sub [1] (by decide) (qs := [row 4 1 (.slice (some ⟨g, 0, none⟩) i c1) i (bools (passN W H l d i))]) rfl)
      refine bodyPost_ret (v := .agg #[.int .i64 W, .int .i64 H, .slice (some ⟨g, 0, none⟩) i c1]) (by simp [results, Try.results84, go_sem, *]) rfl ⟨some ⟨g, 0, none⟩, c1, rfl, ?_⟩
      rw [passF, ← HN.out]
      exact S3.out
    have hin : (i : Int) < (n : Int) := by omega
    obtain ⟨⟨⟨p1, p2⟩, p3, p4⟩, p5⟩ := plc_in hW hH HWH.out hlt
    simp only [plc] at p1 p2 p3 p4
    have z1 : ¬ W = 0 := by omega
    have z3 : (i : Int).tmod W = (i : Int) % W := Int.tmod_eq_emod_of_nonneg (by omega)
    have z4 : IntKind.i64.wrap ((i : Int) / W) = (i : Int) / W := IntWalk.i64_in _ (by omega)
    clear p5
    go_wp2_with fail
    have c0 := fun x : OwnOf w [box B 34 [.int .i64 W, .int .i64 H, .slice (some ⟨g, 0, none⟩) n c1], row 4 1 (.slice (some ⟨g, 0, none⟩) n c1) n (bools (passN W H l d i)), box (w.heap.size + 1) 34 [.int .i64 0, .int .i64 0, .slice none 0 0], box w.heap.size 34 [.int .i64 W, .int .i64 H, .slice (some ⟨b0, off, none⟩) n c]] => (x.bx 3 rfl).1 0 _ rfl
    have hne : Nonempty (OwnOf w [box B 34 [.int .i64 W, .int .i64 H, .slice (some ⟨g, 0, none⟩) n c1], row 4 1 (.slice (some ⟨g, 0, none⟩) n c1) n (bools (passN W H l d i)), box (w.heap.size + 1) 34 [.int .i64 0, .int .i64 0, .slice none 0 0], box w.heap.size 34 [.int .i64 W, .int .i64 H, .slice (some ⟨b0, off, none⟩) n c]]) := ⟨⟨_, I2.out⟩⟩
    refine wp_region_own I2.out (by kernel_rfl) (by kernel_rfl) ?_
    iterate 10 (go_big_quiet_step (fail))
    refine wpQuiet_nil ?_
    rintro w3 ⟨z, hz⟩
    have I3 := Lib.hid (show Own w w3 [box B 34 [.int .i64 W, .int .i64 H, .slice (some ⟨g, 0, none⟩) n c1], row 4 1 (.slice (some ⟨g, 0, none⟩) n c1) n (bools (passN W H l d i)), box (w.heap.size + 1) 34 [.int .i64 0, .int .i64 0, .slice none 0 0], box w.heap.size 34 [.int .i64 W, .int .i64 H, .slice (some ⟨b0, off, none⟩) n c]] by rw [hz]; exact z.own)
    clear hz z hne c0 z1 z3 z4 t0 t1 t2 lt I2
    have hil : i < l.length := by rw [← HN.out]; exact hlt
    obtain ⟨t0, t1, t2, _⟩ := (I3.out.bx 3 rfl).c3
    obtain ⟨s0, s1, s2, _⟩ := (I3.out.bx 0 rfl).c3
    have lt := (I3.out.bx 3 rfl).2.2
    have ls := (I3.out.bx 0 rfl).2.2
    have k0 := HC0.out w3 I3.out.bel i hil
    have lb := HBW.out w3 I3.out.bel
    have N48 := Lib.hid (fun W1 h => (show Calls Try.prog 48 #[.agg #[.int .i64 W, .int .i64 H, .slice (some ⟨b0, off, none⟩) n c], .int .i64 ((i : Int) % W), .int .i64 ((i : Int) / W), .int .i64 (d : Int)] W1 fun e w' => e = .returned (.bool (nbI W H l i d)) ∧ Below W1.heap.size W1 w' from C48.out _ _ W1 h (by omega) (by omega)))
    have N86 := Lib.hid (fun W1 (h : Own w W1 [box B 34 [.int .i64 W, .int .i64 H, .slice (some ⟨g, 0, none⟩) n c1], row 4 1 (.slice (some ⟨g, 0, none⟩) n c1) n (bools (passN W H l d i)), box (w.heap.size + 1) 34 [.int .i64 0, .int .i64 0, .slice none 0 0], box w.heap.size 34 [.int .i64 W, .int .i64 H, .slice (some ⟨b0, off, none⟩) n c]]) => (show Calls Try.prog 86 #[.agg #[.int .i64 W, .int .i64 H, .slice (some ⟨g, 0, none⟩) n c1], .int .i64 ((i : Int) % W), .int .i64 ((i : Int) / W)] W1 fun e w' => e = .returned (.bool (takesF W H (passN W H l d i) (plc W i).1 (plc W i).2)) ∧ Below W1.heap.size W1 w' from C86.out _ _ _ _ _ W1 (h.rd 1 rfl) (by rw [passN_len]; exact HN.out) (by omega) (by omega)))
    have HV := Lib.hid (show (l[i] && !nbI W H l i d && takesF W H (passN W H l d i) (plc W i).1 (plc W i).2) = (wantB W H l d i && simpleB W H (passN W H l d i) i) by
      rw [takesF_at hW hH HWH.out hlt, ← pass_take, getD_at hil])
    have HP := Lib.hid (show passN W H l d (i + 1) = takeIf (wantB W H l d i && simpleB W H (passN W H l d i) i) (passN W H l d i) i from rfl)
    generalize (wantB W H l d i && simpleB W H (passN W H l d i) i) = R at *
    generalize nbI W H l i d = bn at *
    generalize takesF W H (passN W H l d i) (plc W i).1 (plc W i).2 = bt at *
    generalize l[i] = bl at *
    clear hil
    go_upto_region 6 with fail
    go_cut [44] (fun u44 wx => u44 = .bool R ∧ Hid (Own w wx [box B 34 [.int .i64 W, .int .i64 H, .slice (some ⟨g, 0, none⟩) n c1], row 4 1 (.slice (some ⟨g, 0, none⟩) n c1) n (bools (passN W H l d i)), box (w.heap.size + 1) 34 [.int .i64 0, .int .i64 0, .slice none 0 0], box w.heap.size 34 [.int .i64 W, .int .i64 H, .slice (some ⟨b0, off, none⟩) n c]]))
    case first =>
      as_aux_lemma =>
      rcases bl with _ | _
      · go_wp2_with fail
        go_meet
        exact ⟨congrArg Value.bool HV.out, I3.out⟩
      rcases bn with _ | _
      all_goals
        go_wp2_with fail
        refine (N48.out _ I3.out.bel).mono ?_
        rintro e w4 ⟨rfl, hb4⟩
        have I4 := Lib.hid (I3.out.ext hb4)
        clear hb4 t0 t1 t2 s0 s1 s2 lt ls k0 lb
        obtain ⟨s0, s1, s2, _⟩ := (I4.out.bx 0 rfl).c3
        have ls := (I4.out.bx 0 rfl).2.2
        go_wp2_with (go_at_call 86; refine (N86.out _ I4.out).mono ?_; rintro e w5 ⟨rfl, hb5⟩)
        go_meet
        first
          | exact ⟨congrArg Value.bool HV.out, I4.out⟩
          | exact ⟨congrArg Value.bool HV.out, I4.out.ext hb5⟩
    case rest =>
      obtain ⟨rfl, hS⟩ := hcut
      have I4 := hS
      clear I3 hS t0 t1 t2 s0 s1 s2 lt ls k0 lb
      rcases R with _ | _
      · go_wp2_with fail
        go_roundg (gk - 1)
        case measure => have := I1.out; omega
        case rel => exact ⟨i + 1, by omega, by go_num, by have := I1.out; omega, by rw [HP.out]; exact I4.out⟩
      · obtain ⟨s0, s1, s2, _⟩ := (I4.out.bx 0 rfl).c3
        have ls := (I4.out.bx 0 rfl).2.2
        have hiT : i < (passN W H l d i).length := by rw [passN_len, ← HN.out]; exact hlt
        obtain ⟨bv, cg⟩ : ∃ bv, wc.cell? ⟨g, i, none⟩ = some (.bool bv) := ⟨_, I4.out.rowAt 1 rfl (bools_get hiT)⟩
        have lg := (I4.out.rowLt 1 rfl).1
        have fg := (I4.out.rowLt 1 rfl).2
        have I5 := Lib.hid (I4.out.setRow 1 rfl i (.bool false))
        clear hiT
        go_wp2_with fail
        go_roundg (gk - 1)
        case measure => have := I1.out; omega
        case rel => exact ⟨i + 1, by omega, by go_num, by have := I1.out; omega, I5.out.cast (by rw [HP.out, takeIf, if_pos rfl, bools_set]; rfl)⟩
end Go.Proofs.Ytjelnbfnoliocaa
