/- Ridge: crossings and the neighbours of a pixel, of the program. No condition. -/
import Derived.Test.YtjelnbfnoliocaaPc
namespace Go.Proofs.Ytjelnbfnoliocaa
open Go.RowKit

set_option maxRecDepth 100000 in
set_option maxHeartbeats 1000000 in
theorem crossings_any (r : Nat → Bool) (w : World) : Calls Try.prog 67 #[ringV r] w fun e w' => e = .returned (.int .i64 (crossN r 8 : Nat)) ∧ Below w.heap.size w w' := by
  have q0 := Lib.hid (Box.new w 97 #[.bool (r 0), .bool (r 1), .bool (r 2), .bool (r 3), .bool (r 4), .bool (r 5), .bool (r 6), .bool (r 7)])
  have qb := below_alloc w (.cells #[.bool (r 0), .bool (r 1), .bool (r 2), .bool (r 3), .bool (r 4), .bool (r 5), .bool (r 6), .bool (r 7)] 97)
  unfold ringV
  go_enter Try.func67, Try.ntmps67
  go_wp2_with fail
  generalize w.alloc (.cells #[.bool (r 0), .bool (r 1), .bool (r 2), .bool (r 3), .bool (r 4), .bool (r 5), .bool (r 6), .bool (r 7)] 97) = W0 at *
  have HC := Lib.hid (ring_cells W0 r _ q0.out)
  go_loop [3, 4, 5] (fun u3 _ u5 => ∃ j : Nat, j ≤ 8 ∧ u5 = .int .i64 (j : Int) ∧ u3 = .int .i64 (crossN r j : Nat)) (fun _ _ u5 => 20 - (intOf u5).toNat)
  case atStart => exact ⟨0, by omega, rfl, rfl⟩
  case round =>
    obtain ⟨j, hj, rfl, rfl⟩ := hrel
    have htj := crossN_le r j
    by_cases hlt : j < 8
    · have c0 := HC.out j hlt
      have c1 := HC.out ((j + 1) % 8) (by omega)
      have HS := Lib.hid (show crossN r (j + 1) = crossN r j + (if !r j && r ((j + 1) % 8) then 1 else 0) from rfl)
      have e1 : (((j : Int) + 1) % 8).toNat = (j + 1) % 8 := by omega
      generalize r j = v0 at *
      generalize r ((j + 1) % 8) = v1 at *
      cases v0 <;> cases v1
      all_goals
        go_wp2_with fail
        go_round
        case rel => exact ⟨j + 1, by omega, by go_num, by rw [HS.out]; first | rfl | (simp)⟩
        case measure => simp [intOf]; omega
    · obtain rfl : j = 8 := by omega
      go_wp2_with fail
      go_ret
      exact ⟨rfl, qb⟩
/-- The neighbours of a place, as far as they have been asked. -/
def upto (r : Nat → Bool) (k i : Nat) : Bool := decide (i < k) && r i
def ringL (r : Nat → Bool) : List Value := [.bool (r 0), .bool (r 1), .bool (r 2), .bool (r 3), .bool (r 4), .bool (r 5), .bool (r 6), .bool (r 7)]
theorem ringL_set (r : Nat → Bool) (k : Nat) (hk : k < 8) : (ringL (upto r k)).set k (.bool (r k)) = ringL (upto r (k + 1)) := by
  obtain rfl | rfl | rfl | rfl | rfl | rfl | rfl | rfl : k = 0 ∨ k = 1 ∨ k = 2 ∨ k = 3 ∨ k = 4 ∨ k = 5 ∨ k = 6 ∨ k = 7 := by omega
  all_goals simp [ringL, upto]
theorem ringL_get (r : Nat → Bool) (k : Nat) (hk : k < 8) : (ringL r)[k]? = some (.bool (r k)) := by
  obtain rfl | rfl | rfl | rfl | rfl | rfl | rfl | rfl : k = 0 ∨ k = 1 ∨ k = 2 ∨ k = 3 ∨ k = 4 ∨ k = 5 ∨ k = 6 ∨ k = 7 := by omega
  all_goals rfl
/-- The neighbours of a place. -/
def nbF (W H : Int) (l : List Bool) (x y : Int) (d : Nat) : Bool := isF W H l (x + dx d) (y + dy d)
set_option maxRecDepth 100000 in
set_option maxHeartbeats 1000000 in
theorem around_any (W H x y : Int) (A : Option Addr) (l : List Bool) (n c : Nat) (w : World) (hv : sized1B W H n = true) (hr : Rd w A (bools l)) (hn : n = l.length) (hx : -1 ≤ x ∧ x ≤ 20) (hy : -1 ≤ y ∧ y ≤ 20) :
    Calls Try.prog 63 #[.agg #[.int .i64 W, .int .i64 H, .slice A n c], .int .i64 x, .int .i64 y] w fun e w' => e = .returned (ringV (nbF W H l x y)) ∧ Below w.heap.size w w' := by
  have HC := Lib.hid (fun X Y W1 (hb : Below w.heap.size w W1) => is_any W H X Y A l n c W1 hv (hr.below hb) hn)
  clear hv hr hn
  have BT := Lib.hid (((Box.new w 34 #[.int .i64 W, .int .i64 H, .slice A n c]).alloc (.cells #[.bool false, .bool false, .bool false, .bool false, .bool false, .bool false, .bool false, .bool false] 97)).alloc (.cells #[.bool false, .bool false, .bool false, .bool false, .bool false, .bool false, .bool false, .bool false] 97))
  have BR := Lib.hid ((Box.new (w.alloc (.cells #[.int .i64 W, .int .i64 H, .slice A n c] 34)) 97 #[.bool false, .bool false, .bool false, .bool false, .bool false, .bool false, .bool false, .bool false]).alloc (.cells #[.bool false, .bool false, .bool false, .bool false, .bool false, .bool false, .bool false, .bool false] 97))
  have BQ := Lib.hid (Box.new ((w.alloc (.cells #[.int .i64 W, .int .i64 H, .slice A n c] 34)).alloc (.cells #[.bool false, .bool false, .bool false, .bool false, .bool false, .bool false, .bool false, .bool false] 97)) 97 #[.bool false, .bool false, .bool false, .bool false, .bool false, .bool false, .bool false, .bool false])
  have HB0 := Lib.hid (below_more (below_more (below_alloc w (.cells #[.int .i64 W, .int .i64 H, .slice A n c] 34)) (.cells #[.bool false, .bool false, .bool false, .bool false, .bool false, .bool false, .bool false, .bool false] 97)) (.cells #[.bool false, .bool false, .bool false, .bool false, .bool false, .bool false, .bool false, .bool false] 97))
  go_enter Try.func63, Try.ntmps63
  go_wp2_with fail
  refine (steps_any _).mono ?_
  rintro e w1 ⟨rfl, hb1⟩
  have bt := BT.out.ext hb1
  have br := BR.out.ext hb1
  have bq := BQ.out.ext hb1
  simp only [World.size_alloc] at br bq
  have BT1 := Lib.hid bt
  have BR1 := Lib.hid br
  have BQ1 := Lib.hid (show Box w1 (w.heap.size + 1 + 1) (ringL (upto (nbF W H l x y) 0)) by simpa [ringL, upto] using bq)
  have HB1 := Lib.hid (below_step HB0.out hb1)
  clear hb1 bt br bq
  go_wp2_with fail
  go_loopw [8, 9, 11] (fun _ _ u11 wr => ∃ k : Nat, k ≤ 8 ∧ u11 = .int .i64 k ∧ Hid (Box wr w.heap.size [.int .i64 W, .int .i64 H, .slice A n c]) ∧ Hid (Box wr (w.heap.size + 1) [.bool false, .bool false, .bool false, .bool false, .bool false, .bool false, .bool false, .bool false]) ∧ Hid (Box wr (w.heap.size + 1 + 1) (ringL (upto (nbF W H l x y) k))) ∧ Below w.heap.size w wr) (fun _ _ u11 _ => 20 - (intOf u11).toNat)
  case atStart => exact ⟨0, by omega, rfl, BT1, BR1, BQ1, HB1.out⟩
  case round =>
    obtain ⟨k, hk, rfl, bt, br, bq, hb⟩ := hrel
    have hsz := bq.out.2.2
    by_cases hlt : k < 8
    · have hbd := d_bd k
      have hix : ∀ W2, (Instr.index 114 stepsV (.int .i64 (k : Int))).run Try.prog W2 = .ok (.agg #[.int .i64 (dx k), .int .i64 (dy k)]) W2 := fun W2 => index_step W2 k hlt
      have HNB := Lib.hid (show nbF W H l x y k = isF W H l (x + dx k) (y + dy k) from rfl)
      have HST := Lib.hid (ringL_set (nbF W H l x y) k hlt)
      generalize dx k = a at *
      generalize dy k = b at *
      obtain ⟨t0, t1, t2, _⟩ := bt.out.c3
      have hz0 : w.heap.size < wr.heap.size := by omega
      have hz1 : w.heap.size + 1 < wr.heap.size := by omega
      go_wp2_with fail
      refine (HC.out (x + a) (y + b) _ (hb.alloc hb.size _)).mono ?_
      rintro e w2 ⟨rfl, hb2⟩
      clear t0 t1 t2 hix
      have bq2 := (bq.out.alloc (.cells #[.int .i64 a, .int .i64 b] 106)).ext hb2
      have cq := bq2.1 k _ (ringL_get _ k hlt)
      have cf := bq2.2.1
      have bt2 := Lib.hid ((bt.out.alloc (.cells #[.int .i64 a, .int .i64 b] 106)).ext hb2)
      have br2 := Lib.hid ((br.out.alloc (.cells #[.int .i64 a, .int .i64 b] 106)).ext hb2)
      have hs2 := bq2.2.2
      have bq3 := bq2.set (.bool (isF W H l (x + a) (y + b))) (i := k) (by simp [ringL]; exact hlt)
      rw [← HNB.out, HST.out] at bq3
      have BQ3 := Lib.hid bq3
      rw [HNB.out] at BQ3
      clear bq3 bq2
      go_wp2_with fail
      go_roundw
      case rel => exact ⟨k + 1, by omega, by go_num, bt2.out.far _ (by omega), br2.out.far _ (by omega), BQ3, ((hb.alloc hb.size _).trans (hb2.mono (by simp; omega))).setCell (by simp only; omega) _⟩
      case measure => simp [intOf]; omega
    · obtain rfl : k = 8 := by omega
      have HU := Lib.hid (show ringL (upto (nbF W H l x y) 8) = ringL (nbF W H l x y) by simp [ringL, upto])
      have bq8 := bq.out
      rw [HU.out] at bq8
      have c0 := bq8.1 0 _ (ringL_get _ 0 (by omega))
      have c1 := bq8.1 1 _ (ringL_get _ 1 (by omega))
      have c2 := bq8.1 2 _ (ringL_get _ 2 (by omega))
      have c3 := bq8.1 3 _ (ringL_get _ 3 (by omega))
      have c4 := bq8.1 4 _ (ringL_get _ 4 (by omega))
      have c5 := bq8.1 5 _ (ringL_get _ 5 (by omega))
      have c6 := bq8.1 6 _ (ringL_get _ 6 (by omega))
      have c7 := bq8.1 7 _ (ringL_get _ 7 (by omega))
      clear bq8
      have b0 := br.out.1 0 _ rfl
      have b1 := br.out.1 1 _ rfl
      have b2 := br.out.1 2 _ rfl
      have b3 := br.out.1 3 _ rfl
      have b4 := br.out.1 4 _ rfl
      have b5 := br.out.1 5 _ rfl
      have b6 := br.out.1 6 _ rfl
      have b7 := br.out.1 7 _ rfl
      have bf := br.out.2.1
      have hl := br.out.2.2
      go_wp2_with fail
      have bF := ((((((((br.out.set (.bool (nbF W H l x y 0)) (i := 0) (by simp)).set (.bool (nbF W H l x y 1)) (i := 1) (by simp)).set (.bool (nbF W H l x y 2)) (i := 2) (by simp)).set (.bool (nbF W H l x y 3)) (i := 3) (by simp)).set (.bool (nbF W H l x y 4)) (i := 4) (by simp)).set (.bool (nbF W H l x y 5)) (i := 5) (by simp)).set (.bool (nbF W H l x y 6)) (i := 6) (by simp)).set (.bool (nbF W H l x y 7)) (i := 7) (by simp))
      have d0 := bF.1 0 _ rfl
      have d1 := bF.1 1 _ rfl
      have d2 := bF.1 2 _ rfl
      have d3 := bF.1 3 _ rfl
      have d4 := bF.1 4 _ rfl
      have d5 := bF.1 5 _ rfl
      have d6 := bF.1 6 _ rfl
      have d7 := bF.1 7 _ rfl
      clear b0 b1 b2 b3 b4 b5 b6 b7 c0 c1 c2 c3 c4 c5 c6 c7
      refine bodyPost_ret (v := ringV (nbF W H l x y)) (by simp [results, Try.results63, go_sem, ringV, d0, d1, d2, d3, d4, d5, d6, d7]) rfl ⟨rfl, ((((((((hb.setCell (by first | omega | (simp; done) | (simp; omega)) _).setCell (by first | omega | (simp; done) | (simp; omega)) _).setCell (by first | omega | (simp; done) | (simp; omega)) _).setCell (by first | omega | (simp; done) | (simp; omega)) _).setCell (by first | omega | (simp; done) | (simp; omega)) _).setCell (by first | omega | (simp; done) | (simp; omega)) _).setCell (by first | omega | (simp; done) | (simp; omega)) _).setCell (by first | omega | (simp; done) | (simp; omega)) _)⟩
end Go.Proofs.Ytjelnbfnoliocaa
