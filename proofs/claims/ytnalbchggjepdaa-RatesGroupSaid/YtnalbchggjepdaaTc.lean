/- Rates: Choose, CheckShare and Tail of the program. No condition. -/
import Derived.Test.YtnalbchggjepdaaTa
import Derived.Test.YtnalbchggjepdaaTb
namespace Go.Proofs.Ytnalbchggjepdaa
open Go.RowKit

theorem rd_new1 (w : World) (x : Int) (t : TypeId) : Rd (w.alloc (.cells #[.int .i64 x] t)) (some ⟨w.heap.size, 0, none⟩) (ints [x]) :=
  .inr ⟨_, _, rfl, by simp, fun j u hu => by rw [World.cell?_alloc_new]; simpa [ints] using hu⟩
theorem rd_new2 (w : World) (x y : Int) (t : TypeId) : Rd (w.alloc (.cells #[.int .i64 x, .int .i64 y] t)) (some ⟨w.heap.size, 0, none⟩) (ints [x, y]) :=
  .inr ⟨_, _, rfl, by simp, fun j u hu => by rw [World.cell?_alloc_new]; simpa [ints] using hu⟩
theorem fr1 (lo hi x : Int) : frB lo hi [x] = inB lo hi x := by simp [frB]
theorem fr2 (lo hi x y : Int) : frB lo hi [x, y] = (inB lo hi x && inB lo hi y) := by simp [frB]
/-- from, of one number in a new block. -/
theorem from1 (lo hi x : Int) (w : World) (b : Bool) (h : inB lo hi x = b) {B : Nat} (hB : B = w.heap.size) :
    Calls Try.prog 53 #[.int .i64 lo, .int .i64 hi, .slice (some ⟨B, 0, none⟩) 1 1] (w.alloc (.cells #[.int .i64 x] 3)) fun e w' => e = .returned (.bool b) ∧ Below w.heap.size w w' := by
  subst hB
  exact (from_any lo hi _ [x] 1 1 _ (rd_new1 w x 3) rfl (by omega)).mono fun e w' ⟨he, hb⟩ => ⟨by rw [he, fr1, h], below_step (below_alloc _ _) hb⟩
theorem from2 (lo hi x y : Int) (w : World) (b : Bool) (h : (inB lo hi x && inB lo hi y) = b) {B : Nat} (hB : B = w.heap.size) :
    Calls Try.prog 53 #[.int .i64 lo, .int .i64 hi, .slice (some ⟨B, 0, none⟩) 2 2] (w.alloc (.cells #[.int .i64 x, .int .i64 y] 3)) fun e w' => e = .returned (.bool b) ∧ Below w.heap.size w w' := by
  subst hB
  exact (from_any lo hi _ [x, y] 2 2 _ (rd_new2 w x y 3) rfl (by omega)).mono fun e w' ⟨he, hb⟩ => ⟨by rw [he, fr2, h], below_step (below_alloc _ _) hb⟩

def chooseF (a b : Int) : Int × Int := if inB 0 50 a && inB 0 a b then (((pas a.toNat b.toNat : Nat) : Int), 0) else (0, 2)
set_option maxHeartbeats 400000 in
theorem choose_any (a b : Int) (w : World) : Calls Try.prog 19 #[.int .i64 a, .int .i64 b] w fun e w' => e = .returned (.tuple #[.int .i64 (chooseF a b).1, .int .i64 (chooseF a b).2]) ∧ Below w.heap.size w w' := by
  cases h1 : inB 0 50 a
  · have HP := Lib.hid (show chooseF a b = (0, 2) by simp [chooseF, h1])
    have H1 := Lib.hid h1
    clear h1
    go_enter Try.func19, Try.ntmps19
    go_wp2_with fail
    refine (from1 0 50 a w _ H1.out (by simp)).mono ?_
    rintro e w1 ⟨rfl, hb1⟩
    go_wp2_with fail
    go_ret2
    exact ⟨by rw [HP.out]; rfl, hb1⟩
  cases h2 : inB 0 a b
  · have HP := Lib.hid (show chooseF a b = (0, 2) by simp [chooseF, h2])
    have H1 := Lib.hid h1
    have H2 := Lib.hid h2
    clear h1 h2
    go_enter Try.func19, Try.ntmps19
    go_wp2_with fail
    refine (from1 0 50 a w _ H1.out (by simp)).mono ?_
    rintro e w1 ⟨rfl, hb1⟩
    go_wp2_with fail
    refine (from1 0 a b w1 _ H2.out (by simp)).mono ?_
    rintro e w2 ⟨rfl, hb2⟩
    go_wp2_with fail
    go_ret2
    exact ⟨by rw [HP.out]; rfl, below_step hb1 hb2⟩
  · have HP := Lib.hid (show chooseF a b = (((pas a.toNat b.toNat : Nat) : Int), 0) by simp [chooseF, h1, h2])
    have H1 := Lib.hid h1
    have H2 := Lib.hid h2
    have ha : 0 ≤ a ∧ a ≤ 50 := by simpa [inB] using h1
    have hb : 0 ≤ b ∧ b ≤ a := by simpa [inB] using h2
    clear h1 h2
    obtain ⟨x, rfl⟩ := Int.eq_ofNat_of_zero_le ha.1
    obtain ⟨y, rfl⟩ := Int.eq_ofNat_of_zero_le hb.1
    go_enter Try.func19, Try.ntmps19
    go_wp2_with fail
    refine (from1 0 50 x w _ H1.out (by simp)).mono ?_
    rintro e w1 ⟨rfl, hb1⟩
    go_wp2_with fail
    refine (from1 0 x y w1 _ H2.out (by simp)).mono ?_
    rintro e w2 ⟨rfl, hb2⟩
    go_wp2_with fail
    refine (ways_any w2).mono ?_
    rintro e w3 ⟨B, rfl, ht, hb3⟩
    have hc := ht.1 (x * 51 + y) (by omega)
    rw [triF_at _ _ _ _ (by omega), if_pos (by omega)] at hc
    go_wp2_with fail
    go_ret2
    exact ⟨by rw [HP.out]; rfl, below_step (below_step hb1 hb2) hb3⟩

/-- Whether a share is valid. -/
def shareB (num den : Int) : Bool := inB 1 1000 den && inB 0 den num
def errA (b : Bool) : Int := if b then 0 else 2
set_option maxHeartbeats 400000 in
theorem checkShare_any (num den : Int) (w : World) : Calls Try.prog 29 #[.agg #[.int .i64 num, .int .i64 den]] w fun e w' => e = .returned (.int .i64 (errA (shareB num den))) ∧ Below w.heap.size w w' := by
  cases h1 : inB 1 1000 den
  · have HP := Lib.hid (show errA (shareB num den) = 2 by simp [errA, shareB, h1])
    have H1 := Lib.hid h1
    clear h1
    go_enter Try.func29, Try.ntmps29
    go_wp2_with fail
    refine (from1 1 1000 den _ _ H1.out (by simp)).mono ?_
    rintro e w1 ⟨rfl, hb1⟩
    go_wp2_with fail
    go_ret
    exact ⟨by rw [HP.out]; rfl, below_step (below_alloc _ _) hb1⟩
  cases h2 : inB 0 den num
  · have HP := Lib.hid (show errA (shareB num den) = 2 by simp [errA, shareB, h2])
    have H1 := Lib.hid h1
    have H2 := Lib.hid h2
    clear h1 h2
    go_enter Try.func29, Try.ntmps29
    go_wp2_with fail
    refine (from1 1 1000 den _ _ H1.out (by simp)).mono ?_
    rintro e w1 ⟨rfl, hb1⟩
    obtain ⟨c0, c1, _⟩ := ((Box.new w 23 #[.int .i64 num, .int .i64 den]).ext hb1).c2
    go_wp2_with fail
    refine (from1 0 den num _ _ H2.out (by simp)).mono ?_
    rintro e w2 ⟨rfl, hb2⟩
    go_wp2_with fail
    go_ret
    exact ⟨by rw [HP.out]; rfl, below_step (below_step (below_alloc _ _) hb1) hb2⟩
  · have HP := Lib.hid (show errA (shareB num den) = 0 by simp [errA, shareB, h1, h2])
    have H1 := Lib.hid h1
    have H2 := Lib.hid h2
    clear h1 h2
    go_enter Try.func29, Try.ntmps29
    go_wp2_with fail
    refine (from1 1 1000 den _ _ H1.out (by simp)).mono ?_
    rintro e w1 ⟨rfl, hb1⟩
    obtain ⟨c0, c1, _⟩ := ((Box.new w 23 #[.int .i64 num, .int .i64 den]).ext hb1).c2
    go_wp2_with fail
    refine (from1 0 den num _ _ H2.out (by simp)).mono ?_
    rintro e w2 ⟨rfl, hb2⟩
    go_wp2_with fail
    go_ret
    exact ⟨by rw [HP.out]; rfl, below_step (below_step (below_alloc _ _) hb1) hb2⟩

theorem pas_mul (a b c d : Nat) (h : a + c ≤ 50) : pas a b * pas c d ≤ 1125899906842624 := by
  calc pas a b * pas c d ≤ 2 ^ a * 2 ^ c := Nat.mul_le_mul (pas_le a b) (pas_le c d)
    _ = 2 ^ (a + c) := (Nat.pow_add _ _ _).symm
    _ ≤ 2 ^ 50 := Nat.pow_le_pow_right (by omega) h
    _ = 1125899906842624 := by decide
def tailOk (k n l m : Int) : Bool := inB 0 25 n && inB 0 25 m && inB 0 n k && inB 0 m l
def tailF (k n l m : Int) : Int × Int := if tailOk k n l m then (((tail k.toNat n.toNat (k.toNat + l.toNat) m.toNat : Nat) : Int), 0) else (0, 2)
set_option maxHeartbeats 1000000 in
theorem tail_any (k n l m : Int) (w : World) : Calls Try.prog 21 #[.int .i64 k, .int .i64 n, .int .i64 l, .int .i64 m] w fun e w' => e = .returned (.tuple #[.int .i64 (tailF k n l m).1, .int .i64 (tailF k n l m).2]) ∧ Below w.heap.size w w' := by
  cases h1 : inB 0 25 n && inB 0 25 m
  · have HP := Lib.hid (show tailF k n l m = (0, 2) by simp [tailF, tailOk, h1])
    have H1 := Lib.hid h1
    clear h1
    go_enter Try.func21, Try.ntmps21
    go_wp2_with fail
    refine (from2 0 25 n m _ _ H1.out (by simp)).mono ?_
    rintro e w1 ⟨rfl, hb1⟩
    go_wp2_with fail
    go_ret2
    exact ⟨by rw [HP.out]; rfl, hb1⟩
  cases h2 : inB 0 n k
  · have HP := Lib.hid (show tailF k n l m = (0, 2) by simp [tailF, tailOk, h2])
    have H1 := Lib.hid h1
    have H2 := Lib.hid h2
    clear h1 h2
    go_enter Try.func21, Try.ntmps21
    go_wp2_with fail
    refine (from2 0 25 n m _ _ H1.out (by simp)).mono ?_
    rintro e w1 ⟨rfl, hb1⟩
    go_wp2_with fail
    refine (from1 0 n k _ _ H2.out (by simp)).mono ?_
    rintro e w2 ⟨rfl, hb2⟩
    go_wp2_with fail
    go_ret2
    exact ⟨by rw [HP.out]; rfl, below_step hb1 hb2⟩
  cases h3 : inB 0 m l
  · have HP := Lib.hid (show tailF k n l m = (0, 2) by simp [tailF, tailOk, h3])
    have H1 := Lib.hid h1
    have H2 := Lib.hid h2
    have H3 := Lib.hid h3
    clear h1 h2 h3
    go_enter Try.func21, Try.ntmps21
    go_wp2_with fail
    refine (from2 0 25 n m _ _ H1.out (by simp)).mono ?_
    rintro e w1 ⟨rfl, hb1⟩
    go_wp2_with fail
    refine (from1 0 n k _ _ H2.out (by simp)).mono ?_
    rintro e w2 ⟨rfl, hb2⟩
    go_wp2_with fail
    refine (from1 0 m l _ _ H3.out (by simp)).mono ?_
    rintro e w3 ⟨rfl, hb3⟩
    go_wp2_with fail
    go_ret2
    exact ⟨by rw [HP.out]; rfl, below_step (below_step hb1 hb2) hb3⟩
  · have HP := Lib.hid (show tailF k n l m = (((tail k.toNat n.toNat (k.toNat + l.toNat) m.toNat : Nat) : Int), 0) by simp [tailF, tailOk, h1, h2, h3])
    have H1 := Lib.hid h1
    have H2 := Lib.hid h2
    have H3 := Lib.hid h3
    have ha : (0 ≤ n ∧ n ≤ 25) ∧ 0 ≤ m ∧ m ≤ 25 := by simpa [inB] using h1
    have hb : 0 ≤ k ∧ k ≤ n := by simpa [inB] using h2
    have hc : 0 ≤ l ∧ l ≤ m := by simpa [inB] using h3
    clear h1 h2 h3
    obtain ⟨k, rfl⟩ := Int.eq_ofNat_of_zero_le hb.1
    obtain ⟨n, rfl⟩ := Int.eq_ofNat_of_zero_le ha.1.1
    obtain ⟨l, rfl⟩ := Int.eq_ofNat_of_zero_le hc.1
    obtain ⟨m, rfl⟩ := Int.eq_ofNat_of_zero_le ha.2.1
    simp only [Int.toNat_natCast] at HP
    have bn : n ≤ 25 := by omega
    have bm : m ≤ 25 := by omega
    have bk : k ≤ n := by omega
    have bl : l ≤ m := by omega
    clear ha hb hc
    go_enter Try.func21, Try.ntmps21
    go_wp2_with fail
    refine (from2 0 25 n m _ _ H1.out (by simp)).mono ?_
    rintro e w1 ⟨rfl, hb1⟩
    go_wp2_with fail
    refine (from1 0 n k _ _ H2.out (by simp)).mono ?_
    rintro e w2 ⟨rfl, hb2⟩
    go_wp2_with fail
    refine (from1 0 m l _ _ H3.out (by simp)).mono ?_
    rintro e w3 ⟨rfl, hb3⟩
    go_wp2_with fail
    refine (ways_any w3).mono ?_
    rintro e w4 ⟨B, rfl, ht, hb4⟩
    have HT := Lib.hid ht
    clear ht
    go_wp2_with fail
    go_loopw [12, 13] (fun u12 u13 wr => ∃ j d : Nat, j ≤ min n (k + l) + 1 - k ∧ u12 = .int .i64 ((sumF (term n (k + l) m) k j : Nat) : Int) ∧ u13 = .int .i64 ((k : Int) + (j : Int)) ∧ wr = w4.drewN d) (fun _ u13 _ => 60 - (intOf u13).toNat)
    case atStart => exact ⟨0, 0, Nat.zero_le _, rfl, by simp, rfl⟩
    case round =>
      obtain ⟨j, d, hj, rfl, rfl, rfl⟩ := hrel
      by_cases hlt : j < min n (k + l) + 1 - k
      · have hjn : k + j ≤ n := by omega
        have hjh : k + j ≤ k + l := by omega
        have hc1 := HT.out.1 ((k + l) * 51 + (k + j)) (by omega)
        have hc2 := HT.out.1 ((n + m - (k + l)) * 51 + (n - (k + j))) (by omega)
        rw [triF_at _ _ _ _ (by omega), if_pos (by omega)] at hc1 hc2
        have hpm := pas_mul (k + l) (k + j) (n + m - (k + l)) (n - (k + j)) (by omega)
        have hsl := sumF_le (term n (k + l) m) k j 1125899906842624 (fun i => pas_mul _ _ _ _ (by omega))
        have hs2 : Hid (((sumF (term n (k + l) m) k (j + 1) : Nat) : Int) = (sumF (term n (k + l) m) k j : Nat) + ((pas (k + l) (k + j) : Nat) : Int) * ((pas (n + m - (k + l)) (n - (k + j)) : Nat) : Int)) := by
          show ((sumF _ k j + pas (k + l) (k + j) * pas (n + m - (k + l)) (n - (k + j)) : Nat) : Int) = _
          simp
        have e1 : IntKind.i64.wrap ((n : Int) + (m : Int)) = (n : Int) + (m : Int) := IntWalk.i64_in _ (by omega)
        have e2 : IntKind.i64.wrap ((n : Int) + (m : Int) - ((k : Int) + (l : Int))) = (n : Int) + (m : Int) - ((k : Int) + (l : Int)) := IntWalk.i64_in _ (by omega)
        have e3 : IntKind.i64.wrap ((n : Int) - ((k : Int) + (j : Int))) = (n : Int) - ((k : Int) + (j : Int)) := IntWalk.i64_in _ (by omega)
        have e4 : ((k : Int) + (l : Int)).toNat = k + l := by omega
        have e5 : ((k : Int) + (j : Int)).toNat = k + j := by omega
        have e6 : ((n : Int) + (m : Int) - ((k : Int) + (l : Int))).toNat = n + m - (k + l) := by omega
        have e7 : ((n : Int) - ((k : Int) + (j : Int))).toNat = n - (k + j) := by omega
        have hpi : (((pas (k + l) (k + j) : Nat) : Int) * ((pas (n + m - (k + l)) (n - (k + j)) : Nat) : Int)) ≤ 1125899906842624 := by rw [← Int.natCast_mul]; omega
        have hp0 : 0 ≤ (((pas (k + l) (k + j) : Nat) : Int) * ((pas (n + m - (k + l)) (n - (k + j)) : Nat) : Int)) := by rw [← Int.natCast_mul]; omega
        have hj26 : j * 1125899906842624 ≤ 30000000000000000 := by omega
        generalize pas (k + l) (k + j) = v1 at *
        generalize pas (n + m - (k + l)) (n - (k + j)) = v2 at *
        generalize sumF (term n (k + l) m) k j = v3 at *
        have e8 : IntKind.i64.wrap ((v1 : Int) * (v2 : Int)) = (v1 : Int) * (v2 : Int) := IntWalk.i64_in _ (by omega)
        have e9 : IntKind.i64.wrap ((v3 : Int) + (v1 : Int) * (v2 : Int)) = (v3 : Int) + (v1 : Int) * (v2 : Int) := IntWalk.i64_in _ (by omega)
        have b1 : (0 : Int) ≤ (k : Int) + (l : Int) := by omega
        have b2 : (k : Int) + (l : Int) < 51 := by omega
        have b3 : (0 : Int) ≤ (k : Int) + (j : Int) := by omega
        have b4 : (k : Int) + (j : Int) < 51 := by omega
        have b5 : (0 : Int) ≤ (n : Int) + (m : Int) - ((k : Int) + (l : Int)) := by omega
        have b6 : (n : Int) + (m : Int) - ((k : Int) + (l : Int)) < 51 := by omega
        have b7 : (0 : Int) ≤ (n : Int) - ((k : Int) + (j : Int)) := by omega
        have b8 : (n : Int) - ((k : Int) + (j : Int)) < 51 := by omega
        clear hpm hsl hpi hp0 hj26
        go_wp2_with fail
        all_goals
          go_quiet (fail)
          go_wp2_with fail
          clear e1 e2 e3 e4 e5 e6 e7 e8 e9
          go_roundw
          case rel => exact ⟨j + 1, _, by omega, by rw [hs2.out], by go_num, rfl⟩
          case measure => simp [intOf]; omega
      · have hfin := Lib.hid (tail_min k n (k + l) m)
        have HJ : Hid (j = min n (k + l) + 1 - k) := by unfold Hid; omega
        go_wp2_with fail
        all_goals go_ret2
        all_goals exact ⟨by rw [HP.out, ← hfin.out, ← HJ.out]; rfl, below_drewN (below_step (below_step (below_step hb1 hb2) hb3) hb4) _⟩
end Go.Proofs.Ytnalbchggjepdaa
