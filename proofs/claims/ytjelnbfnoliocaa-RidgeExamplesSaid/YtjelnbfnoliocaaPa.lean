/- Ridge: whether a place is ridge; the ways to the neighbours; of the program and of the reference. No condition. -/
import Derived.Test.YtjelnbfnoliocaaBc
import Derived.Test.YtjelnbfnoliocaaRa
import Derived.BigRegion
namespace Go.Proofs.Ytjelnbfnoliocaa
open Go.RowKit

/-- Whether a place is a ridge pixel. -/
def isF (W H : Int) (l : List Bool) (x y : Int) : Bool := inB 0 (W - 1) x && inB 0 (H - 1) y && l.getD (y * W + x).toNat false
theorem valid_bd {W H : Int} {n : Nat} (h : sized1B W H n = true) : (1 ≤ W ∧ W ≤ 20) ∧ (1 ≤ H ∧ H ≤ 20) ∧ (n : Int) = W * H := by
  simp only [sized1B, Bool.and_eq_true, decide_eq_true_eq] at h
  obtain ⟨a, b⟩ := sides_bd h.1
  exact ⟨a, b, h.2⟩
/-- The number of a place. -/
theorem place_lt {W H x y : Int} {n : Nat} (hn : (n : Int) = W * H) (hx : 0 ≤ x ∧ x ≤ W - 1) (hy : 0 ≤ y ∧ y ≤ H - 1) : 0 ≤ y * W + x ∧ y * W + x < n ∧ 0 ≤ y * W ∧ y * W ≤ n := by
  have h0 : 0 ≤ y * W := Int.mul_nonneg (by omega) (by omega)
  have h1 : y * W ≤ (H - 1) * W := Int.mul_le_mul_of_nonneg_right (by omega) (by omega)
  have h2 : (H - 1) * W = W * H - W := by rw [Int.sub_mul, Int.mul_comm H W, Int.one_mul]
  omega
set_option maxRecDepth 100000 in
set_option maxHeartbeats 1000000 in
theorem is_any (W H x y : Int) (A : Option Addr) (l : List Bool) (n c : Nat) (w : World) (hv : sized1B W H n = true) (hr : Rd w A (bools l)) (hn : n = l.length) :
    Calls Try.prog 80 #[.agg #[.int .i64 W, .int .i64 H, .slice A n c], .int .i64 x, .int .i64 y] w fun e w' => e = .returned (.bool (isF W H l x y)) ∧ Below w.heap.size w w' := by
  obtain ⟨hW, hH, hnn⟩ := valid_bd hv
  have hb0 := below_alloc w (.cells #[.int .i64 W, .int .i64 H, .slice A n c] 34)
  have HR := Lib.hid (hr.below hb0)
  have HN := Lib.hid hn
  have HNN := Lib.hid hnn
  have HB := Lib.hid hb0
  clear hr hn hnn hv hb0
  cases h1 : inB 0 (W - 1) x
  · have HP := Lib.hid (show isF W H l x y = false by simp [isF, h1])
    go_enter Try.func80, Try.ntmps80
    go_wp2_with (go_at_call 58; refine (within_any _ _ _ _).mono ?_; rintro e w' ⟨rfl, rfl⟩)
    go_ret
    exact ⟨by rw [HP.out]; rfl, HB.out⟩
  cases h2 : inB 0 (H - 1) y
  · have HP := Lib.hid (show isF W H l x y = false by simp [isF, h2])
    go_enter Try.func80, Try.ntmps80
    go_wp2_with (go_at_call 58; refine (within_any _ _ _ _).mono ?_; rintro e w' ⟨rfl, rfl⟩)
    go_ret
    exact ⟨by rw [HP.out]; rfl, HB.out⟩
  · have hx : 0 ≤ x ∧ x ≤ W - 1 := by simpa [inB] using h1
    have hy : 0 ≤ y ∧ y ≤ H - 1 := by simpa [inB] using h2
    obtain ⟨p1, p2, p3, p4⟩ := place_lt HNN.out hx hy
    have HP := Lib.hid (show isF W H l x y = l.getD (y * W + x).toNat false by simp [isF, h1, h2])
    have hn4 : n ≤ 400 := by
      have := HNN.out
      have b2 : W * H ≤ 20 * 20 := Int.mul_le_mul hW.2 hH.2 (by omega) (by omega)
      omega
    generalize hq : y * W = q at *
    have HQ := Lib.hid hq
    clear hq
    have e1 : IntKind.i64.wrap (y * W) = q := by rw [HQ.out]; exact IntWalk.i64_in _ (by omega)
    obtain ⟨k, hk⟩ := Int.eq_ofNat_of_zero_le p1
    have hkl : k < l.length := by have := HN.out; omega
    have hgd : l.getD (q + x).toNat false = l[k] := by rw [hk, Int.toNat_natCast, List.getD_eq_getElem?_getD, List.getElem?_eq_getElem hkl]; rfl
    rw [hgd] at HP
    obtain ⟨b, off, rfl, hbs, hc⟩ := HR.out.at_ (bools_get hkl)
    have k0 := hc k _ (bools_get hkl)
    have hkn : (k : Int) < (n : Int) := by omega
    have e2 : IntKind.i64.wrap (q + x) = (k : Int) := by rw [hk]; exact IntWalk.i64_in _ (by omega)
    clear hc hgd
    generalize l[k] = v at *
    have HK := Lib.hid hk
    clear hk
    go_enter Try.func80, Try.ntmps80
    go_wp2_with (go_at_call 58; refine (within_any _ _ _ _).mono ?_; rintro e w' ⟨rfl, rfl⟩)
    go_ret
    exact ⟨by rw [HP.out]; rfl, HB.out⟩
set_option maxRecDepth 100000 in
set_option maxHeartbeats 1000000 in
theorem refIs_any (W H x y : Int) (A : Option Addr) (l : List Bool) (n c : Nat) (w : World) (hv : sized1B W H n = true) (hr : Rd w A (bools l)) (hn : n = l.length) :
    Calls Try.prog 46 #[.agg #[.int .i64 W, .int .i64 H, .slice A n c], .int .i64 x, .int .i64 y] w fun e w' => e = .returned (.bool (isF W H l x y)) ∧ Below w.heap.size w w' := by
  obtain ⟨hW, hH, hnn⟩ := valid_bd hv
  have hb0 := below_alloc w (.cells #[.int .i64 W, .int .i64 H, .slice A n c] 34)
  have HR := Lib.hid (hr.below hb0)
  have HN := Lib.hid hn
  have HNN := Lib.hid hnn
  have HB := Lib.hid hb0
  clear hr hn hnn hv hb0
  cases h1 : inB 0 (W - 1) x
  · have HP := Lib.hid (show isF W H l x y = false by simp [isF, h1])
    go_enter Try.func46, Try.ntmps46
    go_wp2_with (go_at_call 59; refine (refWithin_any _ _ _ _).mono ?_; rintro e w' ⟨rfl, rfl⟩)
    go_ret
    exact ⟨by rw [HP.out]; rfl, HB.out⟩
  cases h2 : inB 0 (H - 1) y
  · have HP := Lib.hid (show isF W H l x y = false by simp [isF, h2])
    go_enter Try.func46, Try.ntmps46
    go_wp2_with (go_at_call 59; refine (refWithin_any _ _ _ _).mono ?_; rintro e w' ⟨rfl, rfl⟩)
    go_ret
    exact ⟨by rw [HP.out]; rfl, HB.out⟩
  · have hx : 0 ≤ x ∧ x ≤ W - 1 := by simpa [inB] using h1
    have hy : 0 ≤ y ∧ y ≤ H - 1 := by simpa [inB] using h2
    obtain ⟨p1, p2, p3, p4⟩ := place_lt HNN.out hx hy
    have HP := Lib.hid (show isF W H l x y = l.getD (y * W + x).toNat false by simp [isF, h1, h2])
    have hn4 : n ≤ 400 := by
      have := HNN.out
      have b2 : W * H ≤ 20 * 20 := Int.mul_le_mul hW.2 hH.2 (by omega) (by omega)
      omega
    generalize hq : y * W = q at *
    have HQ := Lib.hid hq
    clear hq
    have e1 : IntKind.i64.wrap (y * W) = q := by rw [HQ.out]; exact IntWalk.i64_in _ (by omega)
    obtain ⟨k, hk⟩ := Int.eq_ofNat_of_zero_le p1
    have hkl : k < l.length := by have := HN.out; omega
    have hgd : l.getD (q + x).toNat false = l[k] := by rw [hk, Int.toNat_natCast, List.getD_eq_getElem?_getD, List.getElem?_eq_getElem hkl]; rfl
    rw [hgd] at HP
    obtain ⟨b, off, rfl, hbs, hc⟩ := HR.out.at_ (bools_get hkl)
    have k0 := hc k _ (bools_get hkl)
    have hkn : (k : Int) < (n : Int) := by omega
    have e2 : IntKind.i64.wrap (q + x) = (k : Int) := by rw [hk]; exact IntWalk.i64_in _ (by omega)
    clear hc hgd
    generalize l[k] = v at *
    have HK := Lib.hid hk
    clear hk
    go_enter Try.func46, Try.ntmps46
    go_wp2_with (go_at_call 59; refine (refWithin_any _ _ _ _).mono ?_; rintro e w' ⟨rfl, rfl⟩)
    go_ret
    exact ⟨by rw [HP.out]; rfl, HB.out⟩

theorem ret2_int {a b c d : Int} (h : a = b) (k : c = d) : Ending.returned (.tuple #[.int .i64 a, .int .i64 c]) = Ending.returned (.tuple #[.int .i64 b, .int .i64 d]) := by rw [h, k]
/-- The way to the neighbour with a number. -/
def dx (d : Nat) : Int := (dir (d % 8)).x
def dy (d : Nat) : Int := (dir (d % 8)).y
theorem d_bd (d : Nat) : -1 ≤ dx d ∧ dx d ≤ 1 ∧ -1 ≤ dy d ∧ dy d ≤ 1 := by
  have : ∀ i : Fin 8, -1 ≤ (dir i).x ∧ (dir i).x ≤ 1 ∧ -1 ≤ (dir i).y ∧ (dir i).y ≤ 1 := by decide
  exact this ⟨d % 8, Nat.mod_lt _ (by omega)⟩
end Go.Proofs.Ytjelnbfnoliocaa
