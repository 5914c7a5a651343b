/- Iris: counting bits, turning words. No condition. -/
import Derived.Test.YtmjbbihbcbhaoaaRows
import Derived.Test.YtmjbbihbcbhaoaaBase
import Derived.Test.YtmjbbihbcbhaoaaPc
import Derived.Laws.BitsAllLaws
namespace Go.Proofs.Ytmjbbihbcbhaoaa
open Go.RowKit Go.Shelf
attribute [local go_sem] Oper.semAt_some

theorem rep5 : rep 0x55 8 = 6148914691236517205 := by decide
theorem rep3 : rep 0x33 8 = 3689348814741910323 := by decide
theorem rep0 : rep 0x0f 8 = 1085102592571150095 := by decide
theorem and_c (x c : Nat) (hx : x < 18446744073709551616) (hc : c < 18446744073709551616) {z : Nat} (hz : z = x &&& c) {X C : Int} (hX : X = (x : Int)) (hC : C = (c : Int)) : bits .and .u64 X C = (z : Int) := by
  subst hz hX hC
  exact u64_and_nat x c hx hc
theorem div_c (x k : Nat) (K : Int) (hK : K = (k : Int)) : (x : Int) / K = ((x / k : Nat) : Int) := by subst hK; push_cast; rfl
set_option maxRecDepth 100000 in
set_option maxHeartbeats 8000000 in
theorem ones64_any (x : Nat) (hx : x < 18446744073709551616) (w : World) :
    Calls Try.prog 30 #[.int .u64 (x : Nat)] w fun e w' => e = .returned (.int .i64 (ones x : Nat)) ∧ w = w' := by
  obtain ⟨a1, ha1⟩ : ∃ a, a = x / 2 &&& 6148914691236517205 := ⟨_, rfl⟩
  obtain ⟨a2, ha2⟩ : ∃ a, a = x &&& 6148914691236517205 := ⟨_, rfl⟩
  have la1 : a1 ≤ 6148914691236517205 := by rw [ha1]; exact Nat.and_le_right
  have la2 : a2 ≤ 6148914691236517205 := by rw [ha2]; exact Nat.and_le_right
  obtain ⟨x1, hx1⟩ : ∃ a, a = a1 + a2 := ⟨_, rfl⟩
  obtain ⟨b1, hb1⟩ : ∃ a, a = x1 / 4 &&& 3689348814741910323 := ⟨_, rfl⟩
  obtain ⟨b2, hb2⟩ : ∃ a, a = x1 &&& 3689348814741910323 := ⟨_, rfl⟩
  have lb1 : b1 ≤ 3689348814741910323 := by rw [hb1]; exact Nat.and_le_right
  have lb2 : b2 ≤ 3689348814741910323 := by rw [hb2]; exact Nat.and_le_right
  obtain ⟨x2, hx2⟩ : ∃ a, a = b1 + b2 := ⟨_, rfl⟩
  obtain ⟨c1, hc1⟩ : ∃ a, a = x2 / 16 + x2 := ⟨_, rfl⟩
  have lc1 : c1 < 18446744073709551616 := by omega
  obtain ⟨y, hy⟩ : ∃ a, a = c1 &&& 1085102592571150095 := ⟨_, rfl⟩
  obtain ⟨z1, hz1⟩ : ∃ a, a = y + y / 256 := ⟨_, rfl⟩
  obtain ⟨z2, hz2⟩ : ∃ a, a = z1 + z1 / 65536 := ⟨_, rfl⟩
  obtain ⟨z3, hz3⟩ : ∃ a, a = z2 + z2 / 4294967296 := ⟨_, rfl⟩
  have hyp : y = pB 8 x := by
    rw [hy, hc1, hx2, hb1, hb2, hx1, ha1, ha2, pB, vB, w3, w2, w1, rep5, rep3, rep0]
  obtain ⟨hr, l1, l2, l3⟩ := ones_fold hyp hz1 hz2 hz3
  obtain ⟨r, hrr⟩ : ∃ r, r = ones x := ⟨_, rfl⟩
  rw [← hrr] at hr ⊢
  have eA1 : bits .and .u64 ((x : Int) / 2) 6148914691236517205 = (a1 : Int) := and_c (x / 2) _ (by omega) (by decide) ha1 (by omega) rfl
  have eA2 : bits .and .u64 (x : Int) 6148914691236517205 = (a2 : Int) := and_c x _ hx (by decide) ha2 rfl rfl
  have eX1 : IntKind.u64.wrap ((a1 : Int) + (a2 : Int)) = ((x1 : Int))  := by rw [show (a1 : Int) + (a2 : Int) = (x1 : Int) by omega]; exact IntWalk.u64_in _ (by omega)
  have eB1 : bits .and .u64 ((x1 : Int) / 4) 3689348814741910323 = (b1 : Int) := and_c (x1 / 4) _ (by omega) (by decide) hb1 (by omega) rfl
  have eB2 : bits .and .u64 (x1 : Int) 3689348814741910323 = (b2 : Int) := and_c x1 _ (by omega) (by decide) hb2 rfl rfl
  have eX2 : IntKind.u64.wrap ((b1 : Int) + (b2 : Int)) = (x2 : Int) := by rw [show (b1 : Int) + (b2 : Int) = (x2 : Int) by omega]; exact IntWalk.u64_in _ (by omega)
  have eC1 : IntKind.u64.wrap ((x2 : Int) / 16 + (x2 : Int)) = (c1 : Int) := by rw [show (x2 : Int) / 16 + (x2 : Int) = (c1 : Int) by omega]; exact IntWalk.u64_in _ (by omega)
  have eY : bits .and .u64 (c1 : Int) 1085102592571150095 = (y : Int) := and_c c1 _ lc1 (by decide) hy rfl rfl
  have eZ1 : IntKind.u64.wrap ((y : Int) + (y : Int) / 256) = (z1 : Int) := by rw [show (y : Int) + (y : Int) / 256 = (z1 : Int) by omega]; exact IntWalk.u64_in _ (by omega)
  have eZ2 : IntKind.u64.wrap ((z1 : Int) + (z1 : Int) / 65536) = (z2 : Int) := by rw [show (z1 : Int) + (z1 : Int) / 65536 = (z2 : Int) by omega]; exact IntWalk.u64_in _ (by omega)
  have eZ3 : IntKind.u64.wrap ((z2 : Int) + (z2 : Int) / 4294967296) = (z3 : Int) := by rw [show (z2 : Int) + (z2 : Int) / 4294967296 = (z3 : Int) by omega]; exact IntWalk.u64_in _ (by omega)
  have eW : IntKind.i64.wrap (z3 : Int) = (z3 : Int) := IntWalk.i64_in _ (by omega)
  have eR : bits .and .i64 (z3 : Int) 127 = (r : Int) := by
    have h : z3 &&& 127 = z3 % 128 := Nat.and_two_pow_sub_one_eq_mod z3 7
    show IntKind.i64.wrap ((BitVec.ofInt 64 (z3 : Int) &&& BitVec.ofInt 64 ((127 : Nat) : Int)).toNat : Int) = _
    rw [BitVec.toNat_and, ofInt_u64 z3 (by omega), ofInt_u64 127 (by decide), h, hr]
    exact IntWalk.i64_in _ (by omega)
  clear ha1 ha2 la1 la2 hx1 hb1 hb2 lb1 lb2 hx2 hc1 lc1 hy hz1 hz2 hz3 hyp hr l1 l2 l3 hrr hx
  go_enter Try.func30, Try.ntmps30
  go_wp2_with fail
  go_ret
  exact ⟨rfl, rfl⟩
/-- A word of 16 bits, turned. -/
def rotN (x : Nat) (t : Int) : Nat := x * 2 ^ (t % 16).toNat % 65536 ||| x / 2 ^ (16 - (t % 16).toNat)
theorem rotN_lt {x : Nat} (hx : x < 65536) (t : Int) : rotN x t < 65536 :=
  Nat.or_lt_two_pow (n := 16) (Nat.mod_lt _ (by decide)) (Nat.lt_of_le_of_lt (Nat.div_le_self _ _) hx)
set_option maxRecDepth 100000 in
set_option maxHeartbeats 8000000 in
theorem rot_any (x : Nat) (hx : x < 65536) (t : Int) (ht : -7 ≤ t ∧ t ≤ 7) (w : World) :
    Calls Try.prog 36 #[.int .u16 (x : Nat), .int .i64 t] w fun e w' => e = .returned (.int .u16 (rotN x t : Nat)) ∧ w = w' := by
  obtain ⟨s, hs⟩ : ∃ s, s = (t % 16).toNat := ⟨_, rfl⟩
  have hs15 : s ≤ 15 := by omega
  obtain ⟨q, hq⟩ : ∃ q, q = 16 - s := ⟨_, rfl⟩
  obtain ⟨r, hr⟩ : ∃ r, r = rotN x t := ⟨_, rfl⟩
  rw [← hr]
  rw [rotN, ← hs, ← hq] at hr
  obtain ⟨y1, hy1⟩ : ∃ y, y = x * 2 ^ s % 65536 := ⟨_, rfl⟩
  obtain ⟨y2, hy2⟩ : ∃ y, y = x / 2 ^ q := ⟨_, rfl⟩
  rw [← hy1, ← hy2] at hr
  have l1 : y1 < 65536 := by rw [hy1]; exact Nat.mod_lt _ (by decide)
  have l2 : y2 < 65536 := by rw [hy2]; exact Nat.lt_of_le_of_lt (Nat.div_le_self _ _) hx
  obtain ⟨u, hu⟩ : ∃ u : Nat, IntKind.u64.wrap t = (u : Int) ∧ u < 18446744073709551616 ∧ u % 16 = s := by
    by_cases h : 0 ≤ t
    · exact ⟨t.toNat, by rw [IntWalk.u64_in _ (by omega)]; omega, by omega, by omega⟩
    · refine ⟨(t + 18446744073709551616).toNat, ?_, by omega, by omega⟩
      have e : IntKind.u64.wrap t = t % 18446744073709551616 := by rw [IntKind.wrap_u64]
      rw [e]
      omega
  obtain ⟨hu1, hu2, hu3⟩ := hu
  have eA : bits .and .u64 (u : Int) 15 = (s : Int) := and_c u 15 hu2 (by decide) (by rw [and15, hu3]) rfl rfl
  have eY1 : IntKind.u16.wrap ((x : Int) * 2 ^ s) = (y1 : Int) := by
    rw [show (x : Int) * 2 ^ s = ((x * 2 ^ s : Nat) : Int) by push_cast; rfl, IntKind.wrap_u16, hy1]
    omega
  have eQ : (16 : Int) - (s : Int) = (q : Int) := by omega
  have eQw : IntKind.u64.wrap ((q : Int)) = ((q : Int)) := IntWalk.u64_in _ (by omega)
  have eY2 : (x : Int) / 2 ^ q = (y2 : Int) := by rw [hy2]; push_cast; rfl
  have eO : bits .or .u16 (y1 : Int) (y2 : Int) = (r : Int) := by rw [u16_or_nat _ _ l1 l2, hr]
  have b1 : 0 ≤ (s : Int) := by omega
  have b2 : (s : Int) ≤ 16 := by omega
  have b3 : 0 ≤ (q : Int) := by omega
  have b4 : (q : Int) ≤ 16 := by omega
  clear hs hq hr hy1 hy2 hu2 hu3 hx
  go_enter Try.func36, Try.ntmps36
  go_wp2_with fail
  go_ret
  exact ⟨rfl, rfl⟩
/-- A word of four rows, turned row by row. -/
def turnF (x : Nat) (t : Int) : Nat → Nat
  | 0 => 0
  | i + 1 => turnF x t i ||| rotN (x / 2 ^ (16 * i) % 65536) t * 2 ^ (16 * i)
def turnW (x : Nat) (t : Int) : Nat := turnF x t 4
theorem turnF_lt (x : Nat) (t : Int) : ∀ i, i ≤ 4 → turnF x t i < 18446744073709551616
  | 0, _ => by show (0 : Nat) < 18446744073709551616; decide
  | i + 1, h => by
    refine Nat.or_lt_two_pow (n := 64) (turnF_lt x t i (by omega)) ?_
    have h1 := rotN_lt (x := x / 2 ^ (16 * i) % 65536) (Nat.mod_lt _ (by decide)) t
    calc rotN (x / 2 ^ (16 * i) % 65536) t * 2 ^ (16 * i) < 65536 * 2 ^ (16 * i) := Nat.mul_lt_mul_of_pos_right h1 (Nat.two_pow_pos _)
      _ = 2 ^ (16 + 16 * i) := by rw [Nat.pow_add]
      _ ≤ 2 ^ 64 := Nat.pow_le_pow_right (by decide) (by omega)
theorem turnW_lt (x : Nat) (t : Int) : turnW x t < 18446744073709551616 := turnF_lt x t 4 (by decide)
set_option maxRecDepth 100000 in
set_option maxHeartbeats 8000000 in
theorem word_any (x : Nat) (t : Int) (ht : -7 ≤ t ∧ t ≤ 7) (w : World) :
    Calls Try.prog 31 #[.int .u64 (x : Nat), .int .i64 t] w fun e w' => e = .returned (.int .u64 (turnW x t : Nat)) ∧ w = w' := by
  have HR := Lib.hid (fun y (hy : y < 65536) W => rot_any y hy t ht W)
  go_enter Try.func31, Try.ntmps31
  go_wp2_with fail
  go_loopg [5, 6] 4 (fun q u5 u6 wr => ∃ i : Nat, i ≤ 4 ∧ u5 = .int .u64 ((turnF x t i : Nat) : Int) ∧ u6 = .int .i64 ((16 * i : Nat) : Int) ∧ Hid (i + q = 4 ∧ wr = w))
  case atStart => exact ⟨0, by omega, rfl, rfl, by omega, rfl⟩
  case round =>
    obtain ⟨i, hi, rfl, rfl, hI⟩ := hrel
    have I1 := Lib.hid hI.out.1
    have hwr := hI.out.2
    clear hI
    subst hwr
    obtain ⟨a, ha⟩ : ∃ a, a = 16 * i := ⟨_, rfl⟩
    rw [← ha]
    by_cases hlt : i < 4
    case neg => as_aux_lemma =>
      have HE := Lib.hid (show turnF x t i = turnW x t by rw [show i = 4 by omega]; rfl)
      have hni : ¬ (a : Int) < 64 := by omega
      rw [HE.out]
      clear HE
      go_wp2_with fail
      go_ret
      exact ⟨rfl, rfl⟩
    have hai : (a : Int) < 64 := by omega
    have HS := Lib.hid (show turnF x t (i + 1) = turnF x t i ||| rotN (x / 2 ^ a % 65536) t * 2 ^ a by rw [ha]; rfl)
    have lT := turnF_lt x t i (by omega)
    have lT1 := turnF_lt x t (i + 1) (by omega)
    obtain ⟨z, hz⟩ : ∃ z, z = x / 2 ^ a % 65536 := ⟨_, rfl⟩
    have lz : z < 65536 := by rw [hz]; exact Nat.mod_lt _ (by decide)
    rw [← hz] at HS
    have lr := rotN_lt lz t
    have KR := Lib.hid (fun W => HR.out z lz W)
    generalize rotN z t = y at *
    obtain ⟨Y, hY⟩ : ∃ Y, Y = y * 2 ^ a := ⟨_, rfl⟩
    have lY : Y < 18446744073709551616 := by
      rw [hY]
      calc y * 2 ^ a < 65536 * 2 ^ a := Nat.mul_lt_mul_of_pos_right lr (Nat.two_pow_pos _)
        _ = 2 ^ (16 + a) := by rw [Nat.pow_add]
        _ ≤ 2 ^ 64 := Nat.pow_le_pow_right (by decide) (by omega)
    rw [← hY] at HS
    have e1 : IntKind.u16.wrap ((x : Int) / 2 ^ a) = (z : Int) := by
      rw [show (x : Int) / 2 ^ a = ((x / 2 ^ a : Nat) : Int) by push_cast; rfl, IntKind.wrap_u16, hz]
      omega
    have e2 : IntKind.u64.wrap ((y : Int) * 2 ^ a) = (Y : Int) := by
      rw [show (y : Int) * 2 ^ a = ((y * 2 ^ a : Nat) : Int) by push_cast; rfl, ← hY]
      exact IntWalk.u64_in _ (by omega)
    have e2' : IntKind.u64.wrap ((y : Int)) = ((y : Int)) := IntWalk.u64_in _ (by omega)
    have e3 : bits .or .u64 ((turnF x t i : Nat) : Int) (Y : Int) = ((turnF x t (i + 1) : Nat) : Int) := by rw [u64_or_nat _ _ lT lY, HS.out]
    have e4 : IntKind.i64.wrap ((a : Int) + 16) = ((16 * (i + 1) : Nat) : Int) := by rw [show (a : Int) + 16 = ((16 * (i + 1) : Nat) : Int) by omega]; exact IntWalk.i64_in _ (by omega)
    have b1 : 0 ≤ (a : Int) := by omega
    have b2 : (a : Int) ≤ 64 := by omega
    clear hz hY HS ha lT lT1 lz lr lY
    generalize turnF x t i = o1 at *
    obtain ⟨o2, ho2⟩ : ∃ o2, o2 = turnF x t (i + 1) := ⟨_, rfl⟩
    rw [← ho2] at e3
    have HO := Lib.hid ho2
    clear ho2
    obtain ⟨a2, ha2⟩ : ∃ a2, a2 = 16 * (i + 1) := ⟨_, rfl⟩
    rw [← ha2] at e4
    have HA2 := Lib.hid ha2
    clear ha2
    as_aux_lemma =>
    go_wp2_with fail
    refine (KR.out _).mono ?_
    rintro e w1 ⟨rfl, rfl⟩
    go_wp2_with fail
    go_roundg (gk - 1)
    case measure => have := I1.out; omega
    case rel => exact ⟨i + 1, by omega, by rw [HO.out], by rw [HA2.out], by have := I1.out; omega, rfl⟩
end Go.Proofs.Ytmjbbihbcbhaoaa
