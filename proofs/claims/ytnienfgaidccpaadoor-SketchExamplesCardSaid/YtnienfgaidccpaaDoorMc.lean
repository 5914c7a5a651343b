/- Sketch: flips. No condition. -/
import Derived.Test.YtnienfgaidccpaaDoorKd
import Derived.Test.YtnienfgaidccpaaDoorKh
namespace Go.Proofs.YtnienfgaidccpaaDoor
open Go.RowKit Go.Shelf
attribute [local go_sem] Oper.semAt_some

def u8s (l : List Nat) : List Value := l.map fun x => .int .u8 (x : Nat)
theorem u8s_get {l : List Nat} {k : Nat} (h : k < l.length) : (u8s l)[k]? = some (.int .u8 (l[k] : Nat)) := by simp [u8s, h]
theorem u8s_len (l : List Nat) : (u8s l).length = l.length := by simp [u8s]
theorem Rd.u8 {w : World} {A : Option Addr} {l : List Nat} (h : Rd w A (u8s l)) {k : Nat} (hk : k < l.length) : ∃ b off, A = some ⟨b, off, none⟩ ∧ w.cell? ⟨b, off + k, none⟩ = some (.int .u8 (l[k] : Nat)) ∧ b < w.heap.size := by
  obtain ⟨b, off, h1, h2, h3⟩ := h.at_ (u8s_get hk)
  exact ⟨b, off, h1, h3 k _ (u8s_get hk), h2⟩
def W8 (l : List Nat) : Prop := ∀ x ∈ l, x < 256
def flp (x n : Nat) : Nat := x ^^^ (1 <<< (n % 15))
/-- A word with some bits changed. -/
def flipF (x : Nat) (l : List Nat) : Nat := l.foldl flp x
theorem flp_lt {x : Nat} (n : Nat) (h : x < 2 ^ 16) : flp x n < 2 ^ 16 := by
  refine Nat.xor_lt_two_pow h ?_
  rw [Nat.shiftLeft_eq, Nat.one_mul]
  exact Nat.pow_lt_pow_right (by decide) (by omega)
theorem flp_lt15 {x : Nat} (n : Nat) (h : x < 2 ^ 15) : flp x n < 2 ^ 15 := by
  refine Nat.xor_lt_two_pow h ?_
  rw [Nat.shiftLeft_eq, Nat.one_mul]
  exact Nat.pow_lt_pow_right (by decide) (by omega)
theorem flipF_lt15 : ∀ (l : List Nat) {x : Nat}, x < 2 ^ 15 → flipF x l < 2 ^ 15
  | [], _, h => h
  | n :: l, _, h => flipF_lt15 l (flp_lt15 n h)
theorem flipF_lt : ∀ (l : List Nat) {x : Nat}, x < 2 ^ 16 → flipF x l < 2 ^ 16
  | [], _, h => h
  | n :: l, _, h => flipF_lt l (flp_lt n h)
theorem flipF_snoc {l : List Nat} {i : Nat} (x : Nat) (h : i < l.length) : flipF x (l.take (i + 1)) = flp (flipF x (l.take i)) l[i] := by
  have e : l.take (i + 1) = l.take i ++ [l[i]] := by rw [List.take_add_one, List.getElem?_eq_getElem h]; rfl
  rw [e]
  unfold flipF
  rw [foldl_snoc]
set_option maxRecDepth 100000 in
set_option maxHeartbeats 2000000 in
theorem flips_any (x0 : Nat) (l : List Nat) (A : Option Addr) (n cp : Nat) (w : World) (hx : x0 < 2 ^ 16) (hr : Rd w A (u8s l)) (hn : n = l.length) (hbig : n ≤ 4611686018427387904) :
    Calls Tryd.prog 31 #[.int .u16 (x0 : Nat), .slice A n cp] w fun e w' => e = .returned (.tuple #[.int .u16 (flipF x0 l : Nat), .int .i64 (cnt (flipF x0 l ^^^ x0) : Nat)]) ∧ w = w' := by
  have HR := Lib.hid hr
  have HN := Lib.hid hn
  have HMA := Lib.hid (show flipF x0 (l.take n) = flipF x0 l by rw [hn, List.take_length])
  have HM0 := Lib.hid (show flipF x0 (l.take 0) = x0 by rw [List.take_zero]; rfl)
  have K34 := Lib.hid (fun (h : flipF x0 l < 2 ^ 16) W => far_any (flipF x0 l) x0 h hx W)
  clear hr hn
  go_enter Tryd.func31, Tryd.ntmps31
  go_wp2_with fail
  go_loopg [6, 12] n (fun q u3 u4 wr => ∃ i h : Nat, i ≤ n ∧ h < 65536 ∧ u3 = .int .u16 (h : Nat) ∧ u4 = .int .i64 (i : Nat) ∧ Hid (h = flipF x0 (l.take i) ∧ i + q = n ∧ wr = w))
  case atStart => exact ⟨0, x0, by omega, hx, rfl, rfl, HM0.out.symm, by omega, rfl⟩
  case round =>
    obtain ⟨i, h, hi, hh, rfl, rfl, hI⟩ := hrel
    have I1 := Lib.hid hI.out.1
    have I2 := Lib.hid hI.out.2.1
    have hwr := hI.out.2.2
    clear hI
    subst hwr
    by_cases hlt : i < n
    case neg => as_aux_lemma =>
      have HE := Lib.hid (show h = flipF x0 l by rw [I1.out, ← HMA.out]; congr 2; omega)
      have hni : ¬ (i : Int) < (n : Int) := by omega
      have K := Lib.hid (K34.out (by rw [← HE.out]; exact hh))
      rw [← HE.out] at K
      clear K34 HMA HM0
      go_wp2_with fail
      refine (K.out _).mono ?_
      rintro e w1 ⟨rfl, rfl⟩
      go_wp2_with fail
      go_ret2
      exact ⟨by rw [← HE.out]; rfl, rfl⟩
    have hil : i < l.length := by rw [← HN.out]; exact hlt
    have hix : (i : Int) < (n : Int) := by omega
    obtain ⟨b0, off, rfl, k0, l0⟩ := HR.out.u8 hil
    have HS := Lib.hid (flipF_snoc x0 hil)
    rw [← I1.out] at HS
    have hf := flp_lt l[i] hh
    have HU := Lib.hid (show flp h l[i] = h ^^^ (1 <<< (l[i] % 15)) from rfl)
    generalize l[i] = x at *
    have d1 : (x : Int).tmod 15 = ((x % 15 : Nat) : Int) := by rw [Int.tmod_eq_emod_of_nonneg (by omega)]; omega
    have d3 : IntKind.u8.wrap ((x % 15 : Nat) : Int) = ((x % 15 : Nat) : Int) := IntWalk.u8_in _ (by omega)
    have hr15 : x % 15 < 15 := Nat.mod_lt _ (by decide)
    generalize flp h x = f at *
    generalize x % 15 = r at *
    have d4 : (r : Int) ≤ 16 := by omega
    have d5 : (r : Int) < 16 := by omega
    obtain ⟨e1, e2, e3⟩ := shl_one hr15
    have e4 : bits .xor .u16 (h : Int) ((1 <<< r : Nat) : Int) = ((h ^^^ 1 <<< r : Nat) : Int) := u16_xor_nat _ _ hh (by omega)
    rw [← HU.out] at e4
    generalize (1 <<< r : Nat) = b at *
    as_aux_lemma =>
    go_wp2_with fail
    go_roundg (gk - 1)
    case measure => have := I2.out; omega
    case rel => exact ⟨i + 1, f, by omega, hf, rfl, by go_num, by rw [HS.out], by have := I2.out; omega, rfl⟩
end Go.Proofs.YtnienfgaidccpaaDoor
