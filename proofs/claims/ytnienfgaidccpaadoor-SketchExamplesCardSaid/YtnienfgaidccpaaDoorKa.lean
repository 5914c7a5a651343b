/- Sketch: the package's variable codes; kind, rest, of the program. No condition. -/
import Derived.Test.YtnienfgaidccpaaDoorRows
import Derived.Test.YtnienfgaidccpaaDoorBase
import Derived.Test.YtnienfgaidccpaaDoorCa
import Derived.Test.YtnienfgaidccpaaDoorSn
import Derived.Test.YtnienfgaidccpaaDoorKm
import Derived.Laws.BitsAllLaws
namespace Go.Proofs.YtnienfgaidccpaaDoor
open Go.RowKit Go.Shelf
attribute [local go_sem] Oper.semAt_some

/-- bits.Len16's number of bits. -/
theorem bitLen_len {x : Nat} (h : x < 2 ^ 64) : Lib.bitLen x = len x := by
  have h1 : Lib.bitLen x ≤ len x := by
    refine Lib.bitLen_le x (len x) ?_ (lt_len x)
    unfold len
    split
    · decide
    · rename_i h0
      have := (Nat.log2_lt h0).2 h
      omega
  refine Nat.le_antisymm h1 ?_
  by_cases h0 : len x = 0
  · omega
  · have ht := (len_top (Nat.pos_of_ne_zero h0)).2
    have h2 := Lib.bitLen_shift (len x - 1) x ht h
    have h3 : 1 ≤ x / 2 ^ (len x - 1) := (Nat.le_div_iff_mul_le (Nat.two_pow_pos _)).2 (by rw [Nat.one_mul]; exact ht)
    have h4 := Lib.bitLen_half (x / 2 ^ (len x - 1)) (by omega) (Nat.lt_of_le_of_lt (Nat.div_le_self _ _) h)
    generalize Lib.bitLen (x / 2 ^ (len x - 1)) = q at h2 h4
    omega
theorem len_le {x n : Nat} (h : x < 2 ^ n) : len x ≤ n := by
  unfold len
  split
  · omega
  · rename_i h0
    have := (Nat.log2_lt h0).2 h
    omega
/-- The variable codes as it is laid. -/
def codL : List Value := [.int .u16 0, .int .i64 0, .int .i64 0, .int .u16 19, .int .i64 11, .int .i64 1, .int .u16 465, .int .i64 7, .int .i64 2, .int .u16 1335, .int .i64 5, .int .i64 3]
def Cod (w : World) : Prop := Rd w (some ⟨0, 0, none⟩) codL
theorem Cod.below {w w' : World} (h : Cod w) (k : Below w.heap.size w w') : Cod w' := Rd.below h k
def kdV (c : Kd) : Value := .agg #[.int .u16 c.g, .int .i64 c.k, .int .i64 c.t]
def kindB (k : Int) : Bool := decide (1 ≤ k) && decide (k ≤ 3)
set_option maxRecDepth 100000 in
theorem kind_any (k : Int) (w : World) (hc : Cod w) (hk : 0 ≤ k ∧ k ≤ 255) :
    Calls Tryd.prog 57 #[.int .u8 k] w fun e w' => e = .returned (.tuple #[kdV (kd k.toNat), .bool (kindB k)]) ∧ Below w.heap.size w w' := by
  obtain ⟨h0, h1⟩ := hk
  have C := fun i u h => (rd_cell (j := i) (u := u) hc h)
  have l0 := rd_lt (j := 0) hc (by decide)
  have hne : ¬ w.heap.size = 0 := by omega
  have hne2 : ¬ 0 = w.heap.size := by omega
  have c3 := C 3 _ rfl
  have c4 := C 4 _ rfl
  have c5 := C 5 _ rfl
  have c6 := C 6 _ rfl
  have c7 := C 7 _ rfl
  have c8 := C 8 _ rfl
  have c9 := C 9 _ rfl
  have c10 := C 10 _ rfl
  have c11 := C 11 _ rfl
  simp only [Nat.zero_add] at c3 c4 c5 c6 c7 c8 c9 c10 c11
  clear C
  have S1 := Lib.hid ((Own.start w).new 94 #[.int .u16 0, .int .i64 0, .int .i64 0])
  obtain rfl | rfl | rfl | rfl | hk : k = 0 ∨ k = 1 ∨ k = 2 ∨ k = 3 ∨ 4 ≤ k := by omega
  · go_enter Tryd.func57, Tryd.ntmps57
    go_wp2_with fail
    refine bodyPost_ret (v := .tuple #[kdV (kd 0), .bool false]) (by simp [results, Tryd.results57, go_sem, kdV, kd]) rfl ⟨rfl, ?_⟩
    exact below_alloc _ _
  · go_enter Tryd.func57, Tryd.ntmps57
    go_wp2_with fail
    refine bodyPost_ret (v := .tuple #[kdV (kd 1), .bool true]) (by simp [results, Tryd.results57, go_sem, kdV, kd]) rfl ⟨rfl, ?_⟩
    exact below_alloc _ _
  · go_enter Tryd.func57, Tryd.ntmps57
    go_wp2_with fail
    refine bodyPost_ret (v := .tuple #[kdV (kd 2), .bool true]) (by simp [results, Tryd.results57, go_sem, kdV, kd]) rfl ⟨rfl, ?_⟩
    exact below_alloc _ _
  · go_enter Tryd.func57, Tryd.ntmps57
    go_wp2_with fail
    refine bodyPost_ret (v := .tuple #[kdV (kd 3), .bool true]) (by simp [results, Tryd.results57, go_sem, kdV, kd]) rfl ⟨rfl, ?_⟩
    exact below_alloc _ _
  · have HK := Lib.hid (show kd k.toNat = ⟨0, 0, 0⟩ ∧ kindB k = false by
      obtain ⟨m, hm⟩ : ∃ m : Nat, k.toNat = m + 4 := ⟨k.toNat - 4, by omega⟩
      exact ⟨by rw [hm]; rfl, by simp [kindB]; omega⟩)
    have d1 : decide (k < 1) = false := by simp; omega
    have d2 : decide (4 ≤ k) = true := by simp; omega
    go_enter Tryd.func57, Tryd.ntmps57
    go_wp2_with fail
    refine bodyPost_ret (v := .tuple #[kdV ⟨0, 0, 0⟩, .bool false]) (by simp [results, Tryd.results57, go_sem, kdV]) rfl ⟨by rw [HK.out.1, HK.out.2], ?_⟩
    exact below_alloc _ _
set_option maxRecDepth 100000 in
set_option maxHeartbeats 1000000 in
theorem rest_any (c : Kd) (hc : c.ok) (x : Nat) (hx : x < 2 ^ 15) (w : World) :
    Calls Tryd.prog 59 #[kdV c, .int .u16 (x : Nat)] w fun e w' => e = .returned (.int .u16 (c.rest x : Nat)) ∧ Below w.heap.size w w' := by
  have hs := hc.sum
  have hf : 15 - (c.k : Int) = c.f := by omega
  obtain ⟨s1, s2, s3, s4, s5, s6⟩ := hs
  have e1 : IntKind.i64.wrap (15 - (c.k : Int)) = c.f := by rw [hf]; exact IntWalk.i64_in _ (by omega)
  have S0 := Lib.hid ((Own.start w).new 94 #[.int .u16 c.g, .int .i64 c.k, .int .i64 c.t])
  unfold kdV
  go_enter Tryd.func59, Tryd.ntmps59
  go_wp2_with fail
  go_loopg [1] (len x) (fun q u1 wr => ∃ y : Nat, y < 2 ^ 15 ∧ u1 = .int .u16 (y : Nat) ∧ Hid (len y ≤ q ∧ c.rest y = c.rest x ∧ Own w wr [box w.heap.size 94 [.int .u16 c.g, .int .i64 c.k, .int .i64 c.t]]))
  case atStart => exact ⟨x, hx, rfl, Nat.le_refl _, rfl, S0.out⟩
  case round =>
    obtain ⟨y, hy, rfl, hI⟩ := hrel
    have I1 := Lib.hid hI.out.1
    have I2 := Lib.hid hI.out.2.1
    have I3 := Lib.hid hI.out.2.2
    clear hI S0
    obtain ⟨t0, t1, t2, _⟩ := (I3.out.bx 0 rfl).c3
    have lt := (I3.out.bx 0 rfl).2.2
    have hL := fun W1 => len16_any (y : Int) W1 (by omega) (by omega)
    simp only [Int.toNat_natCast] at hL
    have HL := Lib.hid hL
    have HLB := Lib.hid (fun W1 => (hL W1).mono fun e w' h => (⟨h.1, by rw [h.2]; exact Below.refl _ _⟩ : e = .returned (.int .i64 (Lib.bitLen y : Nat)) ∧ Below W1.heap.size W1 w'))
    clear hL
    go_wp2_with fail
    refine (HL.out _).mono ?_
    rintro e w1 ⟨rfl, rfl⟩
    rw [bitLen_len (Nat.lt_trans hy (by decide))] at HLB
    rw [bitLen_len (Nat.lt_trans hy (by decide))]
    have hL15 : len y ≤ 15 := len_le hy
    by_cases hf : c.f < len y
    · as_aux_lemma =>
      obtain ⟨D, hD⟩ : ∃ D, len y = c.f + D + 1 := ⟨len y - c.f - 1, by omega⟩
      have hgb : c.g <<< D < 2 ^ 15 := by
        rw [Nat.shiftLeft_eq]
        calc c.g * 2 ^ D < 2 ^ (c.f + 1) * 2 ^ D := Nat.mul_lt_mul_of_pos_right hc.gen.1 (Nat.two_pow_pos _)
          _ = 2 ^ (c.f + 1 + D) := by rw [← Nat.pow_add]
          _ ≤ 2 ^ 15 := Nat.pow_le_pow_right (by decide) (by omega)
      obtain ⟨G, hG⟩ : ∃ G, G = c.g <<< D := ⟨_, rfl⟩
      have hr := rst_round (g := c.g) (f := c.f) (j := c.k) (w := y) hc.gen hf (by omega)
      have hDD : len y - c.f - 1 = D := by omega
      rw [hDD, ← hG] at hr
      rw [← hG] at hgb
      have HR := Lib.hid hr
      have hyb : y ^^^ G < 2 ^ 15 := Nat.xor_lt_two_pow hy hgb
      have HX := Lib.hid hyb
      have d1 : decide ((c.f : Int) < (len y : Int)) = true := by simpa using hf
      have e2 : IntKind.i64.wrap ((len y : Int) - c.f) = (D : Int) + 1 := by rw [IntWalk.i64_in _ (by omega)]; omega
      have e3 : IntKind.i64.wrap ((D : Int) + 1 - 1) = (D : Int) := by rw [IntWalk.i64_in _ (by omega)]; omega
      have e4 : IntKind.i64.wrap (D : Int) = (D : Int) := IntWalk.i64_in _ (by omega)
      have e5 : IntKind.u16.wrap ((c.g : Int) * 2 ^ D) = (G : Int) := by
        have h : ((c.g : Int) * 2 ^ D) = (G : Int) := by rw [hG, Nat.shiftLeft_eq]; push_cast; rfl
        rw [h]
        exact IntWalk.u16_in _ (by omega)
      have e6 : bits .xor .u16 (y : Int) (G : Int) = ((y ^^^ G : Nat) : Int) := u16_xor_nat _ _ (by omega) (by omega)
      have b1 : 0 ≤ (D : Int) := by omega
      have b2 : (D : Int) ≤ 16 := by omega
      have HLY := Lib.hid (show len y ≤ gk from I1.out)
      clear hr hyb hgb hD hDD hG
      generalize len y = L at *
      go_wp2_with fail
      have fx0 := fun x : OwnOf w [box w.heap.size 94 [.int .u16 c.g, .int .i64 c.k, .int .i64 c.t]] => (x.bx 0 rfl).1 0 _ rfl
      have hne : Nonempty (OwnOf w [box w.heap.size 94 [.int .u16 c.g, .int .i64 c.k, .int .i64 c.t]]) := ⟨⟨_, I3.out⟩⟩
      refine wp_region_own I3.out (by kernel_rfl) (by kernel_rfl) ?_
      iterate 4 (go_big_quiet_step (fail))
      go_big_quiet_step ((go_at_call 86; exact own_of (HLB.out _)))
      iterate 6 (go_big_quiet_step (fail))
      refine wpQuiet_nil ?_
      rintro w2 ⟨z, hz⟩
      have S2 := Lib.hid (show Own w w2 [box w.heap.size 94 [.int .u16 c.g, .int .i64 c.k, .int .i64 c.t]] by rw [hz]; exact z.own)
      clear hz z hne fx0
      go_wp2_with fail
      go_roundg (gk - 1)
      case measure => have := HLY.out; have := HR.out.2; omega
      case rel => exact ⟨y ^^^ G, HX.out, rfl, by have := HLY.out; have := HR.out.2; omega, by rw [← I2.out]; exact HR.out.1.symm, S2.out⟩
    · as_aux_lemma =>
      have d1 : decide ((c.f : Int) < (len y : Int)) = false := by simp; omega
      have HE := Lib.hid (show y = c.rest x by
        have h1 : y < 2 ^ c.f := Nat.lt_of_lt_of_le (lt_len y) (Nat.pow_le_pow_right (by decide) (by omega))
        rw [← I2.out]; exact (Kd.rest_small h1).symm)
      generalize len y = L at *
      go_wp2_with fail
      go_ret
      exact ⟨by rw [← HE.out]; rfl, I3.out.bel⟩
end Go.Proofs.YtnienfgaidccpaaDoor
