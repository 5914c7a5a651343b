/- Sketch: Rest, Coded, Decoded of the reference. No condition. -/
import Derived.Test.YtnienfgaidccpaaDoorKb
namespace Go.Proofs.YtnienfgaidccpaaDoor
open Go.RowKit Go.Shelf
attribute [local go_sem] Oper.semAt_some

theorem shl_lt15 {g f j : Nat} (h : g < 2 ^ (f + 1)) (hj : f + j ≤ 14) : g <<< j < 2 ^ 15 := by
  rw [Nat.shiftLeft_eq]
  calc g * 2 ^ j < 2 ^ (f + 1) * 2 ^ j := Nat.mul_lt_mul_of_pos_right h (Nat.two_pow_pos _)
    _ = 2 ^ (f + 1 + j) := by rw [← Nat.pow_add]
    _ ≤ 2 ^ 15 := Nat.pow_le_pow_right (by decide) (by omega)
theorem shl_cast (g j : Nat) : ((g : Int) * 2 ^ j) = ((g <<< j : Nat) : Int) := by rw [Nat.shiftLeft_eq]; push_cast; rfl
set_option maxRecDepth 100000 in
set_option maxHeartbeats 1000000 in
theorem refRest_any (n : Nat) (h1 : 1 ≤ n) (h3 : n ≤ 3) (x : Nat) (hx : x < 2 ^ 15) (w : World) :
    Calls Tryd.prog 60 #[.int .u8 (n : Nat), .int .u16 (x : Nat)] w fun e w' => e = .returned (.int .u16 ((kd n).rest x : Nat)) ∧ Below w.heap.size w w' := by
  have hs := kd_sum h1 h3
  have HK := Lib.hid (fun W => K_any n h1 h3 W)
  have HG := Lib.hid (fun W => gen_any n h1 h3 W)
  have hgen := (kd_ok h1 h3).gen
  have HRD := Lib.hid (show (kd n).rest x = rst (kd n).g (kd n).f (kd n).k x from rfl)
  have HRL := Lib.hid (show (kd n).rest x < 2 ^ 15 from Nat.lt_of_lt_of_le (Kd.rest_lt (kd_ok h1 h3) hx) (pow_f_le (kd_ok h1 h3)))
  generalize (kd n).rest x = y at *
  generalize kd n = c at *
  obtain ⟨s1, s2, s3, s4, s5, s6⟩ := hs
  have e1 : IntKind.i64.wrap (x : Int) = x := IntWalk.i64_in _ (by omega)
  have e3 : IntKind.i64.wrap (15 - (c.k : Int)) = c.f := by rw [IntWalk.i64_in _ (by omega)]; omega
  have HG1 := Lib.hid hgen.1
  go_enter Tryd.func60, Tryd.ntmps60
  go_wp2_with fail
  go_loopg [5, 6] c.k (fun q u5 u6 wr => ∃ (j r : Nat) (v : Int), j ≤ c.k ∧ r < 2 ^ 15 ∧ u5 = .int .i64 (r : Nat) ∧ u6 = .int .i64 v ∧ Hid (v = (c.f : Int) + j - 1 ∧ rst c.g c.f j r = y ∧ j ≤ q ∧ Below w.heap.size w wr))
  case atStart => exact ⟨c.k, x, 14, Nat.le_refl _, hx, rfl, rfl, by omega, HRD.out.symm, Nat.le_refl _, Below.refl _ _⟩
  case round =>
    obtain ⟨j, r, v, hj, hr, rfl, rfl, hI⟩ := hrel
    have hv := hI.out.1
    have I2 := Lib.hid hI.out.2.1
    have I3 := Lib.hid hI.out.2.2.1
    have I4 := Lib.hid hI.out.2.2.2
    clear hI
    rcases j with _ | j
    · as_aux_lemma =>
      have d1 : ¬ (c.f : Int) ≤ v := by omega
      have hv0 : IntKind.i64.wrap v = v := IntWalk.i64_in _ (by omega)
      have HE := Lib.hid (show r = y from I2.out)
      have eu : IntKind.u16.wrap (r : Int) = r := IntWalk.u16_in _ (by omega)
      clear hv
      go_wp2_with fail
      refine (HK.out _).mono ?_
      rintro e w1 ⟨rfl, hb1⟩
      have hB := Lib.hid (below_step I4.out hb1)
      clear hb1
      go_wp2_with fail
      go_ret
      exact ⟨by rw [← HE.out]; rfl, hB.out⟩
    · obtain ⟨I, hI⟩ : ∃ I : Nat, I = c.f + j := ⟨_, rfl⟩
      obtain rfl : v = (I : Int) := by omega
      have d1 : (c.f : Int) ≤ (I : Int) := by omega
      have b1 : (I : Int) ≤ 64 := by omega
      have e2 := and_bit_i64 (x := r) (by omega) I
      have hst : rst c.g c.f (j + 1) r = rst c.g c.f j (stp c.g c.f I r) := by rw [hI]; rfl
      have hst2 : stp c.g c.f I r = if r.testBit I then r ^^^ (c.g <<< j) else r := by
        unfold stp
        have : I - c.f = j := by omega
        rw [this]
      have e4 : IntKind.i64.wrap ((I : Int) - c.f) = j := by rw [IntWalk.i64_in _ (by omega)]; omega
      have e5 : IntKind.i64.wrap ((I : Int) - 1) = (I : Int) - 1 := IntWalk.i64_in _ (by omega)
      have hG := shl_lt15 HG1.out (show c.f + j ≤ 14 by omega)
      have hE6 := shl_cast c.g j
      generalize c.g <<< j = G at *
      have e6 : IntKind.i64.wrap ((c.g : Int) * 2 ^ j) = G := by rw [hE6]; exact IntWalk.i64_in _ (by omega)
      have e7 : bits .xor .i64 (r : Int) (G : Int) = ((r ^^^ G : Nat) : Int) := i64_xor_nat _ _ (by omega) (by omega)
      have HX := Lib.hid (show r ^^^ G < 2 ^ 15 from Nat.xor_lt_two_pow hr hG)
      have HS := Lib.hid (hst.symm.trans I2.out)
      have HV := Lib.hid hI
      have hbn := bitN_test r I
      rw [hst2] at HS
      have b3 : (j : Int) ≤ 64 := by omega
      clear hst hst2 hG hE6 hv
      by_cases ht : r.testBit I = true
      · as_aux_lemma =>
        rw [if_pos ht] at hbn HS
        rw [hbn] at e2
        have e2' : bits .and .i64 ((r : Int) / 2 ^ I) 1 = 1 := e2
        clear e2 hbn ht hI
        go_wp2_with fail
        refine (HK.out _).mono ?_
        rintro e w1 ⟨rfl, hb1⟩
        have hB := Lib.hid (below_step I4.out hb1)
        clear hb1
        go_wp2_with fail
        refine (HG.out _).mono ?_
        rintro e w2 ⟨rfl, hb2⟩
        have hB2 := Lib.hid (below_step hB.out hb2)
        clear hb2
        go_wp2_with fail
        refine (HK.out _).mono ?_
        rintro e w3 ⟨rfl, hb3⟩
        have hB3 := Lib.hid (below_step hB2.out hb3)
        clear hb3
        go_wp2_with fail
        go_roundg (gk - 1)
        case measure => have := I3.out; omega
        case rel => exact ⟨j, r ^^^ G, (I : Int) - 1, by omega, HX.out, rfl, rfl, by have := HV.out; omega, HS.out, by have := I3.out; omega, hB3.out⟩
      · as_aux_lemma =>
        rw [if_neg ht] at hbn HS
        rw [hbn] at e2
        have e2' : bits .and .i64 ((r : Int) / 2 ^ I) 1 = 0 := e2
        clear e2 hbn ht hI
        go_wp2_with fail
        refine (HK.out _).mono ?_
        rintro e w1 ⟨rfl, hb1⟩
        have hB := Lib.hid (below_step I4.out hb1)
        clear hb1
        go_wp2_with fail
        go_roundg (gk - 1)
        case measure => have := I3.out; omega
        case rel => exact ⟨j, r, (I : Int) - 1, by omega, hr, rfl, rfl, by have := HV.out; omega, HS.out, by have := I3.out; omega, hB.out⟩
set_option maxRecDepth 100000 in
theorem refCoded_any (n : Nat) (h1 : 1 ≤ n) (h3 : n ≤ 3) (m : Nat) (hm : m < 2 ^ (kd n).k) (w : World) :
    Calls Tryd.prog 65 #[.int .u8 (n : Nat), .int .u16 (m : Nat)] w fun e w' => e = .returned (.int .u16 ((kd n).code m : Nat)) ∧ Below w.heap.size w w' := by
  have hs := kd_sum h1 h3
  have hsl := shl_lt (kd_ok h1 h3) hm
  have HK := Lib.hid (fun W => K_any n h1 h3 W)
  have HR := Lib.hid (fun W => refRest_any n h1 h3 (m <<< (kd n).f) hsl W)
  have HC := Lib.hid (show (kd n).code m = (m <<< (kd n).f) ^^^ (kd n).rest (m <<< (kd n).f) from rfl)
  have hrl : (kd n).rest (m <<< (kd n).f) < 2 ^ 15 := Nat.lt_of_lt_of_le (Kd.rest_lt (kd_ok h1 h3) hsl) (pow_f_le (kd_ok h1 h3))
  have hsc := shl_cast m (kd n).f
  generalize (kd n).code m = y at *
  generalize m <<< (kd n).f = z at *
  generalize (kd n).rest z = r at *
  generalize kd n = c at *
  obtain ⟨s1, s2, s3, s4, s5, s6⟩ := hs
  have e3 : IntKind.i64.wrap (15 - (c.k : Int)) = c.f := by rw [IntWalk.i64_in _ (by omega)]; omega
  have b1 : 0 ≤ (c.f : Int) := by omega
  have b2 : (c.f : Int) ≤ 16 := by omega
  have e4 : IntKind.u16.wrap ((m : Int) * 2 ^ c.f) = z := by rw [hsc]; exact IntWalk.u16_in _ (by omega)
  have e5 : bits .xor .u16 (z : Int) (r : Int) = ((z ^^^ r : Nat) : Int) := u16_xor_nat _ _ (by omega) (by omega)
  clear hsc hm
  go_enter Tryd.func65, Tryd.ntmps65
  go_wp2_with fail
  refine (HK.out _).mono ?_
  rintro e w1 ⟨rfl, hb1⟩
  have hB := Lib.hid hb1
  clear hb1
  go_wp2_with fail
  refine (HR.out _).mono ?_
  rintro e w2 ⟨rfl, hb2⟩
  have hB2 := Lib.hid (below_step hB.out hb2)
  clear hb2
  go_wp2_with fail
  go_ret
  exact ⟨by rw [HC.out]; rfl, hB2.out⟩
/-- What Decoded returns. -/
def decV (o : Option (Nat × Nat)) : Value := match o with
  | none => .tuple #[.int .u16 0, .int .i64 0, .bool false]
  | some (m, d) => .tuple #[.int .u16 (m : Nat), .int .i64 (d : Nat), .bool true]
theorem pow_k_le {c : Kd} (h : c.k ≤ 11) : 2 ^ c.k ≤ 2048 := Nat.pow_le_pow_right (by decide) h
theorem near_step (c : Kd) (x m q : Nat) : c.near x m (q + 1) = if cnt (x ^^^ c.code m) ≤ c.t then some (m, cnt (x ^^^ c.code m)) else c.near x (m + 1) q := rfl
theorem cnt_le16 (x : Nat) : cnt x ≤ 16 := by
  have : ∀ i, cntN x i ≤ i := fun i => by
    induction i with
    | zero => exact Nat.le_refl _
    | succ i ih => rw [cntN]; split <;> omega
  exact this 16
set_option maxRecDepth 100000 in
set_option maxHeartbeats 1000000 in
theorem refDecoded_any (n : Nat) (h1 : 1 ≤ n) (h3 : n ≤ 3) (x : Nat) (hx : x < 2 ^ 15) (w : World) :
    Calls Tryd.prog 64 #[.int .u8 (n : Nat), .int .u16 (x : Nat)] w fun e w' => e = .returned (decV ((kd n).dec x)) ∧ Below w.heap.size w w' := by
  have hs := kd_sum h1 h3
  have HK := Lib.hid (fun W => K_any n h1 h3 W)
  have HT := Lib.hid (fun W => T_any n h1 h3 W)
  have HC := Lib.hid (fun m hm W => refCoded_any n h1 h3 m hm W)
  have HCL := Lib.hid (fun m (hm : m < 2 ^ (kd n).k) => Kd.code_lt (kd_ok h1 h3) hm)
  have HD := Lib.hid (show (kd n).dec x = (kd n).near x 0 (2 ^ (kd n).k) from rfl)
  generalize (kd n).dec x = o at *
  generalize kd n = c at *
  obtain ⟨s1, s2, s3, s4, s5, s6⟩ := hs
  obtain ⟨Q, hQ⟩ : ∃ Q, Q = 2 ^ c.k := ⟨_, rfl⟩
  have hQ2 : Q ≤ 2048 := by rw [hQ]; exact pow_k_le s3
  have e2 : IntKind.i64.wrap ((2 : Int) ^ c.k) = Q := by rw [pow_wrap (by omega), hQ, pow_cast]
  rw [← hQ] at HC HCL HD
  clear hQ
  go_enter Tryd.func64, Tryd.ntmps64
  go_wp2_with fail
  go_loopg [7] Q (fun q u7 wr => ∃ m : Nat, m ≤ Q ∧ u7 = .int .i64 (m : Nat) ∧ Hid (m + q = Q ∧ c.near x m q = o ∧ Below w.heap.size w wr))
  case atStart => exact ⟨0, by omega, rfl, by omega, HD.out.symm, Below.refl _ _⟩
  case round =>
    obtain ⟨m, hm, rfl, hI⟩ := hrel
    have I1 := Lib.hid hI.out.1
    have I2 := Lib.hid hI.out.2.1
    have I3 := Lib.hid hI.out.2.2
    clear hI
    by_cases hlt : m < Q
    case neg => as_aux_lemma =>
      have hi : ¬ (m : Int) < (Q : Int) := by omega
      have HN := Lib.hid (show o = none by
        have h0 : gk = 0 := by have := I1.out; omega
        have := I2.out
        rw [h0] at this
        exact this.symm)
      go_wp2_with fail
      refine (HK.out _).mono ?_
      rintro e w1 ⟨rfl, hb1⟩
      have hB := Lib.hid (below_step I3.out hb1)
      clear hb1
      go_wp2_with fail
      refine bodyPost_ret (v := .tuple #[.int .u16 0, .int .i64 0, .bool false]) (by simp [results, Tryd.results64, go_sem]) rfl ⟨by rw [HN.out]; rfl, hB.out⟩
    have hi : (m : Int) < (Q : Int) := by omega
    have hcl := HCL.out m hlt
    have e3 : IntKind.u16.wrap (m : Int) = m := IntWalk.u16_in _ (by omega)
    have HF := Lib.hid (fun W => far_any x (c.code m) (by omega) (by omega) W)
    have HC1 := Lib.hid (fun W => HC.out m hlt W)
    have HM := Lib.hid (show c.near x m gk = if cnt (x ^^^ c.code m) ≤ c.t then some (m, cnt (x ^^^ c.code m)) else c.near x (m + 1) (gk - 1) by
      obtain ⟨q, hq⟩ : ∃ q, gk = q + 1 := ⟨gk - 1, by have := I1.out; omega⟩
      rw [hq, near_step]; rfl)
    have hcn := cnt_le16 (x ^^^ c.code m)
    generalize cnt (x ^^^ c.code m) = d at *
    generalize c.code m = y at *
    clear hcl
    by_cases hd : d ≤ c.t
    · as_aux_lemma =>
      have hd2 : (d : Int) ≤ (c.t : Int) := by omega
      have HN := Lib.hid (show o = some (m, d) by have := HM.out; rw [if_pos hd, I2.out] at this; exact this)
      go_wp2_with fail
      refine (HK.out _).mono ?_
      rintro e w1 ⟨rfl, hb1⟩
      have hB := Lib.hid (below_step I3.out hb1)
      clear hb1
      go_wp2_with fail
      refine (HC1.out _).mono ?_
      rintro e w2 ⟨rfl, hb2⟩
      have hB2 := Lib.hid (below_step hB.out hb2)
      clear hb2
      go_wp2_with fail
      refine (HF.out _).mono ?_
      rintro e w3 ⟨rfl, rfl⟩
      go_wp2_with fail
      refine (HT.out _).mono ?_
      rintro e w4 ⟨rfl, hb4⟩
      have hB4 := Lib.hid (below_step hB2.out hb4)
      clear hb4
      go_wp2_with fail
      refine bodyPost_ret (v := .tuple #[.int .u16 (m : Nat), .int .i64 (d : Nat), .bool true]) (by simp [results, Tryd.results64, go_sem]) rfl ⟨by rw [HN.out]; rfl, hB4.out⟩
    · as_aux_lemma =>
      have hd2 : ¬ (d : Int) ≤ (c.t : Int) := by omega
      have HN := Lib.hid (show c.near x (m + 1) (gk - 1) = o by have := HM.out; rw [if_neg hd, I2.out] at this; exact this.symm)
      go_wp2_with fail
      refine (HK.out _).mono ?_
      rintro e w1 ⟨rfl, hb1⟩
      have hB := Lib.hid (below_step I3.out hb1)
      clear hb1
      go_wp2_with fail
      refine (HC1.out _).mono ?_
      rintro e w2 ⟨rfl, hb2⟩
      have hB2 := Lib.hid (below_step hB.out hb2)
      clear hb2
      go_wp2_with fail
      refine (HF.out _).mono ?_
      rintro e w3 ⟨rfl, rfl⟩
      go_wp2_with fail
      refine (HT.out _).mono ?_
      rintro e w4 ⟨rfl, hb4⟩
      have hB4 := Lib.hid (below_step hB2.out hb4)
      clear hb4
      go_wp2_with fail
      go_roundg (gk - 1)
      case measure => have := I1.out; omega
      case rel => exact ⟨m + 1, by omega, by go_num, by have := I1.out; omega, HN.out, hB4.out⟩
end Go.Proofs.YtnienfgaidccpaaDoor
