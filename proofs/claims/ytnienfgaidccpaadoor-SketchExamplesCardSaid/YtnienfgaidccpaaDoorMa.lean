/- Sketch: Encode, Decode; words, SameInts, the example's vault. No condition. -/
import Derived.Test.YtnienfgaidccpaaDoorKn
import Derived.Test.YtnienfgaidccpaaDoorLf
namespace Go.Proofs.YtnienfgaidccpaaDoor
open Go.RowKit Go.Shelf
attribute [local go_sem] Oper.semAt_some

/-- What Encode returns. -/
def encR (k : Int) (m : Nat) : Nat × Int := if (kindB k && decide (m < 2 ^ (kd k.toNat).k)) = true then ((kd k.toNat).code m, 0) else (0, 2)
def decO : Option (Nat × Nat) → Nat × Nat × Int
  | some (m, d) => (m, d, 0)
  | none => (0, 0, 50)
/-- What Decode returns. -/
def decR (k : Int) (x : Nat) : Nat × Nat × Int := if (kindB k && decide (x < 32768)) = true then decO ((kd k.toNat).dec x) else (0, 0, 2)
set_option maxRecDepth 100000 in
set_option maxHeartbeats 4000000 in
theorem encodeW_any (k : Int) (m : Nat) (w : World) (hc : Cod w) (hk : 0 ≤ k ∧ k ≤ 255) :
    Calls Tryd.prog 28 #[.int .u8 k, .int .u16 (m : Nat)] w fun e w' => e = .returned (.tuple #[.int .u16 ((encR k m).1 : Nat), .int .i64 (encR k m).2]) ∧ Below w.heap.size w w' := by
  have K57 := kind_any k w hc hk
  cases hkb : kindB k
  · as_aux_lemma =>
    have HL := Lib.hid (show encR k m = (0, 2) by simp [encR, hkb])
    rw [hkb] at K57
    replace K57 := Lib.hid K57
    obtain ⟨g, q, tt, HG⟩ : ∃ g q tt : Int, Hid (kdV (kd k.toNat) = .agg #[.int .u16 g, .int .i64 q, .int .i64 tt]) := ⟨_, _, _, Lib.hid rfl⟩
    rw [HG.out] at K57
    clear hc hkb HG
    go_enter Tryd.func28, Tryd.ntmps28
    go_wp2_with fail
    refine K57.out.mono ?_
    rintro e w1 ⟨rfl, hb1⟩
    have S1 := Lib.hid ((Own.start w).ext hb1)
    clear hb1
    go_wp2_with fail
    go_ret2
    exact ⟨by rw [HL.out]; rfl, (S1.out.new 94 #[.int .u16 g, .int .i64 q, .int .i64 tt]).bel⟩
  obtain ⟨n, hn, hm1, hm3, hmt⟩ := kind_bd hkb
  have hok := kd_ok hm1 hm3
  have HRR := Lib.hid (show encR k m = if m < 2 ^ (kd n).k then ((kd n).code m, 0) else (0, 2) by simp [encR, hkb, hmt])
  rw [hkb, hmt] at K57
  have K66 := fun W A cp (h : Rd W A (u16s [m])) => message_any (kd n) hok [m] A 1 cp W h rfl (by decide)
  have K68 := fun W (h : m < 2 ^ (kd n).k) => encode_any (kd n) hok m h W
  generalize kd n = c at *
  unfold kdV at K57 K66 K68
  replace K57 := Lib.hid K57
  have hall : ([m].all fun x => decide (x < 2 ^ c.k)) = decide (m < 2 ^ c.k) := by simp
  rw [hall] at K66
  clear hc hkb hmt hok hall hn
  by_cases hm : m < 2 ^ c.k
  · as_aux_lemma =>
    have HL := Lib.hid (show encR k m = (c.code m, 0) by rw [HRR.out, if_pos hm])
    rw [decide_eq_true hm] at K66
    replace K66 := Lib.hid K66
    have K68' := Lib.hid (fun W => K68 W hm)
    clear K68 hm
    generalize c.code m = cw at *
    go_enter Tryd.func28, Tryd.ntmps28
    go_wp2_with fail
    refine K57.out.mono ?_
    rintro e w1 ⟨rfl, hb1⟩
    have S1 := Lib.hid ((Own.start w).ext hb1)
    clear hb1
    go_upto_region 2 with fail
    have S2 := Lib.hid (S1.out.new 94 #[.int .u16 c.g, .int .i64 c.k, .int .i64 c.t])
    generalize w1.alloc _ = w2 at *
    generalize w1.heap.size = B6 at *
    clear S1
    obtain ⟨t0, t1, t2, _⟩ := (S2.out.bx 0 rfl).c3
    have lt := (S2.out.bx 0 rfl).2.2
    go_wp2_with fail
    refine (K66.out _ _ _ (Rd.new w2 #[.int .u16 (m : Nat)] 41)).mono ?_
    rintro e w4 ⟨rfl, hb4⟩
    have S4 := Lib.hid ((S2.out.ext (below_alloc w2 (.cells #[.int .u16 (m : Nat)] 41))).ext hb4)
    clear hb4 t0 t1 t2 lt
    obtain ⟨t0, t1, t2, _⟩ := (S4.out.bx 0 rfl).c3
    have lt := (S4.out.bx 0 rfl).2.2
    go_wp2_with fail
    refine (K68'.out _).mono ?_
    rintro e w5 ⟨rfl, hb5⟩
    have S5 := Lib.hid (S4.out.ext hb5)
    clear hb5
    go_wp2_with fail
    go_ret2
    exact ⟨by rw [HL.out]; rfl, S5.out.bel⟩
  · as_aux_lemma =>
    have HL := Lib.hid (show encR k m = (0, 2) by rw [HRR.out, if_neg hm])
    rw [decide_eq_false hm] at K66
    replace K66 := Lib.hid K66
    clear K68 hm
    go_enter Tryd.func28, Tryd.ntmps28
    go_wp2_with fail
    refine K57.out.mono ?_
    rintro e w1 ⟨rfl, hb1⟩
    have S1 := Lib.hid ((Own.start w).ext hb1)
    clear hb1
    go_upto_region 2 with fail
    have S2 := Lib.hid (S1.out.new 94 #[.int .u16 c.g, .int .i64 c.k, .int .i64 c.t])
    generalize w1.alloc _ = w2 at *
    generalize w1.heap.size = B6 at *
    clear S1
    obtain ⟨t0, t1, t2, _⟩ := (S2.out.bx 0 rfl).c3
    have lt := (S2.out.bx 0 rfl).2.2
    go_wp2_with fail
    refine (K66.out _ _ _ (Rd.new w2 #[.int .u16 (m : Nat)] 41)).mono ?_
    rintro e w4 ⟨rfl, hb4⟩
    have S4 := Lib.hid ((S2.out.ext (below_alloc w2 (.cells #[.int .u16 (m : Nat)] 41))).ext hb4)
    clear hb4 t0 t1 t2 lt
    obtain ⟨t0, t1, t2, _⟩ := (S4.out.bx 0 rfl).c3
    have lt := (S4.out.bx 0 rfl).2.2
    go_wp2_with fail
    go_ret2
    exact ⟨by rw [HL.out]; rfl, S4.out.bel⟩
set_option maxRecDepth 100000 in
set_option maxHeartbeats 4000000 in
theorem decodeW_any (k : Int) (x : Nat) (hx16 : x < 65536) (w : World) (hc : Cod w) (hk : 0 ≤ k ∧ k ≤ 255) :
    Calls Tryd.prog 32 #[.int .u8 k, .int .u16 (x : Nat)] w fun e w' => e = .returned (.tuple #[.int .u16 ((decR k x).1 : Nat), .int .i64 ((decR k x).2.1 : Nat), .int .i64 (decR k x).2.2]) ∧ Below w.heap.size w w' := by
  have K57 := kind_any k w hc hk
  cases hkb : kindB k
  · as_aux_lemma =>
    have HL := Lib.hid (show decR k x = (0, 0, 2) by simp [decR, hkb])
    rw [hkb] at K57
    replace K57 := Lib.hid K57
    obtain ⟨g, q, tt, HG⟩ : ∃ g q tt : Int, Hid (kdV (kd k.toNat) = .agg #[.int .u16 g, .int .i64 q, .int .i64 tt]) := ⟨_, _, _, Lib.hid rfl⟩
    rw [HG.out] at K57
    clear hc hkb HG
    go_enter Tryd.func32, Tryd.ntmps32
    go_wp2_with fail
    refine K57.out.mono ?_
    rintro e w1 ⟨rfl, hb1⟩
    have S1 := Lib.hid ((Own.start w).ext hb1)
    clear hb1
    go_wp2_with fail
    go_ret3
    exact ⟨by rw [HL.out]; rfl, (S1.out.new 94 #[.int .u16 g, .int .i64 q, .int .i64 tt]).bel⟩
  obtain ⟨n, hn, hm1, hm3, hmt⟩ := kind_bd hkb
  have hok := kd_ok hm1 hm3
  have HRR := Lib.hid (show decR k x = if x < 32768 then decO ((kd n).dec x) else (0, 0, 2) by simp [decR, hkb, hmt])
  rw [hkb, hmt] at K57
  have K70 := fun W (h : x < 2 ^ 15) => decode_any (kd n) hok x h W
  have HDV := fun (h : x < 2 ^ 15) => dcV_dec hok h
  generalize kd n = c at *
  unfold kdV at K57 K70
  replace K57 := Lib.hid K57
  clear hc hkb hmt hok hn
  by_cases hx : x < 32768
  case neg => as_aux_lemma =>
    have HL := Lib.hid (show decR k x = (0, 0, 2) by rw [HRR.out, if_neg hx])
    have hxi : ¬ (x : Int) < 32768 := by omega
    have hxj : (32768 : Int) ≤ (x : Int) := by omega
    clear hx K70 HDV
    go_enter Tryd.func32, Tryd.ntmps32
    go_wp2_with fail
    refine K57.out.mono ?_
    rintro e w1 ⟨rfl, hb1⟩
    have S1 := Lib.hid ((Own.start w).ext hb1)
    clear hb1
    go_wp2_with fail
    go_ret3
    exact ⟨by rw [HL.out]; rfl, (S1.out.new 94 #[.int .u16 c.g, .int .i64 c.k, .int .i64 c.t]).bel⟩
  have HV := HDV hx
  have hxj : ¬ (32768 : Int) ≤ (x : Int) := by omega
  have hxk : decide ((32768 : Int) ≤ (x : Int)) = false := decide_eq_false hxj
  clear hx16
  have K70' := fun W => K70 W hx
  have HRR2 := Lib.hid (HRR.out.trans (if_pos hx))
  clear K70 HDV HRR
  cases hd : c.dec x with
  | none => as_aux_lemma =>
    have HL := Lib.hid (show decR k x = (0, 0, 50) by rw [HRR2.out, hd]; rfl)
    obtain ⟨m0, _, hV⟩ := HV.1 hd
    rw [hV] at K70'
    have K7 := Lib.hid K70'
    clear K70' hV HV hd HRR2 hx
    go_enter Tryd.func32, Tryd.ntmps32
    go_wp2_with fail
    refine K57.out.mono ?_
    rintro e w1 ⟨rfl, hb1⟩
    have S1 := Lib.hid ((Own.start w).ext hb1)
    clear hb1
    go_upto_region 2 with fail
    have S2 := Lib.hid (S1.out.new 94 #[.int .u16 c.g, .int .i64 c.k, .int .i64 c.t])
    generalize w1.alloc _ = w2 at *
    generalize w1.heap.size = B6 at *
    clear S1
    obtain ⟨t0, t1, t2, _⟩ := (S2.out.bx 0 rfl).c3
    have lt := (S2.out.bx 0 rfl).2.2
    go_wp2_with fail
    refine (K7.out _).mono ?_
    rintro e w4 ⟨rfl, hb4⟩
    have S4 := Lib.hid (S2.out.ext hb4)
    clear hb4 t0 t1 t2 lt
    go_wp2_with fail
    go_ret3
    exact ⟨by rw [HL.out]; rfl, S4.out.bel⟩
  | some md => as_aux_lemma =>
    obtain ⟨mg, d⟩ := md
    have HL := Lib.hid (show decR k x = (mg, d, 0) by rw [HRR2.out, hd]; rfl)
    have hV := HV.2 mg d hd
    rw [hV] at K70'
    have K7 := Lib.hid K70'
    clear K70' hV HV hd HRR2 hx
    go_enter Tryd.func32, Tryd.ntmps32
    go_wp2_with fail
    refine K57.out.mono ?_
    rintro e w1 ⟨rfl, hb1⟩
    have S1 := Lib.hid ((Own.start w).ext hb1)
    clear hb1
    go_upto_region 2 with fail
    have S2 := Lib.hid (S1.out.new 94 #[.int .u16 c.g, .int .i64 c.k, .int .i64 c.t])
    generalize w1.alloc _ = w2 at *
    generalize w1.heap.size = B6 at *
    clear S1
    obtain ⟨t0, t1, t2, _⟩ := (S2.out.bx 0 rfl).c3
    have lt := (S2.out.bx 0 rfl).2.2
    go_wp2_with fail
    refine (K7.out _).mono ?_
    rintro e w4 ⟨rfl, hb4⟩
    have S4 := Lib.hid (S2.out.ext hb4)
    clear hb4 t0 t1 t2 lt
    go_wp2_with fail
    go_ret3
    exact ⟨by rw [HL.out]; rfl, S4.out.bel⟩
set_option maxRecDepth 100000 in
set_option maxHeartbeats 4000000 in
theorem words_true (l : List Nat) (A A' : Option Addr) (n n' cp cp' : Nat) (w : World) (hr : Rd w A (u16s l)) (hr' : Rd w A' (u16s l)) (hn : n = l.length) (hn' : n' = l.length) (hbig : n ≤ 4611686018427387904) :
    Calls Tryd.prog 36 #[.slice A n cp, .int .i64 0, .slice A' n' cp'] w fun e w' => e = .returned (.bool true) ∧ Below w.heap.size w w' := by
  have K := Lib.hid (sameWords_true l A A' n n' cp cp' w hr hr' hn hn' hbig)
  clear hr hr' hn hn' hbig
  go_enter Tryd.func36, Tryd.ntmps36
  go_wp2_with fail
  refine K.out.mono ?_
  rintro e w1 ⟨rfl, hb1⟩
  have HB := Lib.hid hb1
  clear hb1
  go_wp2_with fail
  go_ret
  exact ⟨rfl, HB.out⟩
set_option maxRecDepth 100000 in
theorem words_any (l l' : List Nat) (er : Int) (A A' : Option Addr) (n n' cp cp' : Nat) (w : World) (hr : Rd w A (u16s l)) (hr' : Rd w A' (u16s l')) (hn : n = l.length) (hn' : n' = l'.length) (hbig : n ≤ 4611686018427387904) :
    Calls Tryd.prog 36 #[.slice A n cp, .int .i64 er, .slice A' n' cp'] w fun e w' => e = .returned (.bool (decide (er = 0) && decide (l = l'))) ∧ Below w.heap.size w w' := by
  have K := Lib.hid (sameWords_any l l' A A' n n' cp cp' w hr hr' hn hn' hbig)
  clear hr hr' hn hn' hbig
  generalize decide (l = l') = v at *
  by_cases he : er = 0
  · subst he
    go_enter Tryd.func36, Tryd.ntmps36
    go_wp2_with fail
    refine K.out.mono ?_
    rintro e w1 ⟨rfl, hb1⟩
    have HB := Lib.hid hb1
    clear hb1
    go_wp2_with fail
    go_ret
    exact ⟨by simp, HB.out⟩
  · have hd : (decide (er = 0) && v) = false := by simp [he]
    rw [hd]
    clear hd K
    go_enter Tryd.func36, Tryd.ntmps36
    go_wp2_with fail
    go_ret
    exact ⟨rfl, Below.refl _ _⟩
set_option maxRecDepth 100000 in
set_option maxHeartbeats 4000000 in
theorem sameInts_any (l l' : List Int) (A A' : Option Addr) (n n' cp cp' : Nat) (w : World) (hr : Rd w A (i64s l)) (hr' : Rd w A' (i64s l')) (hn : n = l.length) (hn' : n' = l'.length) (hbig : n ≤ 4611686018427387904) :
    Calls Tryd.prog 42 #[.slice A n cp, .slice A' n' cp'] w fun e w' => e = .returned (.bool (decide (l = l'))) ∧ Below w.heap.size w w' := by
  by_cases hnn : n = n'
  case neg => as_aux_lemma =>
    have HF := Lib.hid (show decide (l = l') = false by
      rw [decide_eq_false_iff_not]
      rintro rfl
      omega)
    generalize decide (l = l') = v at *
    have g : ¬ (n : Int) = (n' : Int) := by omega
    clear hr hr' hn hn'
    go_enter Tryd.func42, Tryd.ntmps42
    go_wp2_with fail
    go_ret
    exact ⟨by rw [HF.out]; rfl, Below.refl _ _⟩
  obtain rfl : n = n' := hnn
  have HR := Lib.hid hr
  have HR' := Lib.hid hr'
  have HN := Lib.hid (show n = l.length ∧ n = l'.length from ⟨hn, hn'⟩)
  have HV := Lib.hid (show decide (l = l') = decide (l.drop 0 = l'.drop 0) by rw [List.drop_zero, List.drop_zero])
  generalize decide (l = l') = v at *
  clear hr hr' hn hn'
  go_enter Tryd.func42, Tryd.ntmps42
  go_wp2_with fail
  go_loopg [5] n (fun q u5 wr => ∃ i : Nat, i ≤ n ∧ u5 = .int .i64 (i : Nat) ∧ Hid (v = decide (l.drop i = l'.drop i) ∧ i + q = n ∧ Own w wr []))
  case atStart => exact ⟨0, by omega, rfl, HV.out, by omega, Own.start w⟩
  case round =>
    obtain ⟨i, hi, rfl, hI⟩ := hrel
    have I1 := Lib.hid hI.out.1
    have I2 := Lib.hid hI.out.2.1
    have I3 := Lib.hid hI.out.2.2
    clear hI
    by_cases hlt : i < n
    case neg => as_aux_lemma =>
      have HE := Lib.hid (show v = true by
        rw [I1.out, List.drop_eq_nil_of_le (by have := HN.out.1; omega), List.drop_eq_nil_of_le (by have := HN.out.2; omega)]; rfl)
      have hni : ¬ (i : Int) < (n : Int) := by omega
      go_wp2_with fail
      go_ret
      exact ⟨by rw [HE.out]; rfl, I3.out.bel⟩
    have hil : i < l.length := by have := HN.out.1; omega
    have hil' : i < l'.length := by have := HN.out.2; omega
    have hix : (i : Int) < (n : Int) := by omega
    obtain ⟨b0, off, rfl, k0, l0⟩ := HR.out.i64 hil
    obtain ⟨b1, off1, rfl, k1, l1⟩ := HR'.out.i64 hil'
    have HD := Lib.hid (show v = (decide (l[i] = l'[i]) && decide (l.drop (i + 1) = l'.drop (i + 1))) by
      rw [I1.out, List.drop_eq_getElem_cons hil, List.drop_eq_getElem_cons hil', Bool.eq_iff_iff]
      simp only [decide_eq_true_eq, Bool.and_eq_true, List.cons.injEq])
    generalize l[i] = x at *
    generalize l'[i] = y at *
    have fx0 := fun x : OwnOf w [] => x.out l0 k0
    have fx1 := fun x : OwnOf w [] => x.out l1 k1
    by_cases hx : x = y
    · as_aux_lemma =>
      have HE := Lib.hid (show v = decide (l.drop (i + 1) = l'.drop (i + 1)) by rw [HD.out]; simp [hx])
      subst hx
      go_wp2_with fail
      have hne : Nonempty (OwnOf w []) := ⟨⟨_, I3.out⟩⟩
      refine wp_region_own I3.out (by kernel_rfl) (by kernel_rfl) ?_
      iterate 9 (go_big_quiet_step (fail))
      refine wpQuiet_nil ?_
      rintro w3 ⟨z, hz⟩
      have S3 := Lib.hid (show Own w w3 [] by rw [hz]; exact z.own)
      clear hz z hne fx0 fx1
      go_wp2_with fail
      go_roundg (gk - 1)
      case measure => have := I2.out; omega
      case rel => exact ⟨i + 1, by omega, by go_num, HE.out, by have := I2.out; omega, S3.out⟩
    · as_aux_lemma =>
      have HE := Lib.hid (show v = false by rw [HD.out]; simp [hx])
      have hx2 : ¬ x = y := hx
      go_wp2_with fail
      have hne : Nonempty (OwnOf w []) := ⟨⟨_, I3.out⟩⟩
      refine wp_region_own I3.out (by kernel_rfl) (by kernel_rfl) ?_
      iterate 9 (go_big_quiet_step (fail))
      refine wpQuiet_nil ?_
      rintro w3 ⟨z, hz⟩
      have S3 := Lib.hid (show Own w w3 [] by rw [hz]; exact z.own)
      clear hz z hne fx0 fx1
      go_wp2_with fail
      go_ret
      exact ⟨by rw [HE.out]; rfl, S3.out.bel⟩
theorem sameInts_true (l : List Int) (A A' : Option Addr) (n n' cp cp' : Nat) (w : World) (hr : Rd w A (i64s l)) (hr' : Rd w A' (i64s l)) (hn : n = l.length) (hn' : n' = l.length) (hbig : n ≤ 4611686018427387904) :
    Calls Tryd.prog 42 #[.slice A n cp, .slice A' n' cp'] w fun e w' => e = .returned (.bool true) ∧ Below w.heap.size w w' := by
  have h := sameInts_any l l A A' n n' cp cp' w hr hr' hn hn' hbig
  simpa using h
/-- The example's vault. -/
def exV : List Int := [5, 17, 7, 27, 20, 0, 11, 4, 13, 15, 26, 6, 30, 16, 9, 21, 1, 25, 11, 4, 15, 27, 19, 6, 30, 10, 21, 14, 0, 24, 5]
set_option maxRecDepth 100000 in
set_option maxHeartbeats 1000000 in
theorem vaultW_any (w : World) : Calls Tryd.prog 71 #[] w fun e w' => ∃ A c, e = .returned (.slice A 31 c) ∧ Own w w' [row 3 1 (.slice A 31 c) 31 (i64s exV)] := by
  go_enter Tryd.func71, Tryd.ntmps71
  go_wp2_with fail
  go_ret
  exact ⟨_, _, rfl, ((Own.start w).new' 3 #[.int .i64 5, .int .i64 17, .int .i64 7, .int .i64 27, .int .i64 20, .int .i64 0, .int .i64 11, .int .i64 4, .int .i64 13, .int .i64 15, .int .i64 26, .int .i64 6, .int .i64 30, .int .i64 16, .int .i64 9, .int .i64 21, .int .i64 1, .int .i64 25, .int .i64 11, .int .i64 4, .int .i64 15, .int .i64 27, .int .i64 19, .int .i64 6, .int .i64 30, .int .i64 10, .int .i64 21, .int .i64 14, .int .i64 0, .int .i64 24, .int .i64 5] (B := w.heap.size) rfl).asRow (size := 1) (n := 31) 0 rfl rfl (by unfold maxLen; omega)⟩
end Go.Proofs.YtnienfgaidccpaaDoor
