/- Sketch: the walks of SketchFar and SketchCorrects. No condition. -/
import Derived.Test.YtnienfgaidccpaaDoorMb
import Derived.Test.YtnienfgaidccpaaDoorMc
namespace Go.Proofs.YtnienfgaidccpaaDoor
open Go.RowKit Go.Shelf
attribute [local go_sem] Oper.semAt_some

theorem encR_ok {k : Int} {m : Nat} {x : Nat} {e : Int} (h : encR k m = (x, e)) (h0 : e = 0) : kindB k = true ∧ m < 2 ^ (kd k.toNat).k ∧ x = (kd k.toNat).code m := by
  unfold encR at h
  split at h
  · next hc =>
    simp only [Bool.and_eq_true, decide_eq_true_eq] at hc
    injection h with h1 h2
    exact ⟨hc.1, hc.2, h1.symm⟩
  · injection h with h1 h2
    omega
theorem encR_err {k : Int} {m : Nat} {x : Nat} {e : Int} (h : encR k m = (x, e)) (h0 : ¬ e = 0) : e = 2 ∧ (kindB k && decide (m < 2 ^ (kd k.toNat).k)) = false := by
  unfold encR at h
  split at h
  · injection h with h1 h2
    omega
  · next hc =>
    injection h with h1 h2
    exact ⟨h2.symm, by simpa using hc⟩
theorem encR_of {k : Int} {m : Nat} (h1 : kindB k = true) (h2 : m < 2 ^ (kd k.toNat).k) : encR k m = ((kd k.toNat).code m, 0) := by
  unfold encR
  rw [if_pos (by rw [h1]; simpa using h2)]
theorem tmplB_one {x : Nat} (h : x < 2 ^ 15) : tmplB [x] = true := by
  have : x < 32768 := h
  simp [tmplB, this]
theorem skL_code {n m : Nat} (h1 : 1 ≤ n) (h3 : n ≤ 3) (hm : m < 2 ^ (kd n).k) : skL n [(kd n).code m] = [0] ∧ skE n [(kd n).code m] = 0 := by
  have hk : kindB (n : Int) = true := by simp only [kindB, Bool.and_eq_true, decide_eq_true_eq]; omega
  have ht := tmplB_one (Kd.code_lt (kd_ok h1 h3) hm)
  have hr := Kd.rest_code (kd_ok h1 h3) hm
  constructor
  · unfold skL; rw [hk, ht]; simp [hr]
  · unfold skE; rw [hk, ht]; rfl
set_option maxRecDepth 100000 in
set_option maxHeartbeats 4000000 in
theorem farLaw_any (k : Int) (a b : Nat) (w : World) (hc : Cod w) (hk : 0 ≤ k ∧ k ≤ 255) (ha : a < 65536) (hb : b < 65536) :
    Calls Tryd.prog 5 #[.int .u8 k, .int .u16 (a : Nat), .int .u16 (b : Nat)] w fun e w' => e = .returned (.bool true) ∧ Below w.heap.size w w' := by
  have HC := Lib.hid (fun W (h : Below w.heap.size w W) => hc.below h)
  have K27 := Lib.hid (fun W (h : Below w.heap.size w W) => alive_any W (HC.out W h))
  have KA := fun W (h : Below w.heap.size w W) => encodeW_any k a W (HC.out W h) hk
  have KB := fun W (h : Below w.heap.size w W) => encodeW_any k b W (HC.out W h) hk
  obtain ⟨xa, ea, hea⟩ : ∃ x e, encR k a = (x, e) := ⟨_, _, rfl⟩
  obtain ⟨xb, eb, heb⟩ : ∃ x e, encR k b = (x, e) := ⟨_, _, rfl⟩
  rw [hea] at KA
  rw [heb] at KB
  replace KA := Lib.hid KA
  replace KB := Lib.hid KB
  have S := Lib.hid (Own.start w)
  by_cases h1 : ea = 0
  case neg => as_aux_lemma =>
    clear hea heb hc hk
    go_enter Tryd.func5, Tryd.ntmps5
    go_wp2_with fail
    refine (K27.out _ S.out.bel).mono ?_
    rintro e w1 ⟨rfl, hb1⟩
    replace S := Lib.hid (S.out.ext hb1)
    clear hb1
    go_wp2_with fail
    refine (KA.out _ S.out.bel).mono ?_
    rintro e w2 ⟨rfl, hb2⟩
    replace S := Lib.hid (S.out.ext hb2)
    clear hb2
    go_wp2_with fail
    refine (KB.out _ S.out.bel).mono ?_
    rintro e w3 ⟨rfl, hb3⟩
    replace S := Lib.hid (S.out.ext hb3)
    clear hb3
    go_wp2_with fail
    go_ret
    exact ⟨rfl, S.out.bel⟩
  by_cases h2 : eb = 0
  case neg => as_aux_lemma =>
    clear hea heb hc hk
    subst h1
    go_enter Tryd.func5, Tryd.ntmps5
    go_wp2_with fail
    refine (K27.out _ S.out.bel).mono ?_
    rintro e w1 ⟨rfl, hb1⟩
    replace S := Lib.hid (S.out.ext hb1)
    clear hb1
    go_wp2_with fail
    refine (KA.out _ S.out.bel).mono ?_
    rintro e w2 ⟨rfl, hb2⟩
    replace S := Lib.hid (S.out.ext hb2)
    clear hb2
    go_wp2_with fail
    refine (KB.out _ S.out.bel).mono ?_
    rintro e w3 ⟨rfl, hb3⟩
    replace S := Lib.hid (S.out.ext hb3)
    clear hb3
    go_wp2_with fail
    go_ret
    exact ⟨rfl, S.out.bel⟩
  obtain ⟨hkb, hma, rfl⟩ := encR_ok hea h1
  obtain ⟨_, hmb, rfl⟩ := encR_ok heb h2
  subst h1
  subst h2
  clear hea heb
  obtain ⟨n, rfl, hm1, hm3, hmt⟩ := kind_bd hkb
  rw [hmt] at hma hmb KA KB
  have hok := kd_ok hm1 hm3
  have hx : a ^^^ b < 2 ^ (kd n).k := Nat.xor_lt_two_pow hma hmb
  have KX := fun W (h : Below w.heap.size w W) => encodeW_any n (a ^^^ b) W (HC.out W h) hk
  rw [encR_of hkb (by rw [hmt]; exact hx), hmt, Kd.code_xor] at KX
  have KS := fun A cp W (h : Below w.heap.size w W) (hr : Rd W A (u16s [(kd n).code a])) => sketch_main n [(kd n).code a] A 1 cp W (HC.out W h) hk hr rfl
  rw [(skL_code hm1 hm3 hma).1, (skL_code hm1 hm3 hma).2] at KS
  unfold WsPost at KS
  have KK := Lib.hid (fun W => K_any n hm1 hm3 W)
  have KT := Lib.hid (fun W => T_any n hm1 hm3 W)
  have la := Kd.code_lt hok hma
  have lb := Kd.code_lt hok hmb
  have KF := Lib.hid (fun W => far_any ((kd n).code a) ((kd n).code b) (by omega) (by omega) W)
  have HT := Lib.hid (Kd.code_top hok hma)
  have HG := Lib.hid (fun (hne : a ≠ b) => show 2 * (kd n).t + 1 ≤ cnt ((kd n).code a ^^^ (kd n).code b) by
    have := Kd.far hok hx (by intro h0; exact hne (by have h1 := xor_xor a b; rw [h0, Nat.zero_xor] at h1; exact h1.symm))
    rw [Kd.code_xor] at this
    omega)
  have hs := hok.sum
  obtain ⟨s1, s2, s3, s4, s5, s6⟩ := hs
  generalize kd n = c at *
  have e1 : bits .xor .u16 (a : Int) (b : Int) = ((a ^^^ b : Nat) : Int) := u16_xor_nat _ _ ha hb
  have e2 : bits .xor .u16 (c.code a : Int) (c.code b : Int) = ((c.code a ^^^ c.code b : Nat) : Int) := u16_xor_nat _ _ (by omega) (by omega)
  have e3 : IntKind.i64.wrap (15 - (c.k : Int)) = c.f := by rw [IntWalk.i64_in _ (by omega)]; omega
  have b1 : 0 ≤ (c.f : Int) := by omega
  have b2 : (c.f : Int) ≤ 16 := by omega
  have hsc := shr_cast (c.code a) c.f
  rw [HT.out] at hsc
  have hcl := cnt_le16 (c.code a ^^^ c.code b)
  replace KX := Lib.hid KX
  replace KS := Lib.hid KS
  clear hkb hmt hok hx hma hmb HT hc hk hm1 hm3
  generalize c.code a ^^^ c.code b = xc at *
  generalize c.code a = xa at *
  generalize c.code b = xb at *
  generalize a ^^^ b = ab at *
  generalize cnt xc = d at *
  by_cases hab : a = b
  · as_aux_lemma =>
    subst hab
    clear HG KF
    go_enter Tryd.func5, Tryd.ntmps5
    go_wp2_with fail
    refine (K27.out _ S.out.bel).mono ?_
    rintro e w1 ⟨rfl, hb1⟩
    replace S := Lib.hid (S.out.ext hb1)
    clear hb1
    go_wp2_with fail
    refine (KA.out _ S.out.bel).mono ?_
    rintro e w2 ⟨rfl, hb2⟩
    replace S := Lib.hid (S.out.ext hb2)
    clear hb2
    go_wp2_with fail
    refine (KB.out _ S.out.bel).mono ?_
    rintro e w3 ⟨rfl, hb3⟩
    replace S := Lib.hid (S.out.ext hb3)
    clear hb3
    go_wp2_with fail
    refine (KX.out _ S.out.bel).mono ?_
    rintro e w4 ⟨rfl, hb4⟩
    replace S := Lib.hid (S.out.ext hb4)
    clear hb4
    go_wp2_with fail
    refine (KS.out _ _ _ (S.out.ext (below_alloc w4 (.cells #[.int .u16 (xa : Nat)] 41))).bel (Rd.new w4 #[.int .u16 (xa : Nat)] 41)).mono ?_
    rintro e w5 ⟨A9, c9, rfl, hO⟩
    replace S := Lib.hid ((S.out.ext (below_alloc w4 (.cells #[.int .u16 (xa : Nat)] 41))).call hO)
    clear hO
    go_wp2_with fail
    refine (KK.out _).mono ?_
    rintro e w6 ⟨rfl, hb6⟩
    replace S := Lib.hid (S.out.ext hb6)
    clear hb6
    go_wp2_with fail
    refine (words_true [0] A9 _ 1 1 c9 _ _ ((S.out.rd 0 rfl).below (below_alloc w6 (.cells #[.int .u16 0] 41))) (Rd.new w6 #[.int .u16 0] 41) rfl rfl (by decide)).mono ?_
    rintro e w7 ⟨rfl, hb7⟩
    replace S := Lib.hid ((S.out.ext (below_alloc (w6) (.cells #[.int .u16 0] 41))).ext hb7)
    clear hb7
    go_wp2_with fail
    go_ret
    exact ⟨rfl, S.out.bel⟩
  · as_aux_lemma =>
    have HG2 : 2 * (c.t : Int) + 1 ≤ (d : Int) := by have := HG.out hab; omega
    have hne : ¬ (a : Int) = (b : Int) := by omega
    have e5 : IntKind.i64.wrap (2 * (c.t : Int)) = 2 * (c.t : Int) := IntWalk.i64_in _ (by omega)
    have e6 : IntKind.i64.wrap (2 * (c.t : Int) + 1) = 2 * (c.t : Int) + 1 := IntWalk.i64_in _ (by omega)
    clear HG hab
    go_enter Tryd.func5, Tryd.ntmps5
    go_wp2_with fail
    refine (K27.out _ S.out.bel).mono ?_
    rintro e w1 ⟨rfl, hb1⟩
    replace S := Lib.hid (S.out.ext hb1)
    clear hb1
    go_wp2_with fail
    refine (KA.out _ S.out.bel).mono ?_
    rintro e w2 ⟨rfl, hb2⟩
    replace S := Lib.hid (S.out.ext hb2)
    clear hb2
    go_wp2_with fail
    refine (KB.out _ S.out.bel).mono ?_
    rintro e w3 ⟨rfl, hb3⟩
    replace S := Lib.hid (S.out.ext hb3)
    clear hb3
    go_wp2_with fail
    refine (KX.out _ S.out.bel).mono ?_
    rintro e w4 ⟨rfl, hb4⟩
    replace S := Lib.hid (S.out.ext hb4)
    clear hb4
    go_wp2_with fail
    refine (KS.out _ _ _ (S.out.ext (below_alloc w4 (.cells #[.int .u16 (xa : Nat)] 41))).bel (Rd.new w4 #[.int .u16 (xa : Nat)] 41)).mono ?_
    rintro e w5 ⟨A9, c9, rfl, hO⟩
    replace S := Lib.hid ((S.out.ext (below_alloc w4 (.cells #[.int .u16 (xa : Nat)] 41))).call hO)
    clear hO
    go_wp2_with fail
    refine (KK.out _).mono ?_
    rintro e w6 ⟨rfl, hb6⟩
    replace S := Lib.hid (S.out.ext hb6)
    clear hb6
    go_wp2_with fail
    refine (words_true [0] A9 _ 1 1 c9 _ _ ((S.out.rd 0 rfl).below (below_alloc w6 (.cells #[.int .u16 0] 41))) (Rd.new w6 #[.int .u16 0] 41) rfl rfl (by decide)).mono ?_
    rintro e w7 ⟨rfl, hb7⟩
    replace S := Lib.hid ((S.out.ext (below_alloc (w6) (.cells #[.int .u16 0] 41))).ext hb7)
    clear hb7
    go_wp2_with fail
    refine (KF.out _).mono ?_
    rintro e w8 ⟨rfl, rfl⟩
    go_wp2_with fail
    refine (KT.out _).mono ?_
    rintro e w9 ⟨rfl, hb9⟩
    replace S := Lib.hid (S.out.ext hb9)
    clear hb9
    go_wp2_with fail
    go_ret
    exact ⟨rfl, S.out.bel⟩
set_option maxRecDepth 100000 in
set_option maxHeartbeats 4000000 in
theorem correctsLaw_any (k : Int) (m : Nat) (l : List Nat) (A : Option Addr) (n cp : Nat) (w : World) (hc : Cod w) (hk : 0 ≤ k ∧ k ≤ 255) (hm : m < 65536) (hr : Rd w A (u8s l)) (hn : n = l.length) :
    Calls Tryd.prog 4 #[.int .u8 k, .int .u16 (m : Nat), .slice A n cp] w fun e w' => e = .returned (.bool true) ∧ Below w.heap.size w w' := by
  have HC := Lib.hid (fun W (h : Below w.heap.size w W) => hc.below h)
  have K27 := Lib.hid (fun W (h : Below w.heap.size w W) => alive_any W (HC.out W h))
  have S := Lib.hid (Own.start w)
  by_cases hl : n ≤ 20
  case neg => as_aux_lemma =>
    have hl2 : (20 : Int) < (n : Int) := by omega
    clear hl hn hr hc hk
    go_enter Tryd.func4, Tryd.ntmps4
    go_wp2_with fail
    refine (K27.out _ S.out.bel).mono ?_
    rintro e w1 ⟨rfl, hb1⟩
    replace S := Lib.hid (S.out.ext hb1)
    clear hb1
    go_wp2_with fail
    go_ret
    exact ⟨rfl, S.out.bel⟩
  have hl2 : ¬ (20 : Int) < (n : Int) := by omega
  have KM := fun W (h : Below w.heap.size w W) => encodeW_any k m W (HC.out W h) hk
  obtain ⟨x, e, hex⟩ : ∃ x e, encR k m = (x, e) := ⟨_, _, rfl⟩
  rw [hex] at KM
  replace KM := Lib.hid KM
  have KQ := fun W => Kind_any k W
  by_cases h1 : e = 0
  case neg =>
    obtain ⟨he, hf⟩ := encR_err hex h1
    clear h1 hex
    subst he
    cases hkb : kindB k
    · as_aux_lemma =>
      rw [hkb] at KQ
      replace KQ := Lib.hid KQ
      clear hf hkb hn hr hc hk hl
      go_enter Tryd.func4, Tryd.ntmps4
      go_wp2_with fail
      refine (K27.out _ S.out.bel).mono ?_
      rintro e w1 ⟨rfl, hb1⟩
      replace S := Lib.hid (S.out.ext hb1)
      clear hb1
      go_wp2_with fail
      refine (KM.out _ S.out.bel).mono ?_
      rintro e w2 ⟨rfl, hb2⟩
      replace S := Lib.hid (S.out.ext hb2)
      clear hb2
      go_wp2_with fail
      refine (KQ.out _).mono ?_
      rintro e w3 ⟨rfl, hb3⟩
      replace S := Lib.hid (S.out.ext hb3)
      clear hb3
      go_wp2_with fail
      go_ret
      exact ⟨rfl, S.out.bel⟩
    · as_aux_lemma =>
      rw [hkb] at KQ
      replace KQ := Lib.hid KQ
      obtain ⟨q, rfl, hm1, hm3, hmt⟩ := kind_bd hkb
      rw [hkb, hmt, Bool.true_and] at hf
      have KI := fun W => isMessage_any q hm1 hm3 m hm W
      rw [hf] at KI
      replace KI := Lib.hid KI
      clear hf hkb hn hr hc hk hl hmt hm1 hm3
      go_enter Tryd.func4, Tryd.ntmps4
      go_wp2_with fail
      refine (K27.out _ S.out.bel).mono ?_
      rintro e w1 ⟨rfl, hb1⟩
      replace S := Lib.hid (S.out.ext hb1)
      clear hb1
      go_wp2_with fail
      refine (KM.out _ S.out.bel).mono ?_
      rintro e w2 ⟨rfl, hb2⟩
      replace S := Lib.hid (S.out.ext hb2)
      clear hb2
      go_wp2_with fail
      refine (KQ.out _).mono ?_
      rintro e w3 ⟨rfl, hb3⟩
      replace S := Lib.hid (S.out.ext hb3)
      clear hb3
      go_wp2_with fail
      refine (KI.out _).mono ?_
      rintro e w4 ⟨rfl, hb4⟩
      replace S := Lib.hid (S.out.ext hb4)
      clear hb4
      go_wp2_with fail
      go_ret
      exact ⟨rfl, S.out.bel⟩
  obtain ⟨hkb, hmk, rfl⟩ := encR_ok hex h1
  subst h1
  clear hex
  rw [hkb] at KQ
  replace KQ := Lib.hid KQ
  obtain ⟨q, rfl, hm1, hm3, hmt⟩ := kind_bd hkb
  have KE := fun m' (h : m' < 2 ^ (kd q).k) W (hb : Below w.heap.size w W) => encodeW_any q m' W (HC.out W hb) hk
  have KI := fun W => isMessage_any q hm1 hm3 m hm W
  rw [hmt] at hmk KM
  rw [decide_eq_true hmk] at KI
  replace KI := Lib.hid KI
  have hok := kd_ok hm1 hm3
  have lc : (kd q).code m < 2 ^ 15 := Kd.code_lt hok hmk
  have lf : flipF ((kd q).code m) l < 2 ^ 15 := flipF_lt15 l lc
  have KF := Lib.hid (fun W (h : Below w.heap.size w W) => flips_any ((kd q).code m) l A n cp W (by omega) (hr.below h) hn (by omega))
  have KD := fun W (h : Below w.heap.size w W) => decodeW_any q (flipF ((kd q).code m) l) (by omega) W (HC.out W h) hk
  have KT := Lib.hid (fun W => T_any q hm1 hm3 W)
  have KG := Lib.hid (fun c (h : c < 2 ^ 16) W => far_any c (flipF ((kd q).code m) l) h (by omega) W)
  have hR : decR q (flipF ((kd q).code m) l) = decO ((kd q).dec (flipF ((kd q).code m) l)) := by
    unfold decR
    rw [hmt, if_pos (by rw [hkb]; simpa using (show flipF ((kd q).code m) l < 32768 from lf))]
  rw [hR] at KD
  have lcI : decide ((32768 : Int) ≤ ((kd q).code m : Int)) = false := decide_eq_false (by omega)
  have hdl := cnt_le16 (flipF ((kd q).code m) l ^^^ (kd q).code m)
  have hs := hok.sum
  obtain ⟨s1, s2, s3, s4, s5, s6⟩ := hs
  by_cases ht : cnt (flipF ((kd q).code m) l ^^^ (kd q).code m) ≤ (kd q).t
  · as_aux_lemma =>
    rw [Kd.dec_eq hok hmk ht] at KD
    replace KD := Lib.hid KD
    clear KE KG hR hn hr hc hk hl hmt hm1 hm3 hok hmk hkb
    generalize cnt (flipF ((kd q).code m) l ^^^ (kd q).code m) = d at *
    generalize flipF ((kd q).code m) l = xf at *
    generalize (kd q).code m = xc at *
    generalize (kd q).t = t at *
    clear s1 s2 s3 s4
    have htI : (d : Int) ≤ (t : Int) := by omega
    clear ht
    unfold decO at KD
    go_enter Tryd.func4, Tryd.ntmps4
    go_wp2_with fail
    refine (K27.out _ S.out.bel).mono ?_
    rintro e w1 ⟨rfl, hb1⟩
    replace S := Lib.hid (S.out.ext hb1)
    clear hb1
    go_wp2_with fail
    refine (KM.out _ S.out.bel).mono ?_
    rintro e w2 ⟨rfl, hb2⟩
    replace S := Lib.hid (S.out.ext hb2)
    clear hb2
    go_wp2_with fail
    refine (KQ.out _).mono ?_
    rintro e w3 ⟨rfl, hb3⟩
    replace S := Lib.hid (S.out.ext hb3)
    clear hb3
    go_wp2_with fail
    refine (KI.out _).mono ?_
    rintro e w4 ⟨rfl, hb4⟩
    replace S := Lib.hid (S.out.ext hb4)
    clear hb4
    go_wp2_with fail
    refine (KF.out _ S.out.bel).mono ?_
    rintro e w5 ⟨rfl, rfl⟩
    go_wp2_with fail
    refine (KD.out _ S.out.bel).mono ?_
    rintro e w6 ⟨rfl, hb6⟩
    replace S := Lib.hid (S.out.ext hb6)
    clear hb6
    go_wp2_with fail
    refine (KT.out _).mono ?_
    rintro e w7 ⟨rfl, hb7⟩
    replace S := Lib.hid (S.out.ext hb7)
    clear hb7
    go_wp2_with fail
    go_ret
    exact ⟨rfl, S.out.bel⟩
  have htI : ¬ (cnt (flipF ((kd q).code m) l ^^^ (kd q).code m) : Int) ≤ ((kd q).t : Int) := by omega
  cases hd : (kd q).dec (flipF ((kd q).code m) l) with
  | none => as_aux_lemma =>
    rw [hd] at KD
    replace KD := Lib.hid KD
    clear KE KG hR hn hr hc hk hl hmt hm1 hm3 hok hmk hkb hd
    generalize cnt (flipF ((kd q).code m) l ^^^ (kd q).code m) = d at *
    generalize flipF ((kd q).code m) l = xf at *
    generalize (kd q).code m = xc at *
    generalize (kd q).t = t at *
    clear s1 s2 s3 s4 ht
    unfold decO at KD
    go_enter Tryd.func4, Tryd.ntmps4
    go_wp2_with fail
    refine (K27.out _ S.out.bel).mono ?_
    rintro e w1 ⟨rfl, hb1⟩
    replace S := Lib.hid (S.out.ext hb1)
    clear hb1
    go_wp2_with fail
    refine (KM.out _ S.out.bel).mono ?_
    rintro e w2 ⟨rfl, hb2⟩
    replace S := Lib.hid (S.out.ext hb2)
    clear hb2
    go_wp2_with fail
    refine (KQ.out _).mono ?_
    rintro e w3 ⟨rfl, hb3⟩
    replace S := Lib.hid (S.out.ext hb3)
    clear hb3
    go_wp2_with fail
    refine (KI.out _).mono ?_
    rintro e w4 ⟨rfl, hb4⟩
    replace S := Lib.hid (S.out.ext hb4)
    clear hb4
    go_wp2_with fail
    refine (KF.out _ S.out.bel).mono ?_
    rintro e w5 ⟨rfl, rfl⟩
    go_wp2_with fail
    refine (KD.out _ S.out.bel).mono ?_
    rintro e w6 ⟨rfl, hb6⟩
    replace S := Lib.hid (S.out.ext hb6)
    clear hb6
    go_wp2_with fail
    refine (KT.out _).mono ?_
    rintro e w7 ⟨rfl, hb7⟩
    replace S := Lib.hid (S.out.ext hb7)
    clear hb7
    go_wp2_with fail
    go_ret
    exact ⟨rfl, S.out.bel⟩
  | some md => as_aux_lemma =>
    obtain ⟨m', d'⟩ := md
    rw [hd] at KD
    replace KD := Lib.hid KD
    obtain ⟨g1, g2, g3, g4⟩ := Kd.near_some _ _ _ hd
    simp only [Nat.zero_add] at g2
    have KE' := fun W hb => KE m' g2 W hb
    rw [encR_of hkb (by rw [hmt]; exact g2), hmt] at KE'
    replace KE' := Lib.hid KE'
    have lc2 : (kd q).code m' < 2 ^ 15 := Kd.code_lt hok g2
    have KG' := Lib.hid (fun W => KG.out ((kd q).code m') (by omega) W)
    rw [Nat.xor_comm, ← (show d' = _ from g3)] at KG'
    have g4I : (d' : Int) ≤ ((kd q).t : Int) := by simp only at g4; omega
    clear KE KG hR hn hr hc hk hl hmt hm1 hm3 hok hmk hkb hd g1 g2 g3 g4 lc2
    generalize cnt (flipF ((kd q).code m) l ^^^ (kd q).code m) = d at *
    generalize flipF ((kd q).code m) l = xf at *
    generalize (kd q).code m = xc at *
    generalize (kd q).code m' = xc' at *
    generalize (kd q).t = t at *
    clear s1 s2 s3 s4 ht
    unfold decO at KD
    go_enter Tryd.func4, Tryd.ntmps4
    go_wp2_with fail
    refine (K27.out _ S.out.bel).mono ?_
    rintro e w1 ⟨rfl, hb1⟩
    replace S := Lib.hid (S.out.ext hb1)
    clear hb1
    go_wp2_with fail
    refine (KM.out _ S.out.bel).mono ?_
    rintro e w2 ⟨rfl, hb2⟩
    replace S := Lib.hid (S.out.ext hb2)
    clear hb2
    go_wp2_with fail
    refine (KQ.out _).mono ?_
    rintro e w3 ⟨rfl, hb3⟩
    replace S := Lib.hid (S.out.ext hb3)
    clear hb3
    go_wp2_with fail
    refine (KI.out _).mono ?_
    rintro e w4 ⟨rfl, hb4⟩
    replace S := Lib.hid (S.out.ext hb4)
    clear hb4
    go_wp2_with fail
    refine (KF.out _ S.out.bel).mono ?_
    rintro e w5 ⟨rfl, rfl⟩
    go_wp2_with fail
    refine (KD.out _ S.out.bel).mono ?_
    rintro e w6 ⟨rfl, hb6⟩
    replace S := Lib.hid (S.out.ext hb6)
    clear hb6
    go_wp2_with fail
    refine (KT.out _).mono ?_
    rintro e w7 ⟨rfl, hb7⟩
    replace S := Lib.hid (S.out.ext hb7)
    clear hb7
    go_wp2_with fail
    refine (KE'.out _ S.out.bel).mono ?_
    rintro e w8 ⟨rfl, hb8⟩
    replace S := Lib.hid (S.out.ext hb8)
    clear hb8
    go_wp2_with fail
    refine (KG'.out _).mono ?_
    rintro e w9 ⟨rfl, rfl⟩
    go_wp2_with fail
    refine (KT.out _).mono ?_
    rintro e w10 ⟨rfl, hb10⟩
    replace S := Lib.hid (S.out.ext hb10)
    clear hb10
    go_wp2_with fail
    go_ret
    exact ⟨rfl, S.out.bel⟩
end Go.Proofs.YtnienfgaidccpaaDoor
