/- Sketch: Recover of the reference. No condition. -/
import Derived.Test.YtnienfgaidccpaaDoorKi
import Derived.Deep.RegionHeld3
namespace Go.Proofs.YtnienfgaidccpaaDoor
open Go.RowKit Go.Shelf
attribute [local go_sem] Oper.semAt_some

theorem decV_none : decV none = .tuple #[.int .u16 0, .int .i64 0, .bool false] := rfl
set_option maxRecDepth 100000 in
set_option maxHeartbeats 4000000 in
theorem refRecover_any (k : Int) (sk t : List Nat) (A A' : Option Addr) (n n' cp cp' : Nat) (w : World) (hs : Rd w A (u16s sk)) (ht : Rd w A' (u16s t)) (hn : n = sk.length) (hn' : n' = t.length) (hbig : n ≤ 4611686018427387904) (hw : W16 sk) :
    Calls Tryd.prog 21 #[.int .u8 k, .slice A n cp, .slice A' n' cp'] w (RecPost (recR k sk t) w) := by
  have K29 := fun W => Kind_any k W
  have K46 := fun W (h : Rd W A' (u16s t)) => refTemplate_any t A' n' cp' W h hn'
  have HFs := Lib.hid (fun W (h : Below w.heap.size w W) => hs.below h)
  have HFt := Lib.hid (fun W (h : Below w.heap.size w W) => ht.below h)
  cases hkb : kindB k
  · as_aux_lemma =>
    have HL := Lib.hid (show recR k sk t = ([], 0, 2) by simp [recR, recB, hkb])
    rw [hkb] at K29
    replace K29 := Lib.hid K29
    clear hs ht hn hn' hkb K46 hw
    go_enter Tryd.func21, Tryd.ntmps21
    go_wp2_with fail
    refine (K29.out _).mono ?_
    rintro e w1 ⟨rfl, hb1⟩
    have S1 := Lib.hid ((Own.start w).ext hb1)
    clear hb1
    go_wp2_with fail
    go_ret3
    exact ⟨none, 0, by rw [HL.out]; rfl, by rw [HL.out]; exact (S1.out.nil 41 1)⟩
  obtain ⟨m, hm, hm1, hm3, hmt⟩ := kind_bd hkb
  have hok := kd_ok hm1 hm3
  have HRR := Lib.hid (show recB k sk t = (tmplB t && (decide (sk.length = t.length) && sk.all fun m' => decide (m' < 2 ^ (kd m).f))) by simp [recB, hkb, hmt])
  have HRO := Lib.hid (show recR k sk t = if recB k sk t = true then recO (runF (recF (kd m) t sk) t.length) else ([], 0, 2) by rw [recR, hmt])
  rw [hkb] at K29
  replace K29 := Lib.hid K29
  cases htb : tmplB t
  · as_aux_lemma =>
    have HL := Lib.hid (show recR k sk t = ([], 0, 2) by rw [HRO.out, HRR.out, htb]; rfl)
    rw [htb] at K46
    replace K46 := Lib.hid K46
    clear hs ht hn hn' htb hw hkb hm hmt hok
    go_enter Tryd.func21, Tryd.ntmps21
    go_wp2_with fail
    refine (K29.out _).mono ?_
    rintro e w1 ⟨rfl, hb1⟩
    have S1 := Lib.hid ((Own.start w).ext hb1)
    clear hb1
    go_wp2_with fail
    refine (K46.out _ (HFt.out _ S1.out.bel)).mono ?_
    rintro e w3 ⟨rfl, rfl⟩
    go_wp2_with fail
    go_ret3
    exact ⟨none, 0, by rw [HL.out]; rfl, by rw [HL.out]; exact (S1.out.nil 41 1)⟩
  rw [htb] at K46
  replace K46 := Lib.hid K46
  by_cases hlen : n = n'
  case neg => as_aux_lemma =>
    have HL := Lib.hid (show recR k sk t = ([], 0, 2) by rw [HRO.out, HRR.out, decide_eq_false (by omega)]; simp)
    have hne : ¬ (n : Int) = (n' : Int) := by omega
    clear hs ht hn hn' htb hlen hw hkb hm hmt hok
    go_enter Tryd.func21, Tryd.ntmps21
    go_wp2_with fail
    refine (K29.out _).mono ?_
    rintro e w1 ⟨rfl, hb1⟩
    have S1 := Lib.hid ((Own.start w).ext hb1)
    clear hb1
    go_wp2_with fail
    refine (K46.out _ (HFt.out _ S1.out.bel)).mono ?_
    rintro e w3 ⟨rfl, rfl⟩
    go_wp2_with fail
    go_ret3
    exact ⟨none, 0, by rw [HL.out]; rfl, by rw [HL.out]; exact (S1.out.nil 41 1)⟩
  subst hlen
  obtain ⟨l1, l4, l15⟩ := tmpl_bd htb
  have HL0 := Lib.hid (fun (h : ∃ x ∈ sk, ¬ x < 2 ^ (kd m).f) => (show recR k sk t = ([], 0, 2) by
      obtain ⟨x, hx, hxn⟩ := h
      have : (sk.all fun m' => decide (m' < 2 ^ (kd m).f)) = false := by
        rw [List.all_eq_false]; exact ⟨x, hx, by simpa using hxn⟩
      rw [HRO.out, HRR.out, this]; simp))
  have HL := Lib.hid (fun (h : ∀ x ∈ sk, x < 2 ^ (kd m).f) => (show recR k sk t = recO (runF (recF (kd m) t sk) n) by
      have : (sk.all fun m' => decide (m' < 2 ^ (kd m).f)) = true := by
        rw [List.all_eq_true]; exact fun x hx => by simpa using h x hx
      rw [HRO.out, HRR.out, htb, this, decide_eq_true (by omega), hn']; rfl))
  have HLB := Lib.hid l15
  have HN := Lib.hid hn
  have HN' := Lib.hid hn'
  have hn1 : 1 ≤ n := by omega
  have hn4 : n ≤ 4 := by omega
  have HIS := Lib.hid (fun x (hx : x < 2 ^ 16) W => isSketch_any m hm1 hm3 x hx W)
  have HD := Lib.hid (fun x (hx : x < 2 ^ 15) W => refDecoded_any m hm1 hm3 x hx W)
  have HCO := Lib.hid (fun x (hx : x < 2 ^ (kd m).k) W => refCoded_any m hm1 hm3 x hx W)
  have HPF := Lib.hid (pow_f_le hok)
  have HDN := Lib.hid (fun (w s : Nat) hw hs h => dec_none (w := w) (s := s) hok hw hs h)
  have HDS := Lib.hid (fun (w s y d : Nat) hw hs h => dec_some (w := w) (s := s) (y := y) (d := d) hok hw hs h)
  have HW := Lib.hid hw
  generalize kd m = c at *
  subst hm
  clear hs ht hn hn' htb l1 l4 l15 HRR HRO hbig hok hkb hmt hw
  as_aux_lemma =>
  go_enter Tryd.func21, Tryd.ntmps21
  go_wp2_with fail
  refine (K29.out _).mono ?_
  rintro e w1 ⟨rfl, hb1⟩
  have S1 := Lib.hid ((Own.start w).ext hb1)
  clear hb1
  go_wp2_with fail
  refine (K46.out _ (HFt.out _ S1.out.bel)).mono ?_
  rintro e w3 ⟨rfl, rfl⟩
  go_wp2_with fail
  go_loopg [9] n (fun q u9 wr => ∃ i : Nat, i ≤ n ∧ u9 = .int .i64 (i : Nat) ∧ Hid ((∀ x ∈ sk.take i, x < 2 ^ c.f) ∧ i + q = n ∧ Own w wr []))
  case atStart => exact ⟨0, by omega, rfl, (fun x h => by simp at h), by omega, S1.out⟩
  case round =>
    obtain ⟨i, hi, rfl, hI⟩ := hrel
    have I0 := Lib.hid hI.out.1
    have I1 := Lib.hid hI.out.2.1
    have I2 := Lib.hid hI.out.2.2
    clear hI S1
    by_cases hlt : i < n
    case pos => as_aux_lemma =>
      have hil : i < sk.length := by rw [← HN.out]; exact hlt
      have hix : (i : Int) < (n : Int) := by omega
      obtain ⟨b0, off, rfl, k0, l0⟩ := (HFs.out _ I2.out.bel).u16 hil
      have K37 := HIS.out sk[i] (HW.out.at_ hil)
      have HT := Lib.hid (fun (h : sk[i] < 2 ^ c.f) => (show ∀ x ∈ sk.take (i + 1), x < 2 ^ c.f by
        intro x hx
        rw [List.take_add_one, List.getElem?_eq_getElem hil] at hx
        rcases List.mem_append.1 hx with hx | hx
        · exact I0.out x hx
        · simp only [Option.toList_some, List.mem_singleton] at hx; subst hx; exact h))
      by_cases hb : sk[i] < 2 ^ c.f
      · as_aux_lemma =>
        have HT2 := Lib.hid (HT.out hb)
        rw [decide_eq_true hb] at K37
        replace K37 := Lib.hid K37
        clear hb HT
        generalize sk[i] = s at *
        go_wp2_with fail
        refine (K37.out _).mono ?_
        rintro e w5 ⟨rfl, hb5⟩
        have S5 := Lib.hid (I2.out.ext hb5)
        clear hb5 k0
        go_wp2_with fail
        go_roundg (gk - 1)
        case measure => have := I1.out; omega
        case rel => exact ⟨i + 1, by omega, by go_num, HT2.out, by have := I1.out; omega, S5.out⟩
      · as_aux_lemma =>
        have HL2 := Lib.hid (HL0.out ⟨sk[i], List.getElem_mem hil, hb⟩)
        rw [decide_eq_false hb] at K37
        replace K37 := Lib.hid K37
        clear hb HT
        generalize sk[i] = s at *
        go_wp2_with fail
        refine (K37.out _).mono ?_
        rintro e w5 ⟨rfl, hb5⟩
        have S5 := Lib.hid (I2.out.ext hb5)
        clear hb5 k0
        go_wp2_with fail
        go_ret3
        exact ⟨none, 0, by rw [HL2.out]; rfl, by rw [HL2.out]; exact (S5.out.nil 41 1)⟩
    have hall : ∀ x ∈ sk, x < 2 ^ c.f := by have := I0.out; rwa [show i = n by omega, HN.out, List.take_length] at this
    replace HL := Lib.hid (HL.out hall)
    have HSB := Lib.hid hall
    have hni : ¬ (i : Int) < (n : Int) := by omega
    clear HL0 HIS hall I0 hlt
    obtain ⟨S6, hS6⟩ : ∃ S6 : Own w wr [], True := ⟨I2.out, trivial⟩
    as_aux_lemma =>
    obtain ⟨i0, rfl⟩ : ∃ i0, i0 = i := ⟨i, rfl⟩
    have S5 := Lib.hid (I2.out.nil 41 1)
    clear I2 I1 S6 hS6
    go_wp2_with fail
    obtain ⟨G1, rfl⟩ : ∃ G1 : Nat, G1 = gk := ⟨_, rfl⟩
    obtain ⟨wq, rfl⟩ : ∃ wq : World, wq = wr := ⟨_, rfl⟩
    go_loopg [10, 11, 12] n (fun q u10 u11 u12 wr => ∃ (i : Nat) (A1 : Option Addr) (c1 mm : Nat), i ≤ n ∧ mm ≤ 16 * i ∧ u10 = .slice A1 i c1 ∧ u11 = .int .i64 (mm : Nat) ∧ u12 = .int .i64 (i : Nat) ∧ Hid (∃ Lx, runF (recF c t sk) i = some (Lx, mm) ∧ i + q = n ∧ Own w wr [row 41 1 (.slice A1 i c1) i (u16s Lx)]))
    case atStart => exact ⟨0, none, 0, 0, by omega, by omega, rfl, rfl, rfl, [], rfl, by omega, S5.out⟩
    case round =>
      clear hi hni S5
      obtain ⟨i, A1, c1, mm, hi, hmm, rfl, rfl, rfl, hI⟩ := hrel
      obtain ⟨Lx, I0, I1, I2⟩ := hI.out
      replace I0 := Lib.hid I0
      replace I1 := Lib.hid I1
      replace I2 := Lib.hid I2
      have HLL := Lib.hid (runF_len _ _ _ I0.out)
      clear hI
      by_cases hlt : i < n
      case neg => as_aux_lemma =>
        have HE := Lib.hid (show recR m sk t = (Lx, mm, 0) by rw [HL.out, show n = i by omega, I0.out]; rfl)
        have hni : ¬ (i : Int) < (n : Int) := by omega
        go_wp2_with fail
        go_ret3
        exact ⟨A1, c1, by rw [HE.out, HLL.out]; rfl, by rw [HE.out, HLL.out]; exact I2.out⟩
      have hil : i < t.length := by rw [← HN'.out]; exact hlt
      have hil2 : i < sk.length := by rw [← HN.out]; exact hlt
      have hix : (i : Int) < (n : Int) := by omega
      have hx15 := HLB.out t[i] (List.getElem_mem hil)
      have hsf := HSB.out _ (List.getElem_mem hil2)
      have hs15 : sk[i] < 2 ^ 15 := Nat.lt_of_lt_of_le hsf HPF.out
      have HTK := Lib.hid (fun W (h : Below w.heap.size w W) => (HFt.out W h).u16 hil)
      have HSK := Lib.hid (fun W (h : Below w.heap.size w W) => (HFs.out W h).u16 hil2)
      have HF := Lib.hid (recF_eq c hil hil2)
      have e1 : bits .xor .u16 (t[i] : Int) (sk[i] : Int) = ((t[i] ^^^ sk[i] : Nat) : Int) := u16_xor_nat _ _ (by omega) (by omega)
      have HS := Lib.hid (fun y d (h : recAt c t[i] sk[i] = some (y, d)) => recAt_some hx15 h)
      replace HDN := Lib.hid (HDN.out t[i] sk[i] hx15 hsf)
      replace HDS := Lib.hid (fun y d => HDS.out t[i] sk[i] y d hx15 hsf)
      replace HD := Lib.hid (HD.out (t[i] ^^^ sk[i]) (Nat.xor_lt_two_pow hx15 hs15))
      generalize recAt c t[i] sk[i] = ra at *
      generalize t[i] ^^^ sk[i] = z at *
      generalize t[i] = x at *
      generalize sk[i] = s at *
      clear hsf HPF
      obtain ⟨b8, off8, rfl, k8, l8⟩ := HTK.out _ I2.out.bel
      obtain ⟨b9, off9, rfl, k9, l9⟩ := HSK.out _ I2.out.bel
      have K8 := Lib.hid (fun z : OwnOf w [row 41 1 (.slice A1 i c1) i (u16s Lx)] => (show z.wld.cell? ⟨b8, off8 + i, none⟩ = some (.int .u16 (x : Nat)) by obtain ⟨b, o, e, h, _⟩ := HTK.out z.wld z.own.bel; simp only [Option.some.injEq, Addr.mk.injEq] at e; obtain ⟨rfl, rfl, _⟩ := e; exact h))
      have K9 := Lib.hid (fun z : OwnOf w [row 41 1 (.slice A1 i c1) i (u16s Lx)] => (show z.wld.cell? ⟨b9, off9 + i, none⟩ = some (.int .u16 (s : Nat)) by obtain ⟨b, o, e, h, _⟩ := HSK.out z.wld z.own.bel; simp only [Option.some.injEq, Addr.mk.injEq] at e; obtain ⟨rfl, rfl, _⟩ := e; exact h))
      replace HSK := Lib.hid (fun W (h : Below w.heap.size w W) => (show W.cell? ⟨b9, off9 + i, none⟩ = some (.int .u16 (s : Nat)) ∧ b9 < W.heap.size by obtain ⟨b, o, e, h, hl⟩ := HSK.out W h; simp only [Option.some.injEq, Addr.mk.injEq] at e; obtain ⟨rfl, rfl, _⟩ := e; exact ⟨h, hl⟩))
      clear k8 k9 l8 l9 HTK
      cases hra : ra with
      | none => as_aux_lemma =>
        have HD2 := Lib.hid (fun W => (show Calls Tryd.prog 64 #[.int .u8 (m : Nat), .int .u16 (z : Nat)] W fun e w' => e = .returned (.tuple #[.int .u16 0, .int .i64 0, .bool false]) ∧ Below W.heap.size W w' by have := HD.out W; rw [HDN.out hra] at this; exact this))
        have HX := Lib.hid (show recR m sk t = ([], 0, 51) by rw [HL.out, runF_stop (HF.out.trans hra) n hlt]; rfl)
        clear hra
        go_upto_region 13 with fail
        have a0 := fun z : OwnOf w [row 41 1 (.slice A1 i c1) i (u16s Lx)] => K8.out z
        have a1 := fun z : OwnOf w [row 41 1 (.slice A1 i c1) i (u16s Lx)] => K9.out z
        have hne : Nonempty (OwnOf w [row 41 1 (.slice A1 i c1) i (u16s Lx)]) := ⟨⟨_, I2.out⟩⟩
        refine wp_region_own I2.out (by kernel_rfl) (by kernel_rfl) ?_
        iterate 10 (go_big_quiet_step (fail))
        go_big_quiet_step ((go_at_call 64; exact own_of (HD2.out _)))
        iterate 7 (go_big_quiet_step (fail))
        refine wpQuiet_nil ?_
        rintro w7 ⟨z, hz⟩
        have S7 := Lib.hid (show Own w w7 [row 41 1 (.slice A1 i c1) i (u16s Lx)] by rw [hz]; exact z.own)
        clear hz z hne a0 a1 K8 K9
        go_wp2_with fail
        go_ret3
        exact ⟨none, 0, by rw [HX.out]; rfl, by rw [HX.out]; exact ((S7.out.nil 41 1).sub [0] (by decide) rfl)⟩
      | some yd => as_aux_lemma =>
        obtain ⟨y, d⟩ := yd
        obtain ⟨e9, -, -, -, -, hy15, hd16⟩ := HS.out y d hra
        obtain ⟨mg, hmg, hde, hcy, hcl⟩ := HDS.out y d hra
        have HD2 := Lib.hid (fun W => (show Calls Tryd.prog 64 #[.int .u8 (m : Nat), .int .u16 (z : Nat)] W fun e w' => e = .returned (.tuple #[.int .u16 (mg : Nat), .int .i64 (d : Nat), .bool true]) ∧ Below W.heap.size W w' by have := HD.out W; rw [hde] at this; exact this))
        have HX := Lib.hid (runF_step I0.out (HF.out.trans hra))
        have e2 : bits .xor .u16 (c.code mg : Int) (s : Int) = (y : Int) := by rw [u16_xor_nat _ _ (by omega) (by omega), hcy]
        have K65 := Lib.hid (HCO.out mg hmg)
        generalize c.code mg = cw at *
        clear hra hde hcy hmg
        go_upto_region 13 with fail
        have a0 := fun z : OwnOf w [row 41 1 (.slice A1 i c1) i (u16s Lx)] => K8.out z
        have a1 := fun z : OwnOf w [row 41 1 (.slice A1 i c1) i (u16s Lx)] => K9.out z
        have hne : Nonempty (OwnOf w [row 41 1 (.slice A1 i c1) i (u16s Lx)]) := ⟨⟨_, I2.out⟩⟩
        refine wp_region_own I2.out (by kernel_rfl) (by kernel_rfl) ?_
        iterate 10 (go_big_quiet_step (fail))
        go_big_quiet_step ((go_at_call 64; exact own_of (HD2.out _)))
        iterate 7 (go_big_quiet_step (fail))
        refine wpQuiet_nil ?_
        rintro w7 ⟨z, hz⟩
        have S7 := Lib.hid (show Own w w7 [row 41 1 (.slice A1 i c1) i (u16s Lx)] by rw [hz]; exact z.own)
        clear hz z hne a0 a1 K8 K9
        go_upto_region 16 with fail
        obtain ⟨k0, l0⟩ := HSK.out _ S7.out.bel
        go_region_held3 (fun w' => w'.cell? ⟨b9, off9 + i, none⟩ = some (.int .u16 (s : Nat))) (first | go_keep | exact (HSK.out _ HO9.out.bel).1 | exact (HSK.out _ ((S7.out.ext (Below.refl _ _).drew).ext hb8).bel).1) (first | (go_at_call 65; refine (K65.out _).mono ?_; rintro e w8 ⟨rfl, hb8⟩) | (refine step_appP rfl (.tmp 67) (.tmp 76) 22 rfl st22 0 ((((S7.out.ext (Below.refl _ _).drew).ext hb8)).ext (below_alloc w8 (.cells #[.int .u16 (y : Nat)] 41))) rfl rfl rfl (i + 1) (u16s (Lx ++ [y])) ?_ [.int .u16 (y : Nat)] rfl (u16s_app Lx y) (Rd.new w8 #[.int .u16 (y : Nat)] 41) rfl (by simp [Value.oneCell']) (by unfold maxLen; omega) (by omega); intro A9 c9 w9 hO9; have HO9 := Lib.hid hO9; clear hO9))
        clear S7 k0 l0
        go_wp2_with fail
        go_roundg (gk - 1)
        case measure => have := I1.out; omega
        case rel => exact ⟨i + 1, A9, c9, mm + d, by omega, by omega, rfl, by go_num, by go_num, Lx ++ [y], HX.out, by have := I1.out; omega, HO9.out⟩
end Go.Proofs.YtnienfgaidccpaaDoor
