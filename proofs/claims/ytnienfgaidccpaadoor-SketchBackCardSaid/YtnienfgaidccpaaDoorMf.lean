/- Sketch: the walk of SketchHidden. No condition. -/
import Derived.Test.YtnienfgaidccpaaDoorMe
namespace Go.Proofs.YtnienfgaidccpaaDoor
open Go.RowKit Go.Shelf
attribute [local go_sem] Oper.semAt_some

theorem comN_get (c : Kd) (t ms : List Nat) {n j : Nat} (h : j < n) : (comN c t ms n).getD j 0 = t.getD j 0 ^^^ c.code (ms.getD j 0) := by
  have hl : j < (comN c t ms n).length := by rw [comN_len]; exact h
  rw [List.getD_eq_getElem?_getD, List.getElem?_eq_getElem hl]
  simp [comN]
theorem comN_twice (c : Kd) {t : List Nat} (ms : List Nat) {n : Nat} (h : t.length = n) : comN c (comN c t ms n) ms n = t := by
  apply List.ext_getElem (by rw [comN_len, h])
  intro j h1 h2
  rw [comN_len] at h1
  have e : (comN c (comN c t ms n) ms n)[j] = (comN c (comN c t ms n) ms n).getD j 0 := by simp [List.getD, List.getElem?_eq_getElem (show j < (comN c (comN c t ms n) ms n).length by rw [comN_len]; exact h1)]
  rw [e, comN_get c _ _ h1, comN_get c _ _ h1, xor_xor]
  simp [List.getD, List.getElem?_eq_getElem h2]
theorem comN_iff (c : Kd) {t u : List Nat} (ms : List Nat) {n : Nat} (h : t.length = n) (h' : u.length = n) : decide (u = comN c t ms n) = decide (comN c u ms n = t) := by
  rw [decide_eq_decide]
  constructor
  · intro e
    rw [e, comN_twice c ms h]
  · intro e
    rw [← e, comN_twice c ms h']
theorem tmplB_com {c : Kd} (hc : c.ok) {t ms : List Nat} {n : Nat} (hn : t.length = n) (hm : ms.length = n) (ht : tmplB t = true) (hms : ∀ x ∈ ms, x < 2 ^ c.k) : tmplB (comN c t ms n) = true := by
  obtain ⟨a1, a2, a3⟩ := tmpl_bd ht
  simp only [tmplB, Bool.and_eq_true, decide_eq_true_eq, List.all_eq_true, comN_len]
  refine ⟨by omega, fun x hx => ?_⟩
  simp only [comN, List.mem_map, List.mem_range] at hx
  obtain ⟨j, hj, rfl⟩ := hx
  have h1 : t.getD j 0 = t[j] := by simp [List.getD, List.getElem?_eq_getElem (show j < t.length by omega)]
  have h2 : ms.getD j 0 = ms[j] := by simp [List.getD, List.getElem?_eq_getElem (show j < ms.length by omega)]
  rw [h1, h2]
  exact Nat.xor_lt_two_pow (a3 _ (List.getElem_mem _)) (Kd.code_lt hc (hms _ (List.getElem_mem _)))
theorem comR_of {k : Int} {t ms : List Nat} (h1 : kindB k = true) (h2 : tmplB t = true) (h3 : ms.length = t.length) (h4 : ∀ x ∈ ms, x < 2 ^ (kd k.toNat).k) : comR k t ms = (k, comN (kd k.toNat) t ms t.length, tagF ms, 0) := by
  unfold comR comB
  rw [h1, h2, decide_eq_true h3, if_pos]
  simpa using h4
theorem comR_cases (k : Int) (t ms : List Nat) : (comR k t ms = (0, [], 0, 2)) ∨ (tmplB t = true ∧ ms.length = t.length ∧ comR k t ms = (k, comN (kd k.toNat) t ms t.length, tagF ms, 0)) := by
  unfold comR
  split
  · next h =>
    right
    simp only [comB, Bool.and_eq_true, decide_eq_true_eq] at h
    exact ⟨h.2.1, h.2.2.1, rfl⟩
  · exact .inl rfl
set_option maxRecDepth 100000 in
set_option maxHeartbeats 4000000 in
theorem hiddenLaw_any (k : Int) (h ms ot : List Nat) (A1 A2 A3 : Option Addr) (n1 n2 n3 c1 c2 c3 : Nat) (w : World) (hc : Cod w) (hk : 0 ≤ k ∧ k ≤ 255) (r1 : Rd w A1 (u16s h)) (r2 : Rd w A2 (u16s ms)) (r3 : Rd w A3 (u16s ot)) (e1 : n1 = h.length) (e2 : n2 = ms.length) (e3 : n3 = ot.length) :
    Calls Tryd.prog 9 #[.int .u8 k, .slice A1 n1 c1, .slice A2 n2 c2, .slice A3 n3 c3] w fun e w' => e = .returned (.bool true) ∧ Below w.heap.size w w' := by
  have HC := Lib.hid (fun W (h : Below w.heap.size w W) => hc.below h)
  have K27 := Lib.hid (fun W (h : Below w.heap.size w W) => alive_any W (HC.out W h))
  have K29 := fun W => Kind_any k W
  have K46 := fun W (hb : Below w.heap.size w W) => refTemplate_any h A1 n1 c1 W (r1.below hb) e1
  have S := Lib.hid (Own.start w)
  cases hkb : kindB k
  case false => as_aux_lemma =>
    rw [hkb] at K29
    replace K29 := Lib.hid K29
    clear r1 r2 r3 hc hk e1 e2 e3 hkb K46
    go_enter Tryd.func9, Tryd.ntmps9
    go_wp2_with fail
    refine (K27.out _ S.out.bel).mono ?_
    rintro e w1 ⟨rfl, hb1⟩
    replace S := Lib.hid (S.out.ext hb1)
    clear hb1
    go_wp2_with fail
    refine (K29.out _).mono ?_
    rintro e w2 ⟨rfl, hb2⟩
    replace S := Lib.hid (S.out.ext hb2)
    clear hb2
    go_wp2_with fail
    go_ret
    exact ⟨rfl, S.out.bel⟩
  rw [hkb] at K29
  replace K29 := Lib.hid K29
  cases htb : tmplB h
  case false => as_aux_lemma =>
    rw [htb] at K46
    replace K46 := Lib.hid K46
    clear r1 r2 r3 hc hk e1 e2 e3 hkb htb
    go_enter Tryd.func9, Tryd.ntmps9
    go_wp2_with fail
    refine (K27.out _ S.out.bel).mono ?_
    rintro e w1 ⟨rfl, hb1⟩
    replace S := Lib.hid (S.out.ext hb1)
    clear hb1
    go_wp2_with fail
    refine (K29.out _).mono ?_
    rintro e w2 ⟨rfl, hb2⟩
    replace S := Lib.hid (S.out.ext hb2)
    clear hb2
    go_wp2_with fail
    refine (K46.out _ S.out.bel).mono ?_
    rintro e w3 ⟨rfl, rfl⟩
    go_wp2_with fail
    go_ret
    exact ⟨rfl, S.out.bel⟩
  rw [htb] at K46
  replace K46 := Lib.hid K46
  by_cases hnn : n2 = n1
  case neg => as_aux_lemma =>
    have hnI : ((n2 : Int) != (n1 : Int)) = true := by simp only [bne_iff_ne, ne_eq]; omega
    clear r1 r2 r3 hc hk e1 e2 e3 hkb hnn htb
    go_enter Tryd.func9, Tryd.ntmps9
    go_wp2_with fail
    refine (K27.out _ S.out.bel).mono ?_
    rintro e w1 ⟨rfl, hb1⟩
    replace S := Lib.hid (S.out.ext hb1)
    clear hb1
    go_wp2_with fail
    refine (K29.out _).mono ?_
    rintro e w2 ⟨rfl, hb2⟩
    replace S := Lib.hid (S.out.ext hb2)
    clear hb2
    go_wp2_with fail
    refine (K46.out _ S.out.bel).mono ?_
    rintro e w3 ⟨rfl, rfl⟩
    go_wp2_with fail
    go_ret
    exact ⟨rfl, S.out.bel⟩
  subst hnn
  obtain ⟨m, rfl, hm1, hm3, hmt⟩ := kind_bd hkb
  have hok := kd_ok hm1 hm3
  obtain ⟨b1, b2, b3⟩ := tmpl_bd htb
  have hn4 : n2 ≤ 4 := by omega
  have HB3 := Lib.hid b3
  have HR1 := Lib.hid (fun W (hb : Below w.heap.size w W) => r1.below hb)
  have HR2 := Lib.hid (fun W (hb : Below w.heap.size w W) => r2.below hb)
  have HR3 := Lib.hid (fun W (hb : Below w.heap.size w W) => r3.below hb)
  have HN := Lib.hid (show n2 = h.length ∧ n2 = ms.length from ⟨e1, e2⟩)
  have KE := Lib.hid (fun x W (hb : Below w.heap.size w W) => encodeW_any m x W (HC.out W hb) hk)
  have KC := Lib.hid (fun A cp t n W (hb : Below w.heap.size w W) (hr : Rd W A (u16s t)) (hn : n = t.length) => commit_any m t ms A A2 n n2 cp c2 W (HC.out W hb) hk hr (r2.below hb) hn e2 (by omega))
  have HT := Lib.hid htb
  have HKB := Lib.hid hkb
  have HMT := Lib.hid hmt
  have HOK := Lib.hid hok
  have HE3 := Lib.hid e3
  clear hc hk r1 r2 r3 e1 e2 e3 htb hkb hmt hok b1 b2 b3 hm1 hm3
  have S0 := Lib.hid ((S.out.nil 41 1).cast (qs := [row 41 1 (.slice none 0 0) 0 (u16s (comN (kd m) h ms 0))]) (by simp [u16s, comN]))
  go_enter Tryd.func9, Tryd.ntmps9
  go_wp2_with fail
  refine (K27.out _ S.out.bel).mono ?_
  rintro e w1 ⟨rfl, hb1⟩
  replace S := Lib.hid (S.out.ext hb1)
  clear hb1
  go_wp2_with fail
  refine (K29.out _).mono ?_
  rintro e w2 ⟨rfl, hb2⟩
  replace S := Lib.hid (S.out.ext hb2)
  clear hb2
  go_wp2_with fail
  refine (K46.out _ S.out.bel).mono ?_
  rintro e w3 ⟨rfl, rfl⟩
  replace S0 := Lib.hid ((S.out.nil 41 1).cast (qs := [row 41 1 (.slice none 0 0) 0 (u16s (comN (kd m) h ms 0))]) (by simp [u16s, comN]))
  go_wp2_with fail
  go_loopg [10, 38] n2 (fun q u10 u38 wr => ∃ (i : Nat) (A9 : Option Addr) (c9 : Nat), i ≤ n2 ∧ u10 = .slice A9 i c9 ∧ u38 = .int .i64 (i : Nat) ∧ Hid (i + q = n2 ∧ Own w wr [row 41 1 (.slice A9 i c9) i (u16s (comN (kd m) h ms i))] ∧ ∀ j (hj : j < i) (hl : j < ms.length), ms[j] < 2 ^ (kd m).k))
  case atStart => exact ⟨0, none, 0, by omega, rfl, rfl, by omega, S0.out, fun j hj => by omega⟩
  case round =>
    obtain ⟨i, A9, c9, hi, rfl, rfl, hI⟩ := hrel
    have I1 := Lib.hid hI.out.1
    have I2 := Lib.hid hI.out.2.1
    have I3 := Lib.hid hI.out.2.2
    clear hI S0
    by_cases hlt : i < n2
    case pos =>
      have hil1 : i < h.length := by rw [← HN.out.1]; exact hlt
      have hil2 : i < ms.length := by rw [← HN.out.2]; exact hlt
      have hix : (i : Int) < (n2 : Int) := by omega
      obtain ⟨b0, off0, rfl, k0, l0⟩ := (HR1.out _ I2.out.bel).u16 hil1
      obtain ⟨b1, off1, rfl, k1, l1⟩ := (HR2.out _ I2.out.bel).u16 hil2
      have hx15 := HB3.out h[i] (List.getElem_mem hil1)
      have hkk := HKB.out
      have hmm := HMT.out
      obtain ⟨x, e, hxe⟩ : ∃ x e, encR m ms[i] = (x, e) := ⟨_, _, rfl⟩
      have KE1 := KE.out ms[i]
      rw [hxe] at KE1
      replace KE1 := Lib.hid KE1
      by_cases he : e = 0
      case neg => as_aux_lemma =>
        obtain ⟨he2, -⟩ := encR_err hxe he
        subst he2
        generalize ms[i] = y at *
        clear hxe he KE KC hkk hmm HMT HKB HOK
        go_wp2_with fail
        refine (KE1.out _ I2.out.bel).mono ?_
        rintro e w5 ⟨rfl, hb5⟩
        have S5 := Lib.hid (I2.out.ext hb5)
        clear hb5 k0 k1
        go_wp2_with fail
        go_ret
        exact ⟨rfl, S5.out.bel⟩
      as_aux_lemma =>
      subst he
      obtain ⟨-, hmk, hxc⟩ := encR_ok hxe rfl
      rw [hmm] at hmk hxc
      have hcl := Kd.code_lt HOK.out hmk
      have HS := Lib.hid (comN_snoc (kd m) hil1 hil2)
      rw [← hxc] at HS hcl
      have ex : bits .xor .u16 (h[i] : Int) (x : Int) = ((h[i] ^^^ x : Nat) : Int) := u16_xor_nat _ _ (by omega) (by omega)
      have HMK := Lib.hid hmk
      have HKH := Lib.hid (fun W (hb : Below w.heap.size w W) => (show W.cell? ⟨b0, off0 + i, none⟩ = some (.int .u16 (h[i] : Nat)) ∧ b0 < W.heap.size by
        obtain ⟨b, o, e, h1, l1⟩ := (HR1.out W hb).u16 hil1
        simp only [Option.some.injEq, Addr.mk.injEq] at e; obtain ⟨rfl, rfl, _⟩ := e
        exact ⟨h1, l1⟩))
      generalize h[i] ^^^ x = z at *
      generalize hmsi : ms[i] = y at *
      have HMS := Lib.hid hmsi
      generalize h[i] = v at *
      clear hxe KE KC hkk hmm HMT HKB HOK hmk hxc hmsi
      go_wp2_with fail
      refine (KE1.out _ I2.out.bel).mono ?_
      rintro e w5 ⟨rfl, hb5⟩
      have S5 := Lib.hid (I2.out.ext hb5)
      clear hb5 k0 k1 l0
      obtain ⟨k0, l0⟩ := HKH.out _ S5.out.bel
      go_wp2_with (at_builtin; refine wpList_appP rfl (.tmp 56) (.tmp 63) 22 rfl st22 0 (S5.out.ext (below_alloc w5 (.cells #[.int .u16 (z : Nat)] 41))) rfl rfl rfl (i + 1) (u16s (comN (kd m) h ms (i + 1))) ?_ [.int .u16 (z : Nat)] rfl (by rw [HS.out]; exact u16s_app _ _) (Rd.new _ #[.int .u16 (z : Nat)] 41) rfl (by simp [Value.oneCell']) (by unfold maxLen; omega) (by omega); intro A8 c8 w8 hO8; have HO8 := Lib.hid hO8; clear hO8)
      go_roundg (gk - 1)
      case measure => have := I1.out; omega
      case rel => exact ⟨i + 1, A8, c8, by omega, rfl, by go_num, by have := I1.out; omega, HO8.out, fun j hj hl => by
        by_cases hji : j < i
        · exact I3.out j hji hl
        · obtain rfl : j = i := by omega
          rw [HMS.out]; exact HMK.out⟩
    have HI := Lib.hid (show i = n2 by omega)
    have hni : ¬ (i : Int) < (n2 : Int) := by have := HI.out; omega
    have hin := HI.out
    rw [hin] at I2 I3
    have HMV := Lib.hid (fun x (hx : x ∈ ms) => (show x < 2 ^ (kd m).k by
      obtain ⟨j, hj, rfl⟩ := List.getElem_of_mem hx
      exact I3.out j (by rw [HN.out.2]; exact hj) hj))
    have hkk := HKB.out
    have hmm := HMT.out
    have lh : h.length = n2 := HN.out.1.symm
    have lm : ms.length = n2 := HN.out.2.symm
    have htt := tmplB_com HOK.out lh lm HT.out HMV.out
    have hcr := comR_of (k := (m : Int)) (t := comN (kd m) h ms n2) (ms := ms) hkk htt (by rw [comN_len]; exact lm) (by rw [hmm]; exact HMV.out)
    rw [comN_len, hmm, comN_twice (kd m) ms lh] at hcr
    have KC1 := fun A cp W (hb : Below w.heap.size w W) (hr : Rd W A (u16s (comN (kd m) h ms n2))) => KC.out A cp _ n2 W hb hr (by rw [comN_len])
    rw [hcr] at KC1
    unfold ComPost at KC1
    dsimp only at KC1
    rw [lh] at KC1
    replace KC1 := Lib.hid KC1
    have KS1 := Lib.hid (fun A A' cp cp' W (hr : Rd W A (u16s h)) (hr' : Rd W A' (u16s h)) => sameWords_true h A A' n2 n2 cp cp' W hr hr' HN.out.1 HN.out.1 (by omega))
    have KO := fun W (hb : Below w.heap.size w W) => KC.out A3 c3 ot n3 W hb (HR3.out W hb) HE3.out
    unfold ComPost at KO
    rw [hin] at hi
    rw [hin]
    clear hcr htt hlt I1 I3 KE KC HI
    subst hin
    rcases comR_cases m ot ms with hco | ⟨hto, hlo, hco⟩
    case inl => as_aux_lemma =>
      rw [hco] at KO
      dsimp only at KO
      replace KO := Lib.hid KO
      clear hco lh lm hkk hmm
      go_wp2_with fail
      refine (KC1.out _ _ _ I2.out.bel (I2.out.rd 0 rfl)).mono ?_
      rintro e v1 ⟨A11, c11, rfl, hO⟩
      have S1 := Lib.hid (I2.out.call hO)
      clear hO
      go_upto_region 14 with fail
      have S2 := Lib.hid (S1.out.new 25 #[.int .u8 (m : Nat), .slice A11 i c11, .int .u32 (tagF ms : Nat)])
      generalize v1.alloc _ = v2 at *
      generalize v1.heap.size = B20 at *
      clear S1
      obtain ⟨t0, t1, t2, _⟩ := (S2.out.bx 0 rfl).c3
      have lt := (S2.out.bx 0 rfl).2.2
      go_wp2_with fail
      refine (KS1.out _ _ _ _ _ (S2.out.rd 1 rfl) (HR1.out _ S2.out.bel)).mono ?_
      rintro e v3 ⟨rfl, hb3⟩
      have S3 := Lib.hid ((S2.out.sub [2] (by decide) (qs := [row 41 1 (.slice A9 i c9) i (u16s (comN (kd m) h ms i))]) rfl).ext hb3)
      clear hb3 t0 t1 t2 lt S2 I2
      go_wp2_with fail
      refine (KO.out _ S3.out.bel).mono ?_
      rintro e v4 ⟨A12, c12, rfl, hO⟩
      have S4 := Lib.hid (S3.out.call hO)
      clear hO S3
      go_upto_region 17 with fail
      have S5 := Lib.hid (S4.out.new 25 #[.int .u8 0, .slice A12 0 c12, .int .u32 0])
      generalize v4.alloc _ = v5 at *
      generalize v4.heap.size = B21 at *
      clear S4
      go_wp2_with fail
      go_ret
      exact ⟨rfl, S5.out.bel⟩
    case inr => as_aux_lemma =>
      obtain ⟨x1, x2, x3⟩ := tmpl_bd hto
      have hlo2 : ot.length = i := by rw [← hlo]; exact lm
      rw [hmm, hlo2] at hco
      have hn3 : n3 = i := by rw [← hlo2]; exact HE3.out
      subst hn3
      rw [hco] at KO
      dsimp only at KO
      rw [comN_len] at KO
      replace KO := Lib.hid KO
      have KS2 := Lib.hid (fun A A' cp cp' W (hr : Rd W A (u16s (comN (kd m) ot ms n3))) (hr' : Rd W A' (u16s h)) => sameWords_any (comN (kd m) ot ms n3) h A A' n3 n3 cp cp' W hr hr' (by rw [comN_len]) HN.out.1 (by omega))
      have KS3 := fun A A' cp cp' W (hr : Rd W A (u16s ot)) (hr' : Rd W A' (u16s (comN (kd m) h ms n3))) => sameWords_any ot (comN (kd m) h ms n3) A A' n3 n3 cp cp' W hr hr' hlo2.symm (by rw [comN_len]) (by omega)
      rw [comN_iff (kd m) ms lh hlo2] at KS3
      replace KS3 := Lib.hid KS3
      generalize decide (comN (kd m) ot ms n3 = h) = vv at *
      clear hco lh lm hkk hmm hto x1 x2 x3 hlo hlo2
      go_wp2_with fail
      refine (KC1.out _ _ _ I2.out.bel (I2.out.rd 0 rfl)).mono ?_
      rintro e v1 ⟨A11, c11, rfl, hO⟩
      have S1 := Lib.hid (I2.out.call hO)
      clear hO
      go_upto_region 14 with fail
      have S2 := Lib.hid (S1.out.new 25 #[.int .u8 (m : Nat), .slice A11 n3 c11, .int .u32 (tagF ms : Nat)])
      generalize v1.alloc _ = v2 at *
      generalize v1.heap.size = B20 at *
      clear S1
      obtain ⟨t0, t1, t2, _⟩ := (S2.out.bx 0 rfl).c3
      have lt := (S2.out.bx 0 rfl).2.2
      go_wp2_with fail
      refine (KS1.out _ _ _ _ _ (S2.out.rd 1 rfl) (HR1.out _ S2.out.bel)).mono ?_
      rintro e v3 ⟨rfl, hb3⟩
      have S3 := Lib.hid ((S2.out.sub [2] (by decide) (qs := [row 41 1 (.slice A9 n3 c9) n3 (u16s (comN (kd m) h ms n3))]) rfl).ext hb3)
      clear hb3 t0 t1 t2 lt S2 I2
      go_wp2_with fail
      refine (KO.out _ S3.out.bel).mono ?_
      rintro e v4 ⟨A12, c12, rfl, hO⟩
      have S4 := Lib.hid (S3.out.call hO)
      clear hO S3
      go_upto_region 17 with fail
      have S5 := Lib.hid (S4.out.new 25 #[.int .u8 (m : Nat), .slice A12 n3 c12, .int .u32 (tagF ms : Nat)])
      generalize v4.alloc _ = v5 at *
      generalize v4.heap.size = B21 at *
      clear S4
      obtain ⟨t0, t1, t2, _⟩ := (S5.out.bx 0 rfl).c3
      have lt := (S5.out.bx 0 rfl).2.2
      go_wp2_with fail
      refine (KS2.out _ _ _ _ _ (S5.out.rd 1 rfl) (HR1.out _ S5.out.bel)).mono ?_
      rintro e v6 ⟨rfl, hb6⟩
      have S6 := Lib.hid (S5.out.ext hb6)
      clear hb6 t0 t1 t2 lt S5
      go_wp2_with fail
      refine (KS3.out _ _ _ _ _ (HR3.out _ S6.out.bel) (S6.out.rd 2 rfl)).mono ?_
      rintro e v7 ⟨rfl, hb7⟩
      have S7 := Lib.hid (S6.out.ext hb7)
      clear hb7 S6
      go_wp2_with fail
      go_ret
      exact ⟨rfl, S7.out.bel⟩
end Go.Proofs.YtnienfgaidccpaaDoor
