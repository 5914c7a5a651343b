/- Sketch: the walk of SketchLinear. No condition. -/
import Derived.Test.YtnienfgaidccpaaDoorMd
namespace Go.Proofs.YtnienfgaidccpaaDoor
open Go.RowKit Go.Shelf
attribute [local go_sem] Oper.semAt_some

/-- The sums of words. -/
def xorL (a b : List Nat) : List Nat := a.zipWith (· ^^^ ·) b
theorem xorL_len {a b : List Nat} (h : a.length = b.length) : (xorL a b).length = a.length := by simp [xorL, h]
theorem xorL_get {a b : List Nat} {i : Nat} (h1 : i < a.length) (h2 : i < b.length) (h : i < (xorL a b).length) : (xorL a b)[i] = a[i] ^^^ b[i] := by simp [xorL]
theorem xorL_snoc {a b : List Nat} {i : Nat} (h1 : i < a.length) (h2 : i < b.length) : u16s ((xorL a b).take i) ++ [.int .u16 ((a[i] ^^^ b[i] : Nat) : Int)] = u16s ((xorL a b).take (i + 1)) := by
  have h : i < (xorL a b).length := by simp [xorL]; omega
  rw [List.take_add_one, List.getElem?_eq_getElem h, xorL_get h1 h2 h]
  simp [u16s]
theorem tmplB_xor {a b : List Nat} (h : a.length = b.length) (ha : tmplB a = true) (hb : tmplB b = true) : tmplB (xorL a b) = true := by
  obtain ⟨a1, a2, a3⟩ := tmpl_bd ha
  obtain ⟨b1, b2, b3⟩ := tmpl_bd hb
  simp only [tmplB, Bool.and_eq_true, decide_eq_true_eq, List.all_eq_true, xorL_len h]
  refine ⟨⟨a1, a2⟩, fun x hx => ?_⟩
  obtain ⟨i, hi, rfl⟩ := List.getElem_of_mem hx
  have hi1 : i < a.length := by rwa [xorL_len h] at hi
  rw [xorL_get hi1 (by omega) hi]
  exact Nat.xor_lt_two_pow (a3 _ (List.getElem_mem _)) (b3 _ (List.getElem_mem _))
theorem skE_ok {k : Int} {l : List Nat} (h : skE k l = 0) : kindB k = true ∧ tmplB l = true := by
  unfold skE at h
  split at h
  · next hc => simpa using hc
  · omega
theorem skL_of {k : Int} {l : List Nat} (h1 : kindB k = true) (h2 : tmplB l = true) : skL k l = l.map (kd k.toNat).rest ∧ skE k l = 0 := by
  unfold skL skE
  rw [h1, h2]
  exact ⟨rfl, rfl⟩
set_option maxRecDepth 100000 in
set_option maxHeartbeats 4000000 in
theorem linearLaw_any (k : Int) (a b : List Nat) (A1 A2 : Option Addr) (n1 n2 c1 c2 : Nat) (w : World) (hc : Cod w) (hk : 0 ≤ k ∧ k ≤ 255) (r1 : Rd w A1 (u16s a)) (r2 : Rd w A2 (u16s b)) (e1 : n1 = a.length) (e2 : n2 = b.length) (w1 : W16 a) (w2 : W16 b) :
    Calls Tryd.prog 6 #[.int .u8 k, .slice A1 n1 c1, .slice A2 n2 c2] w fun e w' => e = .returned (.bool true) ∧ Below w.heap.size w w' := by
  have HC := Lib.hid (fun W (h : Below w.heap.size w W) => hc.below h)
  have K27 := Lib.hid (fun W (h : Below w.heap.size w W) => alive_any W (HC.out W h))
  have S := Lib.hid (Own.start w)
  by_cases hl : n1 ≤ 100
  case neg => as_aux_lemma =>
    have hl2 : (100 : Int) < (n1 : Int) := by omega
    clear hl r1 r2 hc hk e1 e2 w1 w2
    go_enter Tryd.func6, Tryd.ntmps6
    go_wp2_with fail
    refine (K27.out _ S.out.bel).mono ?_
    rintro e w1 ⟨rfl, hb1⟩
    replace S := Lib.hid (S.out.ext hb1)
    clear hb1
    go_wp2_with fail
    go_ret
    exact ⟨rfl, S.out.bel⟩
  have hl2 : ¬ (100 : Int) < (n1 : Int) := by omega
  by_cases hnn : n1 = n2
  case neg => as_aux_lemma =>
    have hnI : ((n1 : Int) != (n2 : Int)) = true := by simp only [bne_iff_ne, ne_eq]; omega
    clear hl r1 r2 hc hk e1 e2 w1 w2 hnn
    go_enter Tryd.func6, Tryd.ntmps6
    go_wp2_with fail
    refine (K27.out _ S.out.bel).mono ?_
    rintro e w1 ⟨rfl, hb1⟩
    replace S := Lib.hid (S.out.ext hb1)
    clear hb1
    go_wp2_with fail
    go_ret
    exact ⟨rfl, S.out.bel⟩
  subst hnn
  have hab : a.length = b.length := by omega
  have HR1 := Lib.hid (fun W (h : Below w.heap.size w W) => r1.below h)
  have HR2 := Lib.hid (fun W (h : Below w.heap.size w W) => r2.below h)
  have HW := Lib.hid (And.intro w1 w2)
  have HN := Lib.hid (show n1 = a.length ∧ n1 = b.length ∧ n1 = (xorL a b).length from ⟨e1, e2, by rw [xorL_len hab]; exact e1⟩)
  have HT := Lib.hid (show (xorL a b).take n1 = xorL a b by rw [HN.out.2.2, List.take_length])
  have KA := Lib.hid (fun W (h : Below w.heap.size w W) => sketch_main k a A1 n1 c1 W (HC.out W h) hk (r1.below h) e1)
  have KB := Lib.hid (fun W (h : Below w.heap.size w W) => sketch_main k b A2 n1 c2 W (HC.out W h) hk (r2.below h) e2)
  have KC := Lib.hid (fun A cp W (h : Below w.heap.size w W) (hr : Rd W A (u16s (xorL a b))) => sketch_main k (xorL a b) A n1 cp W (HC.out W h) hk hr HN.out.2.2)
  have HK := Lib.hid hk
  have HAB := Lib.hid hab
  clear r1 r2 e1 e2 w1 w2 hab hk hc
  have S0 := Lib.hid ((S.out.nil 41 1).cast (qs := [row 41 1 (.slice none 0 0) 0 (u16s ((xorL a b).take 0))]) (by simp [u16s]))
  go_enter Tryd.func6, Tryd.ntmps6
  go_wp2_with fail
  refine (K27.out _ S.out.bel).mono ?_
  rintro e w1 ⟨rfl, hb1⟩
  replace S0 := Lib.hid (S0.out.ext hb1)
  clear hb1 S
  go_wp2_with fail
  go_loopg [8, 31] n1 (fun q u8 u31 wr => ∃ (i : Nat) (A3 : Option Addr) (c3 : Nat), i ≤ n1 ∧ u8 = .slice A3 i c3 ∧ u31 = .int .i64 (i : Nat) ∧ Hid (i + q = n1 ∧ Own w wr [row 41 1 (.slice A3 i c3) i (u16s ((xorL a b).take i))]))
  case atStart => exact ⟨0, none, 0, by omega, rfl, rfl, by omega, S0.out⟩
  case round =>
    obtain ⟨i, A3, c3, hi, rfl, rfl, hI⟩ := hrel
    have I1 := Lib.hid hI.out.1
    have I2 := Lib.hid hI.out.2
    clear hI S0
    by_cases hlt : i < n1
    case pos => as_aux_lemma =>
      have hil1 : i < a.length := by rw [← HN.out.1]; exact hlt
      have hil2 : i < b.length := by rw [← HN.out.2.1]; exact hlt
      have hix : (i : Int) < (n1 : Int) := by omega
      obtain ⟨b0, off0, rfl, k0, l0⟩ := (HR1.out _ I2.out.bel).u16 hil1
      obtain ⟨b1, off1, rfl, k1, l1⟩ := (HR2.out _ I2.out.bel).u16 hil2
      have HKK := Lib.hid (fun W (h : Below w.heap.size w W) => (show W.cell? ⟨b0, off0 + i, none⟩ = some (.int .u16 (a[i] : Nat)) ∧ W.cell? ⟨b1, off1 + i, none⟩ = some (.int .u16 (b[i] : Nat)) by
        obtain ⟨b, o, e, h1, _⟩ := (HR1.out W h).u16 hil1
        simp only [Option.some.injEq, Addr.mk.injEq] at e; obtain ⟨rfl, rfl, _⟩ := e
        obtain ⟨b, o, e, h2, _⟩ := (HR2.out W h).u16 hil2
        simp only [Option.some.injEq, Addr.mk.injEq] at e; obtain ⟨rfl, rfl, _⟩ := e
        exact ⟨h1, h2⟩))
      have x1 := HW.out.1 a[i] (List.getElem_mem hil1)
      have x2 := HW.out.2 b[i] (List.getElem_mem hil2)
      have ex : bits .xor .u16 (a[i] : Int) (b[i] : Int) = ((a[i] ^^^ b[i] : Nat) : Int) := u16_xor_nat _ _ x1 x2
      have HS := Lib.hid (xorL_snoc hil1 hil2)
      generalize a[i] ^^^ b[i] = z at *
      generalize a[i] = x at *
      generalize b[i] = y at *
      clear KA KB KC K27
      go_upto_region 8 with fail
      go_region_held3 (fun w' => w'.cell? ⟨b0, off0 + i, none⟩ = some (.int .u16 (x : Nat)) ∧ w'.cell? ⟨b1, off1 + i, none⟩ = some (.int .u16 (y : Nat))) (first | go_keep | exact HKK.out _ HO9.out.bel) ((refine step_appP rfl (.tmp 34) (.tmp 44) 22 rfl st22 0 ((I2.out.ext (Below.refl _ _).drew).ext (below_alloc wr.drew (.cells #[.int .u16 (z : Nat)] 41))) rfl rfl rfl (i + 1) (u16s ((xorL a b).take (i + 1))) ?_ [.int .u16 (z : Nat)] rfl (by rw [← HS.out]) (Rd.new wr.drew #[.int .u16 (z : Nat)] 41) rfl (by simp [Value.oneCell']) (by unfold maxLen; omega) (by omega); intro A9 c9 w9 hO9; have HO9 := Lib.hid hO9; clear hO9))
      go_wp2_with fail
      go_roundg (gk - 1)
      case measure => have := I1.out; omega
      case rel => exact ⟨i + 1, A9, c9, by omega, rfl, by go_num, by have := I1.out; omega, HO9.out⟩
    have HI := Lib.hid (show i = n1 by omega)
    have HT2 := Lib.hid (show (xorL a b).take i = xorL a b by rw [HI.out, HT.out])
    rw [HT2.out, HI.out] at I2
    have hni : ¬ (i : Int) < (n1 : Int) := by have := HI.out; omega
    have hin := HI.out
    have RC := Lib.hid (I2.out.rd 0 rfl)
    have S9 := Lib.hid (Own.start w |>.ext I2.out.bel)
    clear HI HT2 HT I2 I1 hi hlt
    subst hin
    by_cases h1 : skE k a = 0
    case neg => as_aux_lemma =>
      generalize skE k a = ea at *
      have h1' : (ea != 0) = true := by simp only [bne_iff_ne, ne_eq]; exact h1
      unfold WsPost at KA KB KC
  
      go_wp2_with fail
      refine (KA.out _ S9.out.bel).mono ?_
      rintro e v4 ⟨A4, c4, rfl, hO⟩
      have R4 := Lib.hid (hO.rd 0 rfl)
      replace S9 := Lib.hid (S9.out.ext hO.bel)
      replace RC := Lib.hid (RC.out.below hO.bel)
      clear hO
      go_wp2_with fail
      refine (KB.out _ S9.out.bel).mono ?_
      rintro e v5 ⟨A5, c5, rfl, hO⟩
      have R5 := Lib.hid (hO.rd 0 rfl)
      replace S9 := Lib.hid (S9.out.ext hO.bel)
      replace RC := Lib.hid (RC.out.below hO.bel)
      replace R4 := Lib.hid (R4.out.below hO.bel)
      clear hO
      go_wp2_with fail
      refine (KC.out _ _ _ S9.out.bel RC.out).mono ?_
      rintro e v6 ⟨A6, c6, rfl, hO⟩
      have R6 := Lib.hid (hO.rd 0 rfl)
      replace S9 := Lib.hid (S9.out.ext hO.bel)
      replace R4 := Lib.hid (R4.out.below hO.bel)
      replace R5 := Lib.hid (R5.out.below hO.bel)
      clear hO RC
      go_wp2_with fail
      go_ret
      exact ⟨rfl, S9.out.bel⟩
    by_cases h2 : skE k b = 0
    case neg => as_aux_lemma =>
      rw [h1] at KA
      generalize skE k b = eb at *
      have h2' : (eb != 0) = true := by simp only [bne_iff_ne, ne_eq]; exact h2
      unfold WsPost at KA KB KC
      go_wp2_with fail
      refine (KA.out _ S9.out.bel).mono ?_
      rintro e v4 ⟨A4, c4, rfl, hO⟩
      have R4 := Lib.hid (hO.rd 0 rfl)
      replace S9 := Lib.hid (S9.out.ext hO.bel)
      replace RC := Lib.hid (RC.out.below hO.bel)
      clear hO
      go_wp2_with fail
      refine (KB.out _ S9.out.bel).mono ?_
      rintro e v5 ⟨A5, c5, rfl, hO⟩
      have R5 := Lib.hid (hO.rd 0 rfl)
      replace S9 := Lib.hid (S9.out.ext hO.bel)
      replace RC := Lib.hid (RC.out.below hO.bel)
      replace R4 := Lib.hid (R4.out.below hO.bel)
      clear hO
      go_wp2_with fail
      refine (KC.out _ _ _ S9.out.bel RC.out).mono ?_
      rintro e v6 ⟨A6, c6, rfl, hO⟩
      have R6 := Lib.hid (hO.rd 0 rfl)
      replace S9 := Lib.hid (S9.out.ext hO.bel)
      replace R4 := Lib.hid (R4.out.below hO.bel)
      replace R5 := Lib.hid (R5.out.below hO.bel)
      clear hO RC
      go_wp2_with fail
      go_ret
      exact ⟨rfl, S9.out.bel⟩
    obtain ⟨hkb, ta⟩ := skE_ok h1
    obtain ⟨-, tb⟩ := skE_ok h2
    obtain ⟨m, rfl, hm1, hm3, hmt⟩ := kind_bd hkb
    have hok := kd_ok hm1 hm3
    have tc := tmplB_xor HAB.out ta tb
    obtain ⟨pa, -⟩ := skL_of hkb ta
    obtain ⟨pb, -⟩ := skL_of hkb tb
    obtain ⟨pc, h3⟩ := skL_of hkb tc
    rw [hmt] at pa pb pc
    have KI := fun x (hx : x < 2 ^ 16) W => isSketch_any m hm1 hm3 x hx W
    have q1 : i = (a.map (kd m).rest).length := by rw [List.length_map]; exact HN.out.1
    have q2 : i = (b.map (kd m).rest).length := by rw [List.length_map]; exact HN.out.2.1
    have q3 : i = ((xorL a b).map (kd m).rest).length := by rw [List.length_map]; exact HN.out.2.2
    have HV := Lib.hid (fun (j : Nat) (g1 : j < (a.map (kd m).rest).length) (g2 : j < (b.map (kd m).rest).length) (g3 : j < ((xorL a b).map (kd m).rest).length) => (show ((xorL a b).map (kd m).rest)[j] = (a.map (kd m).rest)[j] ^^^ (b.map (kd m).rest)[j] ∧ ((xorL a b).map (kd m).rest)[j] < 2 ^ (kd m).f ∧ (a.map (kd m).rest)[j] < 2 ^ (kd m).f ∧ (b.map (kd m).rest)[j] < 2 ^ (kd m).f by
      simp only [List.getElem_map]
      have hj1 : j < a.length := by simpa using g1
      have hj2 : j < b.length := by simpa using g2
      have hj3 : j < (xorL a b).length := by simpa using g3
      refine ⟨by rw [xorL_get hj1 hj2 hj3, Kd.rest_xor], ?_, ?_, ?_⟩
      · exact Kd.rest_lt hok ((tmpl_bd tc).2.2 _ (List.getElem_mem _))
      · exact Kd.rest_lt hok ((tmpl_bd ta).2.2 _ (List.getElem_mem _))
      · exact Kd.rest_lt hok ((tmpl_bd tb).2.2 _ (List.getElem_mem _))))
    have hpf := Lib.hid (pow_f_le hok)
    rw [h1, pa] at KA
    rw [h2, pb] at KB
    rw [h3, pc] at KC
    unfold WsPost at KA KB KC
    rw [← q1] at KA
    rw [← q2] at KB
    rw [← q3] at KC
    replace q1 := Lib.hid q1
    replace q2 := Lib.hid q2
    replace q3 := Lib.hid q3
    clear h1 h2 h3 pa pb pc ta tb tc hkb hmt hm1 hm3 hok HAB HW HK HN
    replace KI := Lib.hid KI
    generalize a.map (kd m).rest = la at *
    generalize b.map (kd m).rest = lb at *
    generalize (xorL a b).map (kd m).rest = lc at *
    go_wp2_with fail
    refine (KA.out _ S9.out.bel).mono ?_
    rintro e v4 ⟨A4, c4, rfl, hO⟩
    have R4 := Lib.hid (hO.rd 0 rfl)
    replace S9 := Lib.hid (S9.out.ext hO.bel)
    replace RC := Lib.hid (RC.out.below hO.bel)
    clear hO
    go_wp2_with fail
    refine (KB.out _ S9.out.bel).mono ?_
    rintro e v5 ⟨A5, c5, rfl, hO⟩
    have R5 := Lib.hid (hO.rd 0 rfl)
    replace S9 := Lib.hid (S9.out.ext hO.bel)
    replace RC := Lib.hid (RC.out.below hO.bel)
    replace R4 := Lib.hid (R4.out.below hO.bel)
    clear hO
    go_wp2_with fail
    refine (KC.out _ _ _ S9.out.bel RC.out).mono ?_
    rintro e v6 ⟨A6, c6, rfl, hO⟩
    have R6 := Lib.hid (hO.rd 0 rfl)
    replace S9 := Lib.hid (S9.out.ext hO.bel)
    replace R4 := Lib.hid (R4.out.below hO.bel)
    replace R5 := Lib.hid (R5.out.below hO.bel)
    clear hO RC
    go_wp2_with fail
    go_loopg [97] i (fun q u97 wq => ∃ (j : Nat), j ≤ i ∧ u97 = .int .i64 (j : Nat) ∧ Hid (j + q = i ∧ Own v6 wq []))
    case atStart => exact ⟨0, by omega, rfl, by omega, Own.start v6⟩
    case round =>
      obtain ⟨G1, rfl⟩ : ∃ G1 : Nat, G1 = gk := ⟨_, rfl⟩
      obtain ⟨j, hj, rfl, hJ⟩ := hrel
      have J1 := Lib.hid hJ.out.1
      have J2 := Lib.hid hJ.out.2
      clear hJ
      by_cases hjt : j < i
      case neg => as_aux_lemma =>
        have hnj : ¬ (j : Int) < (i : Int) := by omega
        go_wp2_with fail
        go_ret
        exact ⟨rfl, below_step S9.out.bel J2.out.bel⟩
      have hji : (j : Int) < (i : Int) := by omega
      have g1 : j < la.length := by rw [← q1.out]; exact hjt
      have g2 : j < lb.length := by rw [← q2.out]; exact hjt
      have g3 : j < lc.length := by rw [← q3.out]; exact hjt
      obtain ⟨b1, o1, rfl, k1, l1⟩ := R4.out.u16 g1
      obtain ⟨b2, o2, rfl, k2, l2⟩ := R5.out.u16 g2
      obtain ⟨b3, o3, rfl, k3, l3⟩ := R6.out.u16 g3
      obtain ⟨v1, v2, v3, v4⟩ := HV.out j g1 g2 g3
      have hp := hpf.out
      have ex : bits .xor .u16 (la[j] : Int) (lb[j] : Int) = ((la[j] ^^^ lb[j] : Nat) : Int) := u16_xor_nat _ _ (by omega) (by omega)
      rw [← v1] at ex
      have KJ := fun W => KI.out lc[j] (by omega) W
      rw [decide_eq_true v2] at KJ
      replace KJ := Lib.hid KJ
      generalize la[j] = x at *
      generalize lb[j] = y at *
      generalize lc[j] = z at *
      clear v1 v2 v3 v4 hp KA KB KC K27 g1 g2 g3 R4 R5 R6 KI
      as_aux_lemma =>
      have f1 := fun x : OwnOf v6 [] => x.out l1 k1
      have f2 := fun x : OwnOf v6 [] => x.out l2 k2
      have f3 := fun x : OwnOf v6 [] => x.out l3 k3
      go_upto_region 20 with fail
      have hne : Nonempty (OwnOf v6 []) := ⟨⟨_, J2.out⟩⟩
      refine wp_region_own J2.out (by kernel_rfl) (by kernel_rfl) ?_
      iterate 20 (go_big_quiet_step (fail))
      go_big_quiet_step ((go_at_call 37; exact own_of (KJ.out _)))
      iterate 2 (go_big_quiet_step (fail))
      refine wpQuiet_nil ?_
      rintro w7 ⟨z, hz⟩
      have S7 := Lib.hid (show Own v6 w7 [] by rw [hz]; exact z.own)
      clear hz z hne f1 f2 f3
      go_wp2_with fail
      go_roundg (G1 - 1)
      case measure => have := J1.out; omega
      case rel => exact ⟨j + 1, by omega, by go_num, by have := J1.out; omega, S7.out⟩
end Go.Proofs.YtnienfgaidccpaaDoor
