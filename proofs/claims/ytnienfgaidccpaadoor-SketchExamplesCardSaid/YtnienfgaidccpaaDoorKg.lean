/- Sketch: SameWords; Sketch of the program and of the reference. No condition. -/
import Derived.Test.YtnienfgaidccpaaDoorKf
import Derived.Deep.OwnRows
namespace Go.Proofs.YtnienfgaidccpaaDoor
open Go.RowKit Go.Shelf
attribute [local go_sem] Oper.semAt_some

set_option maxRecDepth 100000 in
set_option maxHeartbeats 1000000 in
theorem sameWords_any (l l' : List Nat) (A A' : Option Addr) (n n' cp cp' : Nat) (w : World) (hr : Rd w A (u16s l)) (hr' : Rd w A' (u16s l')) (hn : n = l.length) (hn' : n' = l'.length) (hbig : n ≤ 4611686018427387904) :
    Calls Tryd.prog 19 #[.slice A n cp, .slice A' n' cp'] w fun e w' => e = .returned (.bool (decide (l = l'))) ∧ Below w.heap.size w w' := by
  by_cases hnn : n = n'
  case neg => as_aux_lemma =>
    have HF := Lib.hid (show decide (l = l') = false by
      rw [decide_eq_false_iff_not]
      rintro rfl
      omega)
    generalize decide (l = l') = v at *
    have g : ¬ (n : Int) = (n' : Int) := by omega
    clear hr hr' hn hn'
    go_enter Tryd.func19, Tryd.ntmps19
    go_wp2_with fail
    go_ret
    exact ⟨by rw [HF.out]; rfl, Below.refl _ _⟩
  obtain rfl : n = n' := hnn
  have HR := Lib.hid hr
  have HR' := Lib.hid hr'
  have HN := Lib.hid (show n = l.length ∧ n = l'.length from ⟨hn, hn'⟩)
  have HV := Lib.hid (show decide (l = l') = decide (l.drop 0 = l'.drop 0) by rw [List.drop_zero, List.drop_zero])
  generalize decide (l = l') = v at *
  clear hr hr' hn hn'
  go_enter Tryd.func19, Tryd.ntmps19
  go_wp2_with fail
  go_loopg [5] n (fun q u5 wr => ∃ i : Nat, i ≤ n ∧ u5 = .int .i64 (i : Nat) ∧ Hid (v = decide (l.drop i = l'.drop i) ∧ i + q = n ∧ Own w wr []))
  case atStart => exact ⟨0, by omega, rfl, HV.out, by omega, Own.start w⟩
  case round =>
    obtain ⟨i, hi, rfl, hI⟩ := hrel
    have I1 := Lib.hid hI.out.1
    have I2 := Lib.hid hI.out.2.1
    have I3 := Lib.hid hI.out.2.2
    clear hI
    by_cases hlt : i < n
    case neg => as_aux_lemma =>
      have HE := Lib.hid (show v = true by
        rw [I1.out, List.drop_eq_nil_of_le (by have := HN.out.1; omega), List.drop_eq_nil_of_le (by have := HN.out.2; omega)]; rfl)
      have hni : ¬ (i : Int) < (n : Int) := by omega
      go_wp2_with fail
      go_ret
      exact ⟨by rw [HE.out]; rfl, I3.out.bel⟩
    have hil : i < l.length := by have := HN.out.1; omega
    have hil' : i < l'.length := by have := HN.out.2; omega
    have hix : (i : Int) < (n : Int) := by omega
    obtain ⟨b0, off, rfl, k0, l0⟩ := HR.out.u16 hil
    obtain ⟨b1, off1, rfl, k1, l1⟩ := HR'.out.u16 hil'
    have HD := Lib.hid (show v = (decide (l[i] = l'[i]) && decide (l.drop (i + 1) = l'.drop (i + 1))) by
      rw [I1.out, List.drop_eq_getElem_cons hil, List.drop_eq_getElem_cons hil', Bool.eq_iff_iff]
      simp only [decide_eq_true_eq, Bool.and_eq_true, List.cons.injEq])
    generalize l[i] = x at *
    generalize l'[i] = y at *
    have fx0 := fun x : OwnOf w [] => x.out l0 k0
    have fx1 := fun x : OwnOf w [] => x.out l1 k1
    by_cases hx : x = y
    · as_aux_lemma =>
      have HE := Lib.hid (show v = decide (l.drop (i + 1) = l'.drop (i + 1)) by rw [HD.out]; simp [hx])
      subst hx
      go_wp2_with fail
      have hne : Nonempty (OwnOf w []) := ⟨⟨_, I3.out⟩⟩
      refine wp_region_own I3.out (by kernel_rfl) (by kernel_rfl) ?_
      iterate 9 (go_big_quiet_step (fail))
      refine wpQuiet_nil ?_
      rintro w3 ⟨z, hz⟩
      have S3 := Lib.hid (show Own w w3 [] by rw [hz]; exact z.own)
      clear hz z hne fx0 fx1
      go_wp2_with fail
      go_roundg (gk - 1)
      case measure => have := I2.out; omega
      case rel => exact ⟨i + 1, by omega, by go_num, HE.out, by have := I2.out; omega, S3.out⟩
    · as_aux_lemma =>
      have HE := Lib.hid (show v = false by rw [HD.out]; simp [hx])
      have hx2 : ¬ (x : Int) = (y : Int) := by omega
      go_wp2_with fail
      have hne : Nonempty (OwnOf w []) := ⟨⟨_, I3.out⟩⟩
      refine wp_region_own I3.out (by kernel_rfl) (by kernel_rfl) ?_
      iterate 9 (go_big_quiet_step (fail))
      refine wpQuiet_nil ?_
      rintro w3 ⟨z, hz⟩
      have S3 := Lib.hid (show Own w w3 [] by rw [hz]; exact z.own)
      clear hz z hne fx0 fx1
      go_wp2_with fail
      go_ret
      exact ⟨by rw [HE.out]; rfl, S3.out.bel⟩
theorem sameWords_true (l : List Nat) (A A' : Option Addr) (n n' cp cp' : Nat) (w : World) (hr : Rd w A (u16s l)) (hr' : Rd w A' (u16s l)) (hn : n = l.length) (hn' : n' = l.length) (hbig : n ≤ 4611686018427387904) :
    Calls Tryd.prog 19 #[.slice A n cp, .slice A' n' cp'] w fun e w' => e = .returned (.bool true) ∧ Below w.heap.size w w' := by
  have h := sameWords_any l l A A' n n' cp cp' w hr hr' hn hn' hbig
  simpa using h
/-- What Sketch returns. -/
def skL (k : Int) (l : List Nat) : List Nat := if (kindB k && tmplB l) = true then l.map (kd k.toNat).rest else []
def skE (k : Int) (l : List Nat) : Int := if (kindB k && tmplB l) = true then 0 else 2
def WsPost (L : List Nat) (e0 : Int) (w : World) (e : Ending) (w' : World) : Prop :=
  ∃ A c, e = .returned (.tuple #[.slice A L.length c, .int .i64 e0]) ∧ Own w w' [row 41 1 (.slice A L.length c) L.length (u16s L)]
theorem st22 : SlTy Tryd.prog 22 41 (.int .u16 0) 1 2 := ⟨Tryd.underlying22, by kernel_rfl, rfl, by decide⟩
theorem tmpl_bd {l : List Nat} (h : tmplB l = true) : 1 ≤ l.length ∧ l.length ≤ 4 ∧ ∀ x ∈ l, x < 2 ^ 15 := by
  simp only [tmplB, Bool.and_eq_true, decide_eq_true_eq, List.all_eq_true] at h
  exact ⟨h.1.1, h.1.2, h.2⟩
theorem kind_bd {k : Int} (h : kindB k = true) : ∃ n : Nat, k = n ∧ 1 ≤ n ∧ n ≤ 3 ∧ k.toNat = n := by
  simp only [kindB, Bool.and_eq_true, decide_eq_true_eq] at h
  exact ⟨k.toNat, by omega, by omega, by omega, rfl⟩
theorem madeU16 (n : Nat) : (madeCells #[Value.int .u16 0] n).toList = u16s (List.replicate n 0) := by
  apply List.ext_getElem
  · simp [madeCells, u16s]
  · intro i h1 h2
    simp [madeCells, u16s, Nat.mod_one]
/-- The sketches so far, then zeros. -/
def mixS (c : Kd) (l : List Nat) (i : Nat) : List Nat := (l.take i).map c.rest ++ List.replicate (l.length - i) 0
theorem mixS_zero (c : Kd) (l : List Nat) : mixS c l 0 = List.replicate l.length 0 := by simp [mixS]
theorem mixS_all (c : Kd) (l : List Nat) : mixS c l l.length = l.map c.rest := by simp [mixS]
theorem mixS_set {c : Kd} {l : List Nat} {i : Nat} (h : i < l.length) : (u16s (mixS c l i)).set i (.int .u16 (c.rest l[i] : Nat)) = u16s (mixS c l (i + 1)) := by
  have e : mixS c l (i + 1) = (mixS c l i).set i (c.rest l[i]) := by
    unfold mixS
    have hlen : ((l.take i).map c.rest).length = i := by simp; omega
    obtain ⟨q, hq⟩ : ∃ q, l.length - i = q + 1 := ⟨l.length - i - 1, by omega⟩
    have hq2 : l.length - (i + 1) = q := by omega
    rw [List.set_append_right _ _ (by omega), hlen, Nat.sub_self, hq, hq2, List.replicate_succ, List.set_cons_zero, List.take_add_one, List.getElem?_eq_getElem h]
    simp only [Option.toList_some, List.map_append, List.map_cons, List.map_nil, List.append_assoc, List.cons_append, List.nil_append]
  rw [e]
  unfold u16s
  rw [List.map_set]
theorem mixS_len (c : Kd) {l : List Nat} {i : Nat} (h : i ≤ l.length) : (mixS c l i).length = l.length := by simp [mixS]; omega
set_option maxRecDepth 100000 in
set_option maxHeartbeats 2000000 in
theorem sketch_main (k : Int) (l : List Nat) (A : Option Addr) (n cp : Nat) (w : World) (hc : Cod w) (hk : 0 ≤ k ∧ k ≤ 255) (hr : Rd w A (u16s l)) (hn : n = l.length) :
    Calls Tryd.prog 17 #[.int .u8 k, .slice A n cp] w (WsPost (skL k l) (skE k l) w) := by
  have K57 := fun W (h : Cod W) => kind_any k W h hk
  have K58 := fun W (h : Rd W A (u16s l)) => template_any l A n cp W h hn
  have HF := Lib.hid (fun W (h : Below w.heap.size w W) => hr.below h)
  have HCD := Lib.hid (fun W (h : Below w.heap.size w W) => hc.below h)
  cases hkb : kindB k
  · as_aux_lemma =>
    have HL := Lib.hid (show skL k l = [] ∧ skE k l = 2 by simp [skL, skE, hkb])
    rw [hkb] at K57
    replace K57 := Lib.hid K57
    obtain ⟨g, q, t, HG⟩ : ∃ g q t : Int, Hid (kdV (kd k.toNat) = .agg #[.int .u16 g, .int .i64 q, .int .i64 t]) := ⟨_, _, _, Lib.hid rfl⟩
    rw [HG.out] at K57
    clear hr hc hn hkb HG
    go_enter Tryd.func17, Tryd.ntmps17
    go_wp2_with fail
    refine (K57.out _ (HCD.out _ (Below.refl _ _))).mono ?_
    rintro e w1 ⟨rfl, hb1⟩
    have S1 := Lib.hid ((Own.start w).ext hb1)
    clear hb1
    go_wp2_with fail
    go_ret2
    exact ⟨none, 0, by rw [HL.out.1, HL.out.2]; rfl, by rw [HL.out.1]; exact (((S1.out.new 94 #[.int .u16 g, .int .i64 q, .int .i64 t]).nil 41 1).sub [0] (by decide) rfl)⟩
  obtain ⟨m, hm, hm1, hm3, hmt⟩ := kind_bd hkb
  cases htb : tmplB l
  · as_aux_lemma =>
    have HL := Lib.hid (show skL k l = [] ∧ skE k l = 2 by simp [skL, skE, hkb, htb])
    rw [hkb] at K57
    rw [htb] at K58
    replace K57 := Lib.hid K57
    replace K58 := Lib.hid K58
    obtain ⟨g, q, t, HG⟩ : ∃ g q t : Int, Hid (kdV (kd k.toNat) = .agg #[.int .u16 g, .int .i64 q, .int .i64 t]) := ⟨_, _, _, Lib.hid rfl⟩
    rw [HG.out] at K57
    clear hr hc hn hkb htb HG hm hmt
    go_enter Tryd.func17, Tryd.ntmps17
    go_wp2_with fail
    refine (K57.out _ (HCD.out _ (Below.refl _ _))).mono ?_
    rintro e w1 ⟨rfl, hb1⟩
    have S1 := Lib.hid ((Own.start w).ext hb1)
    clear hb1
    go_upto_region 2 with fail
    have S2 := Lib.hid (S1.out.new 94 #[.int .u16 g, .int .i64 q, .int .i64 t])
    generalize w1.alloc _ = w2 at *
    generalize w1.heap.size = B at *
    go_wp2_with fail
    refine (K58.out _ (HF.out _ S2.out.bel)).mono ?_
    rintro e w3 ⟨rfl, rfl⟩
    go_wp2_with fail
    go_ret2
    exact ⟨none, 0, by rw [HL.out.1, HL.out.2]; rfl, by rw [HL.out.1]; exact ((S2.out.nil 41 1).sub [0] (by decide) rfl)⟩
  obtain ⟨l1, l4, l15⟩ := tmpl_bd htb
  have HL := Lib.hid (show skL k l = l.map (kd m).rest ∧ skE k l = 0 by simp [skL, skE, hkb, htb, hmt])
  have hok := kd_ok hm1 hm3
  rw [hkb, hmt] at K57
  rw [htb] at K58
  replace K57 := Lib.hid K57
  replace K58 := Lib.hid K58
  have HR := Lib.hid (fun x (hx : x < 2 ^ 15) W => rest_any (kd m) hok x hx W)
  generalize kd m = c at *
  unfold kdV at K57 HR
  have HLB := Lib.hid l15
  have HN := Lib.hid hn
  have HRD := Lib.hid hr
  have hn1 : 1 ≤ n := by omega
  have hn4 : n ≤ 4 := by omega
  have hmk : ∀ W : World, (Instr.makeSlice 22 (.int .i64 (n : Nat)) (.int .i64 (n : Nat))).run Tryd.prog W = .ok (.slice (some ⟨W.heap.size, 0, none⟩) n n) (W.alloc (.cells (madeCells #[.int .u16 0] n) 41)) := fun W => run_make_row' (P := Tryd.prog) 22 41 (.int .u16 0) 2 Tryd.underlying22 (by kernel_rfl) rfl .i64 .i64 n (by omega) (by omega) W
  clear hr hc hn hkb htb hm hmt l1 l4 l15 hok
  as_aux_lemma =>
  go_enter Tryd.func17, Tryd.ntmps17
  go_wp2_with fail
  refine (K57.out _ (HCD.out _ (Below.refl _ _))).mono ?_
  rintro e w1 ⟨rfl, hb1⟩
  have S1 := Lib.hid ((Own.start w).ext hb1)
  clear hb1
  go_upto_region 2 with fail
  have S2 := Lib.hid (S1.out.new 94 #[.int .u16 c.g, .int .i64 c.k, .int .i64 c.t])
  generalize w1.alloc _ = w2 at *
  generalize w1.heap.size = B at *
  clear S1
  go_wp2_with fail
  refine (K58.out _ (HF.out _ S2.out.bel)).mono ?_
  rintro e w3 ⟨rfl, rfl⟩
  go_wp2_with fail
  have S3 := Lib.hid (((S2.out.new' 41 (madeCells #[.int .u16 0] n) (B := w2.heap.size) rfl).asRow (size := 1) (n := n) 0 rfl (by rw [madeU16, u16s_len]; simp) (by unfold maxLen; omega)).cast (qs := [row 41 1 (.slice (some ⟨w2.heap.size, 0, none⟩) n n) n (u16s (mixS c l 0)), box B 94 [.int .u16 c.g, .int .i64 c.k, .int .i64 c.t]]) (by rw [madeU16, mixS_zero, ← HN.out]; rfl))
  go_loopg [28] n (fun q u28 wr => ∃ i : Nat, i ≤ n ∧ u28 = .int .i64 (i : Nat) ∧ Hid (i + q = n ∧ Own w wr [row 41 1 (.slice (some ⟨w2.heap.size, 0, none⟩) n n) n (u16s (mixS c l i)), box B 94 [.int .u16 c.g, .int .i64 c.k, .int .i64 c.t]]))
  case atStart => exact ⟨0, by omega, rfl, by omega, S3.out⟩
  case round =>
    obtain ⟨i, hi, rfl, hI⟩ := hrel
    have I1 := Lib.hid hI.out.1
    have I2 := Lib.hid hI.out.2
    clear hI S3 S2 hmk
    by_cases hlt : i < n
    case neg => as_aux_lemma =>
      have HE := Lib.hid (show mixS c l i = skL k l by rw [HL.out.1, ← mixS_all]; congr 1; have := HN.out; omega)
      have HE2 := Lib.hid (show (skL k l).length = n by rw [HL.out.1, List.length_map]; exact HN.out.symm)
      have hni : ¬ (i : Int) < (n : Int) := by omega
      go_wp2_with fail
      go_ret2
      exact ⟨some ⟨w2.heap.size, 0, none⟩, n, by rw [HL.out.2, HE2.out]; rfl, by rw [HE2.out, ← HE.out]; exact (I2.out.sub [0] (by decide) rfl)⟩
    have hil : i < l.length := by rw [← HN.out]; exact hlt
    have hix : (i : Int) < (n : Int) := by omega
    obtain ⟨b0, off, rfl, k0, l0⟩ := (HF.out _ I2.out.bel).u16 hil
    have HR1 := Lib.hid (HR.out l[i] (HLB.out _ (List.getElem_mem hil)))
    have HS := Lib.hid (mixS_set (c := c) hil)
    generalize c.rest l[i] = y at *
    generalize l[i] = x at *
    obtain ⟨t0, t1, t2, _⟩ := (I2.out.bx 1 rfl).c3
    have lt := (I2.out.bx 1 rfl).2.2
    as_aux_lemma =>
    go_wp2_with fail
    refine (HR1.out _).mono ?_
    rintro e w5 ⟨rfl, hb5⟩
    have S5 := Lib.hid (I2.out.ext hb5)
    clear hb5 t0 t1 t2 lt k0
    have c0 := S5.out.rowAt 0 rfl (j := i) (u16s_get (by rw [mixS_len _ (by omega)]; exact hil))
    have lg := (S5.out.rowLt 0 rfl).1
    have lf := (S5.out.rowLt 0 rfl).2
    go_wp2_with fail
    go_roundg (gk - 1)
    case measure => have := I1.out; omega
    case rel => exact ⟨i + 1, by omega, by go_num, by have := I1.out; omega, by rw [← HS.out]; exact (S5.out.setRow 0 rfl i (.int .u16 (y : Nat)))⟩
end Go.Proofs.YtnienfgaidccpaaDoor
