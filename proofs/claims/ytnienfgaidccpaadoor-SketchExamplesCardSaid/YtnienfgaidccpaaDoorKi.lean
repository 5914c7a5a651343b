/- Sketch: Recover of the program and of the reference. No condition. -/
import Derived.Test.YtnienfgaidccpaaDoorKh
import Derived.BigQuiet
import Derived.OwnWalk
namespace Go.Proofs.YtnienfgaidccpaaDoor
open Go.RowKit Go.Shelf
attribute [local go_sem] Oper.semAt_some

/-- What runs through a list and stops at the first failure. -/
def runF (F : Nat → Option (Nat × Nat)) : Nat → Option (List Nat × Nat)
  | 0 => some ([], 0)
  | i + 1 => match runF F i, F i with
    | some (L, m), some (x, d) => some (L ++ [x], m + d)
    | _, _ => none
theorem runF_step {F : Nat → Option (Nat × Nat)} {i : Nat} {L : List Nat} {m x d : Nat} (h : runF F i = some (L, m)) (hF : F i = some (x, d)) : runF F (i + 1) = some (L ++ [x], m + d) := by
  simp only [runF, h, hF]
theorem runF_none {F : Nat → Option (Nat × Nat)} {i : Nat} (h : runF F i = none) : ∀ n, i ≤ n → runF F n = none := by
  intro n hn
  induction n with
  | zero => obtain rfl : i = 0 := by omega
            exact h
  | succ n ih =>
    by_cases e : i = n + 1
    · subst e; exact h
    · simp only [runF, ih (by omega)]
theorem runF_stop {F : Nat → Option (Nat × Nat)} {i : Nat} (h : F i = none) (n : Nat) (hn : i < n) : runF F n = none := by
  refine runF_none (i := i + 1) ?_ n hn
  simp only [runF, h]
  split
  · rename_i h1 h2; cases h2
  · rfl
theorem runF_len {F : Nat → Option (Nat × Nat)} : ∀ (n : Nat) (L : List Nat) (m : Nat), runF F n = some (L, m) → L.length = n := by
  intro n
  induction n with
  | zero => intro L m h; simp only [runF, Option.some.injEq, Prod.mk.injEq] at h; rw [← h.1]; rfl
  | succ n ih =>
    intro L m h
    simp only [runF] at h
    split at h
    · rename_i h1 h2
      simp only [Option.some.injEq, Prod.mk.injEq] at h
      rw [← h.1, List.length_append, ih _ _ h1]; rfl
    · cases h
def recAt (c : Kd) (w s : Nat) : Option (Nat × Nat) := (c.err (c.rest w ^^^ s)).map fun e => (w ^^^ e, cnt e)
def recF (c : Kd) (t sk : List Nat) (i : Nat) : Option (Nat × Nat) := recAt c (t.getD i 0) (sk.getD i 0)
theorem recF_eq (c : Kd) {t sk : List Nat} {i : Nat} (h : i < t.length) (h' : i < sk.length) : recF c t sk i = recAt c t[i] sk[i] := by
  simp [recF, List.getD, List.getElem?_eq_getElem h, List.getElem?_eq_getElem h']
theorem recAt_some {c : Kd} {w s y d : Nat} (hw : w < 2 ^ 15) (h : recAt c w s = some (y, d)) : ∃ e, c.err (c.rest w ^^^ s) = some e ∧ y = w ^^^ e ∧ d = cnt e ∧ e < 2 ^ 15 ∧ y < 2 ^ 15 ∧ d ≤ 16 := by
  unfold recAt at h
  cases he : c.err (c.rest w ^^^ s) with
  | none => rw [he] at h; cases h
  | some e =>
    rw [he] at h
    simp only [Option.map_some, Option.some.injEq, Prod.mk.injEq] at h
    have h2 := (Kd.err_some he).2.1
    exact ⟨e, rfl, h.1.symm, h.2.symm, h2, by rw [← h.1]; exact Nat.xor_lt_two_pow hw h2, by rw [← h.2]; exact cnt_le16 e⟩
theorem recAt_none {c : Kd} {w s : Nat} (h : recAt c w s = none) : c.err (c.rest w ^^^ s) = none := by
  unfold recAt at h
  cases he : c.err (c.rest w ^^^ s) with
  | none => rfl
  | some e => rw [he] at h; cases h
/-- What the reference decodes, and the recovered word. -/
theorem dec_none {c : Kd} (hc : c.ok) {w s : Nat} (hw : w < 2 ^ 15) (hs : s < 2 ^ c.f) (h : recAt c w s = none) : c.dec (w ^^^ s) = none := by
  have hx : w ^^^ s < 2 ^ 15 := Nat.xor_lt_two_pow hw (Nat.lt_of_lt_of_le hs (pow_f_le hc))
  rw [c.dec_err hc hx, c.rest_xor, c.rest_small hs, recAt_none h]
  rfl
theorem dec_some {c : Kd} (hc : c.ok) {w s y d : Nat} (hw : w < 2 ^ 15) (hs : s < 2 ^ c.f) (h : recAt c w s = some (y, d)) : ∃ m, m < 2 ^ c.k ∧ c.dec (w ^^^ s) = some (m, d) ∧ c.code m ^^^ s = y ∧ c.code m < 2 ^ 15 := by
  have hx : w ^^^ s < 2 ^ 15 := Nat.xor_lt_two_pow hw (Nat.lt_of_lt_of_le hs (pow_f_le hc))
  obtain ⟨e, he, hy, hd, h15, _, _⟩ := recAt_some hw h
  have hz : w ^^^ s ^^^ e < 2 ^ 15 := Nat.xor_lt_two_pow hx h15
  have hr : c.rest (w ^^^ s ^^^ e) = 0 := by rw [c.rest_xor, c.rest_xor, c.rest_small hs, (Kd.err_some he).1, xor_self]
  have hm := shr_lt hc hz
  refine ⟨(w ^^^ s ^^^ e) >>> c.f, hm, ?_, ?_, c.code_lt hc hm⟩
  · rw [c.dec_err hc hx, c.rest_xor, c.rest_small hs, he, hd]
    rfl
  · rw [c.of_rest_zero hc hz hr, hy, Nat.xor_assoc w s e, Nat.xor_comm s e, ← Nat.xor_assoc, xor_xor]
def recB (k : Int) (sk t : List Nat) : Bool := kindB k && (tmplB t && (decide (sk.length = t.length) && sk.all fun m => decide (m < 2 ^ (kd k.toNat).f)))
def recO : Option (List Nat × Nat) → List Nat × Nat × Int
  | some (L, m) => (L, m, 0)
  | none => ([], 0, 51)
/-- What Recover returns: words, distances, the error's number. -/
def recR (k : Int) (sk t : List Nat) : List Nat × Nat × Int := if recB k sk t = true then recO (runF (recF (kd k.toNat) t sk) t.length) else ([], 0, 2)
def RecPost (r : List Nat × Nat × Int) (w : World) (e : Ending) (w' : World) : Prop :=
  ∃ A c, e = .returned (.tuple #[.slice A r.1.length c, .int .i64 (r.2.1 : Nat), .int .i64 r.2.2]) ∧ Own w w' [row 41 1 (.slice A r.1.length c) r.1.length (u16s r.1)]
theorem u16s_app (L : List Nat) (x : Nat) : u16s L ++ [.int .u16 (x : Nat)] = u16s (L ++ [x]) := by simp [u16s]
set_option maxRecDepth 100000 in
set_option maxHeartbeats 4000000 in
theorem recover_any (k : Int) (sk t : List Nat) (A A' : Option Addr) (n n' cp cp' : Nat) (w : World) (hc : Cod w) (hk : 0 ≤ k ∧ k ≤ 255) (hs : Rd w A (u16s sk)) (ht : Rd w A' (u16s t)) (hn : n = sk.length) (hn' : n' = t.length) (hbig : n ≤ 4611686018427387904) :
    Calls Tryd.prog 20 #[.int .u8 k, .slice A n cp, .slice A' n' cp'] w (RecPost (recR k sk t) w) := by
  have K57 := fun W (h : Cod W) => kind_any k W h hk
  have K58 := fun W (h : Rd W A' (u16s t)) => template_any t A' n' cp' W h hn'
  have HFs := Lib.hid (fun W (h : Below w.heap.size w W) => hs.below h)
  have HFt := Lib.hid (fun W (h : Below w.heap.size w W) => ht.below h)
  have HCD := Lib.hid (fun W (h : Below w.heap.size w W) => hc.below h)
  cases hkb : kindB k
  · as_aux_lemma =>
    have HL := Lib.hid (show recR k sk t = ([], 0, 2) by simp [recR, recB, hkb])
    rw [hkb] at K57
    replace K57 := Lib.hid K57
    obtain ⟨g, q, tt, HG⟩ : ∃ g q tt : Int, Hid (kdV (kd k.toNat) = .agg #[.int .u16 g, .int .i64 q, .int .i64 tt]) := ⟨_, _, _, Lib.hid rfl⟩
    rw [HG.out] at K57
    clear hs ht hc hn hn' hkb HG K58
    go_enter Tryd.func20, Tryd.ntmps20
    go_wp2_with fail
    refine (K57.out _ (HCD.out _ (Below.refl _ _))).mono ?_
    rintro e w1 ⟨rfl, hb1⟩
    have S1 := Lib.hid ((Own.start w).ext hb1)
    clear hb1
    go_upto_region 2 with fail
    have S2 := Lib.hid (S1.out.new 94 #[.int .u16 g, .int .i64 q, .int .i64 tt])
    generalize w1.alloc _ = w2 at *
    generalize w1.heap.size = B at *
    clear S1
    go_wp2_with fail
    go_ret3
    exact ⟨none, 0, by rw [HL.out]; rfl, by rw [HL.out]; exact ((S2.out.nil 41 1).sub [0] (by decide) rfl)⟩
  obtain ⟨m, hm, hm1, hm3, hmt⟩ := kind_bd hkb
  have hok := kd_ok hm1 hm3
  have HRR := Lib.hid (show recB k sk t = (tmplB t && (decide (sk.length = t.length) && sk.all fun m' => decide (m' < 2 ^ (kd m).f))) by simp [recB, hkb, hmt])
  have HRO := Lib.hid (show recR k sk t = if recB k sk t = true then recO (runF (recF (kd m) t sk) t.length) else ([], 0, 2) by rw [recR, hmt])
  rw [hkb, hmt] at K57
  have K61 := fun W (h : Rd W A (u16s sk)) => sketch_any (kd m) hok sk A n cp W h hn hbig
  have HE := Lib.hid (fun s W => error_any (kd m) hok s W)
  have HR := Lib.hid (fun x (hx : x < 2 ^ 15) W => rest_any (kd m) hok x hx W)
  have HRL := Lib.hid (fun x (hx : x < 2 ^ 15) => Kd.rest_lt hok hx)
  have HPF := Lib.hid (pow_f_le hok)
  generalize kd m = c at *
  unfold kdV at K57 K61 HR HE
  replace K57 := Lib.hid K57
  clear hm hmt hkb hok
  cases htb : tmplB t
  · as_aux_lemma =>
    have HL := Lib.hid (show recR k sk t = ([], 0, 2) by rw [HRO.out, HRR.out, htb]; rfl)
    rw [htb] at K58
    replace K58 := Lib.hid K58
    clear hs ht hc hn hn' htb K61
    go_enter Tryd.func20, Tryd.ntmps20
    go_wp2_with fail
    refine (K57.out _ (HCD.out _ (Below.refl _ _))).mono ?_
    rintro e w1 ⟨rfl, hb1⟩
    have S1 := Lib.hid ((Own.start w).ext hb1)
    clear hb1
    go_upto_region 2 with fail
    have S2 := Lib.hid (S1.out.new 94 #[.int .u16 c.g, .int .i64 c.k, .int .i64 c.t])
    generalize w1.alloc _ = w2 at *
    generalize w1.heap.size = B at *
    clear S1
    go_wp2_with fail
    refine (K58.out _ (HFt.out _ S2.out.bel)).mono ?_
    rintro e w3 ⟨rfl, rfl⟩
    go_wp2_with fail
    go_ret3
    exact ⟨none, 0, by rw [HL.out]; rfl, by rw [HL.out]; exact ((S2.out.nil 41 1).sub [0] (by decide) rfl)⟩
  rw [htb] at K58
  replace K58 := Lib.hid K58
  by_cases hlen : n = n'
  case neg => as_aux_lemma =>
    have HL := Lib.hid (show recR k sk t = ([], 0, 2) by rw [HRO.out, HRR.out, decide_eq_false (by omega)]; simp)
    have hne : ¬ (n : Int) = (n' : Int) := by omega
    clear hs ht hc hn hn' htb K61 hlen
    go_enter Tryd.func20, Tryd.ntmps20
    go_wp2_with fail
    refine (K57.out _ (HCD.out _ (Below.refl _ _))).mono ?_
    rintro e w1 ⟨rfl, hb1⟩
    have S1 := Lib.hid ((Own.start w).ext hb1)
    clear hb1
    go_upto_region 2 with fail
    have S2 := Lib.hid (S1.out.new 94 #[.int .u16 c.g, .int .i64 c.k, .int .i64 c.t])
    generalize w1.alloc _ = w2 at *
    generalize w1.heap.size = B at *
    clear S1
    go_wp2_with fail
    refine (K58.out _ (HFt.out _ S2.out.bel)).mono ?_
    rintro e w3 ⟨rfl, rfl⟩
    go_wp2_with fail
    go_ret3
    exact ⟨none, 0, by rw [HL.out]; rfl, by rw [HL.out]; exact ((S2.out.nil 41 1).sub [0] (by decide) rfl)⟩
  subst hlen
  cases hsb : sk.all fun m' => decide (m' < 2 ^ c.f)
  · as_aux_lemma =>
    have HL := Lib.hid (show recR k sk t = ([], 0, 2) by rw [HRO.out, HRR.out, hsb]; simp)
    rw [hsb] at K61
    replace K61 := Lib.hid K61
    clear hs ht hc hn hn' htb hsb
    go_enter Tryd.func20, Tryd.ntmps20
    go_wp2_with fail
    refine (K57.out _ (HCD.out _ (Below.refl _ _))).mono ?_
    rintro e w1 ⟨rfl, hb1⟩
    have S1 := Lib.hid ((Own.start w).ext hb1)
    clear hb1
    go_upto_region 2 with fail
    have S2 := Lib.hid (S1.out.new 94 #[.int .u16 c.g, .int .i64 c.k, .int .i64 c.t])
    generalize w1.alloc _ = w2 at *
    generalize w1.heap.size = B at *
    clear S1
    obtain ⟨t0, t1, t2, _⟩ := (S2.out.bx 0 rfl).c3
    have lt := (S2.out.bx 0 rfl).2.2
    go_wp2_with fail
    refine (K58.out _ (HFt.out _ S2.out.bel)).mono ?_
    rintro e w3 ⟨rfl, rfl⟩
    go_wp2_with fail
    refine (K61.out _ (HFs.out _ S2.out.bel)).mono ?_
    rintro e w4 ⟨rfl, hb4⟩
    have S4 := Lib.hid (S2.out.ext hb4)
    clear hb4 t0 t1 t2 lt
    go_wp2_with fail
    go_ret3
    exact ⟨none, 0, by rw [HL.out]; rfl, by rw [HL.out]; exact ((S4.out.nil 41 1).sub [0] (by decide) rfl)⟩
  rw [hsb] at K61
  replace K61 := Lib.hid K61
  obtain ⟨l1, l4, l15⟩ := tmpl_bd htb
  have HL := Lib.hid (show recR k sk t = recO (runF (recF c t sk) n) by rw [HRO.out, HRR.out, htb, hsb, decide_eq_true (by omega), hn']; rfl)
  have HSB := Lib.hid (fun x (hx : x ∈ sk) => (of_decide_eq_true (List.all_eq_true.1 hsb x hx) : x < 2 ^ c.f))
  have HLB := Lib.hid l15
  have HN := Lib.hid hn
  have HN' := Lib.hid hn'
  have hn1 : 1 ≤ n := by omega
  have hn4 : n ≤ 4 := by omega
  clear hs ht hc hn hn' htb hsb l1 l4 l15 HRR HRO hbig
  as_aux_lemma =>
  go_enter Tryd.func20, Tryd.ntmps20
  go_wp2_with fail
  refine (K57.out _ (HCD.out _ (Below.refl _ _))).mono ?_
  rintro e w1 ⟨rfl, hb1⟩
  have S1 := Lib.hid ((Own.start w).ext hb1)
  clear hb1
  go_upto_region 2 with fail
  have S2 := Lib.hid (S1.out.new 94 #[.int .u16 c.g, .int .i64 c.k, .int .i64 c.t])
  generalize w1.alloc _ = w2 at *
  generalize w1.heap.size = B at *
  clear S1
  obtain ⟨t0, t1, t2, _⟩ := (S2.out.bx 0 rfl).c3
  have lt := (S2.out.bx 0 rfl).2.2
  go_wp2_with fail
  refine (K58.out _ (HFt.out _ S2.out.bel)).mono ?_
  rintro e w3 ⟨rfl, rfl⟩
  go_wp2_with fail
  refine (K61.out _ (HFs.out _ S2.out.bel)).mono ?_
  rintro e w4 ⟨rfl, hb4⟩
  have S4 := Lib.hid (S2.out.ext hb4)
  clear hb4 t0 t1 t2 lt
  have S5 := Lib.hid ((S4.out.nil 41 1).cast (qs := [row 41 1 (.slice none 0 0) 0 (u16s []), box B 94 [.int .u16 c.g, .int .i64 c.k, .int .i64 c.t]]) rfl)
  clear S4 S2
  go_wp2_with fail
  go_loopg [11, 12, 44] n (fun q u11 u12 u44 wr => ∃ (i : Nat) (A1 : Option Addr) (c1 mm : Nat), i ≤ n ∧ mm ≤ 16 * i ∧ u11 = .slice A1 i c1 ∧ u12 = .int .i64 (mm : Nat) ∧ u44 = .int .i64 (i : Nat) ∧ Hid (∃ L, runF (recF c t sk) i = some (L, mm) ∧ i + q = n ∧ Own w wr [row 41 1 (.slice A1 i c1) i (u16s L), box B 94 [.int .u16 c.g, .int .i64 c.k, .int .i64 c.t]]))
  case atStart => exact ⟨0, none, 0, 0, by omega, by omega, rfl, rfl, rfl, [], rfl, by omega, S5.out⟩
  case round =>
    obtain ⟨i, A1, c1, mm, hi, hmm, rfl, rfl, rfl, hI⟩ := hrel
    obtain ⟨L, I0, I1, I2⟩ := hI.out
    replace I0 := Lib.hid I0
    replace I1 := Lib.hid I1
    replace I2 := Lib.hid I2
    have HLL := Lib.hid (runF_len _ _ _ I0.out)
    clear hI S5
    by_cases hlt : i < n
    case neg => as_aux_lemma =>
      have HE := Lib.hid (show recR k sk t = (L, mm, 0) by rw [HL.out, show n = i by omega, I0.out]; rfl)
      have hni : ¬ (i : Int) < (n : Int) := by omega
      go_wp2_with fail
      go_ret3
      exact ⟨A1, c1, by rw [HE.out, HLL.out]; rfl, by rw [HE.out, HLL.out]; exact (I2.out.sub [0] (by decide) rfl)⟩
    have hil : i < t.length := by rw [← HN'.out]; exact hlt
    have hil2 : i < sk.length := by rw [← HN.out]; exact hlt
    have hix : (i : Int) < (n : Int) := by omega
    obtain ⟨b0, off, rfl, k0, l0⟩ := (HFt.out _ I2.out.bel).u16 hil
    have hx15 := HLB.out t[i] (List.getElem_mem hil)
    have hs15 : sk[i] < 2 ^ 15 := Nat.lt_of_lt_of_le (HSB.out _ (List.getElem_mem hil2)) HPF.out
    have HSK := Lib.hid (fun W (h : Below w.heap.size w W) => (HFs.out W h).u16 hil2)
    have HF := Lib.hid (recF_eq c hil hil2)
    have HR1 := Lib.hid (HR.out t[i] hx15)
    have hr15 : c.rest t[i] < 2 ^ 15 := Nat.lt_of_lt_of_le (HRL.out _ hx15) HPF.out
    have e1 : bits .xor .u16 (c.rest t[i] : Int) (sk[i] : Int) = ((c.rest t[i] ^^^ sk[i] : Nat) : Int) := u16_xor_nat _ _ (by omega) (by omega)
    have HS := Lib.hid (fun y d (h : recAt c t[i] sk[i] = some (y, d)) => recAt_some (c := c) (w := t[i]) (s := sk[i]) (y := y) (d := d) hx15 h)
    have HN0 := Lib.hid (fun (h : recAt c t[i] sk[i] = none) => recAt_none (c := c) (w := t[i]) (s := sk[i]) h)
    have HE1 := Lib.hid (HE.out (c.rest t[i] ^^^ sk[i]))
    generalize c.rest t[i] ^^^ sk[i] = z at *
    generalize recAt c t[i] sk[i] = ra at *
    generalize c.rest t[i] = r at *
    generalize t[i] = x at *
    generalize sk[i] = s at *
    obtain ⟨b9, off9, rfl, k9, l9⟩ := HSK.out _ I2.out.bel
    replace k9 := Lib.hid k9
    have K9 := Lib.hid (fun z : OwnOf w [row 41 1 (.slice A1 i c1) i (u16s L), box B 94 [.int .u16 c.g, .int .i64 c.k, .int .i64 c.t]] => (show z.wld.cell? ⟨b9, off9 + i, none⟩ = some (.int .u16 (s : Nat)) by obtain ⟨b, o, e, h, _⟩ := HSK.out z.wld z.own.bel; simp only [Option.some.injEq, Addr.mk.injEq] at e; obtain ⟨rfl, rfl, _⟩ := e; exact h))
    clear HSK k9
    cases hra : ra with
    | none => as_aux_lemma =>
      have HE2 := Lib.hid (fun W => (show Calls Tryd.prog 62 #[.agg #[.int .u16 c.g, .int .i64 c.k, .int .i64 c.t], .int .u16 (z : Nat)] W fun e w' => e = .returned (.tuple #[.int .u16 0, .bool false]) ∧ Below W.heap.size W w' by have := HE1.out W; rw [HN0.out hra] at this; exact this))
      have HX := Lib.hid (show recR k sk t = ([], 0, 51) by rw [HL.out, runF_stop (HF.out.trans hra) n hlt]; rfl)
      clear hra
      go_upto_region 9 with fail
      have IP := Lib.hid I2.out
      have a0 := fun z : OwnOf w [row 41 1 (.slice A1 i c1) i (u16s L), box B 94 [.int .u16 c.g, .int .i64 c.k, .int .i64 c.t]] => (z.bx 1 rfl).1 0 _ rfl
      have a1 := fun z : OwnOf w [row 41 1 (.slice A1 i c1) i (u16s L), box B 94 [.int .u16 c.g, .int .i64 c.k, .int .i64 c.t]] => (z.bx 1 rfl).1 1 _ rfl
      have a2 := fun z : OwnOf w [row 41 1 (.slice A1 i c1) i (u16s L), box B 94 [.int .u16 c.g, .int .i64 c.k, .int .i64 c.t]] => (z.bx 1 rfl).1 2 _ rfl
      have a3 := fun z : OwnOf w [row 41 1 (.slice A1 i c1) i (u16s L), box B 94 [.int .u16 c.g, .int .i64 c.k, .int .i64 c.t]] => K9.out z
      have hne : Nonempty (OwnOf w [row 41 1 (.slice A1 i c1) i (u16s L), box B 94 [.int .u16 c.g, .int .i64 c.k, .int .i64 c.t]]) := ⟨⟨_, I2.out⟩⟩
      refine wp_region_own I2.out (by kernel_rfl) (by kernel_rfl) ?_
      iterate 3 (go_big_quiet_step (fail))
      go_big_quiet_step ((go_at_call 59; exact own_of (HR1.out _)))
      iterate 5 (go_big_quiet_step (fail))
      go_big_quiet_step ((go_at_call 62; exact own_of (HE2.out _)))
      iterate 5 (go_big_quiet_step (fail))
      refine wpQuiet_nil ?_
      rintro w7 ⟨z, hz⟩
      have S7 := Lib.hid (show Own w w7 [row 41 1 (.slice A1 i c1) i (u16s L), box B 94 [.int .u16 c.g, .int .i64 c.k, .int .i64 c.t]] by rw [hz]; exact z.own)
      clear hz z hne a0 a1 a2 a3 K9
      go_wp2_with fail
      go_ret3
      exact ⟨none, 0, by rw [HX.out]; rfl, by rw [HX.out]; exact ((S7.out.nil 41 1).sub [0] (by decide) rfl)⟩
    | some yd => as_aux_lemma =>
      obtain ⟨y, d⟩ := yd
      obtain ⟨e0, he, rfl, rfl, he15, hy15, hd16⟩ := HS.out y d hra
      have HE2 := Lib.hid (fun W => (show Calls Tryd.prog 62 #[.agg #[.int .u16 c.g, .int .i64 c.k, .int .i64 c.t], .int .u16 (z : Nat)] W fun e w' => e = .returned (.tuple #[.int .u16 (e0 : Nat), .bool true]) ∧ Below W.heap.size W w' by have := HE1.out W; rw [he] at this; exact this))
      have HX := Lib.hid (runF_step I0.out (HF.out.trans hra))
      have e2 : bits .xor .u16 (x : Int) (e0 : Int) = ((x ^^^ e0 : Nat) : Int) := u16_xor_nat _ _ (by omega) (by omega)
      have K63 := Lib.hid (fun W => (show Calls Tryd.prog 63 #[.int .u16 (e0 : Nat)] W fun e w' => e = .returned (.int .i64 (cnt e0 : Nat)) ∧ Below W.heap.size W w' by
        have := ones16_any (e0 : Nat) W (by omega) (by omega)
        rw [show ((e0 : Int) / 256).toNat = e0 / 256 by omega, show ((e0 : Int) % 256).toNat = e0 % 256 by omega, ones_cnt (by omega)] at this
        exact this))
      generalize x ^^^ e0 = y at *
      generalize cnt e0 = d at *
      clear hra he
      go_upto_region 9 with fail
      have IP := Lib.hid I2.out
      have a0 := fun z : OwnOf w [row 41 1 (.slice A1 i c1) i (u16s L), box B 94 [.int .u16 c.g, .int .i64 c.k, .int .i64 c.t]] => (z.bx 1 rfl).1 0 _ rfl
      have a1 := fun z : OwnOf w [row 41 1 (.slice A1 i c1) i (u16s L), box B 94 [.int .u16 c.g, .int .i64 c.k, .int .i64 c.t]] => (z.bx 1 rfl).1 1 _ rfl
      have a2 := fun z : OwnOf w [row 41 1 (.slice A1 i c1) i (u16s L), box B 94 [.int .u16 c.g, .int .i64 c.k, .int .i64 c.t]] => (z.bx 1 rfl).1 2 _ rfl
      have a3 := fun z : OwnOf w [row 41 1 (.slice A1 i c1) i (u16s L), box B 94 [.int .u16 c.g, .int .i64 c.k, .int .i64 c.t]] => K9.out z
      have hne : Nonempty (OwnOf w [row 41 1 (.slice A1 i c1) i (u16s L), box B 94 [.int .u16 c.g, .int .i64 c.k, .int .i64 c.t]]) := ⟨⟨_, I2.out⟩⟩
      refine wp_region_own I2.out (by kernel_rfl) (by kernel_rfl) ?_
      iterate 3 (go_big_quiet_step (fail))
      go_big_quiet_step ((go_at_call 59; exact own_of (HR1.out _)))
      iterate 5 (go_big_quiet_step (fail))
      go_big_quiet_step ((go_at_call 62; exact own_of (HE2.out _)))
      iterate 5 (go_big_quiet_step (fail))
      refine wpQuiet_nil ?_
      rintro w7 ⟨z, hz⟩
      have S7 := Lib.hid (show Own w w7 [row 41 1 (.slice A1 i c1) i (u16s L), box B 94 [.int .u16 c.g, .int .i64 c.k, .int .i64 c.t]] by rw [hz]; exact z.own)
      clear hz z hne a0 a1 a2 a3 K9
      clear k0
      go_wp2_with (at_builtin; refine wpList_appP rfl (.tmp 64) (.tmp 68) 22 rfl st22 0 (S7.out.ext (below_alloc w7 (.cells #[.int .u16 (y : Nat)] 41))) rfl rfl rfl (i + 1) (u16s (L ++ [y])) ?_ [.int .u16 (y : Nat)] rfl (u16s_app L y) (Rd.new _ #[.int .u16 (y : Nat)] 41) rfl (by simp [Value.oneCell']) (by unfold maxLen; omega) (by omega); intro A9 c9 w9 hO9; have HO9 := Lib.hid hO9; clear hO9)
      refine (K63.out _).mono ?_
      rintro e w10 ⟨rfl, hb10⟩
      have S10 := Lib.hid (HO9.out.ext hb10)
      clear hb10
      go_wp2_with fail
      go_roundg (gk - 1)
      case measure => have := I1.out; omega
      case rel => exact ⟨i + 1, A9, c9, mm + d, by omega, by omega, rfl, by go_num, by go_num, L ++ [y], HX.out, by have := I1.out; omega, S10.out⟩
end Go.Proofs.YtnienfgaidccpaaDoor
