/- Sketch: the secret through some places, by differences. No condition. -/
import Derived.Test.YtnienfgaidccpaaDoorLb
import Derived.Deep.OwnRows
namespace Go.Proofs.YtnienfgaidccpaaDoor
open Go.RowKit Go.Shelf
attribute [local go_sem] Oper.semAt_some

def tab (n : Nat) (f : Nat → Int) : List Int := (List.range n).map f
theorem tab_len (n : Nat) (f : Nat → Int) : (tab n f).length = n := by simp [tab]
theorem tab_i64 {n j : Nat} (f : Nat → Int) (h : j < n) : (i64s (tab n f))[j]? = some (.int .i64 (f j)) := by simp [tab, i64s, h]
theorem tab_congr {n : Nat} {f g : Nat → Int} (h : ∀ j, j < n → f j = g j) : tab n f = tab n g := List.map_congr_left fun j hj => h j (List.mem_range.1 hj)
theorem tab_set (n i : Nat) (f : Nat → Int) (v : Int) : (tab n f).set i v = tab n (fun j => if j = i then v else f j) := by
  apply List.ext_getElem
  · simp [tab]
  · intro j h1 h2
    simp only [tab, List.getElem_set, List.getElem_map, List.getElem_range]
    by_cases h : i = j
    · subst h; simp
    · rw [if_neg h, if_neg (fun e => h e.symm)]
theorem tab_of (l : List Int) : tab l.length (fun j => l.getD j 0) = l := by
  apply List.ext_getElem
  · simp [tab]
  · intro j h1 h2
    simp [tab, List.getD, List.getElem?_eq_getElem h2]
theorem eq_tab {l : List Int} {n : Nat} {f : Nat → Int} (hl : l.length = n) (h : ∀ j, j < n → l.getD j 0 = f j) : l = tab n f := by
  rw [← tab_of l, hl]
  exact tab_congr h
theorem addm_get (b : Int) : ∀ (o z : List Int) (j : Nat), z.length ≤ o.length → j < o.length → (addm b o z).getD j 0 = if j < z.length then (o.getD j 0 + b * z.getD j 0) % 31 else o.getD j 0
  | [], _, _, _, h => by simp at h
  | x :: o, [], j, _, _ => by simp [addm]
  | x :: o, z :: zs, 0, _, _ => by simp [addm]
  | x :: o, z :: zs, j + 1, h, hj => by
    have := addm_get b o zs j (by simpa using h) (by simpa using hj)
    simp only [List.getD_eq_getElem?_getD] at this
    simpa [addm] using this
/-- The product's numbers, not yet modulo 31. -/
def ful (x : Int) (z : List Int) (j : Nat) : Int := (if 1 ≤ j then z.getD (j - 1) 0 else 0) - (if j < z.length then x * z.getD j 0 else 0)
theorem mulAux_get (x : Int) : ∀ (z : List Int) (p : Int) (j : Nat), j ≤ z.length → (mulAux x p z).getD j 0 = ((if 1 ≤ j then z.getD (j - 1) 0 else p) - (if j < z.length then x * z.getD j 0 else 0)) % 31
  | [], p, j, h => by
    obtain rfl : j = 0 := by simpa using h
    simp [mulAux]
  | a :: z, p, 0, _ => by simp [mulAux]
  | a :: z, p, j + 1, h => by
    have := mulAux_get x z a j (by simpa using h)
    simp only [List.getD_eq_getElem?_getD] at this
    cases j with
    | zero => simpa [mulAux] using this
    | succ j => simpa [mulAux] using this
theorem mulx_tab (x : Int) (z : List Int) : mulx x z = tab (z.length + 1) fun j => ful x z j % 31 := by
  refine eq_tab (mulAux_len x z 0) fun j hj => ?_
  exact mulAux_get x z 0 j (by omega)
theorem ful_bd {x : Int} {z : List Int} (hx : 0 ≤ x ∧ x < 31) (hz : In31 z) (j : Nat) : -900 ≤ ful x z j ∧ ful x z j ≤ 30 := by
  have g : ∀ k, 0 ≤ z.getD k 0 ∧ z.getD k 0 < 31 := fun k => by
    rw [List.getD_eq_getElem?_getD]
    by_cases h : k < z.length
    · rw [List.getElem?_eq_getElem h]; exact hz _ (List.getElem_mem h)
    · rw [List.getElem?_eq_none (by omega)]; simp
  have h1 := g (j - 1)
  have h2 := g j
  have h3 : 0 ≤ x * z.getD j 0 ∧ x * z.getD j 0 ≤ 900 := ⟨Int.mul_nonneg hx.1 h2.1, by have := Int.mul_le_mul (show x ≤ 30 by omega) (show z.getD j 0 ≤ 30 by omega) h2.1 (by omega); omega⟩
  unfold ful
  split <;> split <;> omega
theorem getD_in {l : List Int} (h : In31 l) (k : Nat) : 0 ≤ l.getD k 0 ∧ l.getD k 0 < 31 := by
  rw [List.getD_eq_getElem?_getD]
  by_cases hk : k < l.length
  · rw [List.getElem?_eq_getElem hk]; exact h _ (List.getElem_mem hk)
  · rw [List.getElem?_eq_none (by omega)]; simp
theorem i64s_getD {l : List Int} {k : Nat} (h : k < l.length) : (i64s l)[k]? = some (.int .i64 (l.getD k 0)) := by rw [i64s_get h]; simp [List.getD, List.getElem?_eq_getElem h]
theorem madeI64 (n : Nat) : (madeCells #[Value.int .i64 0] n).toList = i64s (tab n fun _ => 0) := by
  apply List.ext_getElem
  · simp [madeCells, i64s, tab]
  · intro i h1 h2
    simp [madeCells, i64s, tab, Nat.mod_one]
theorem stI : SlTy Tryd.prog 61 3 (.int .i64 0) 1 8 := ⟨Tryd.underlying61, by kernel_rfl, rfl, by decide⟩
theorem makeI (n : Nat) (h : n ≤ 1000) (W : World) : (Instr.makeSlice 61 (.int .i64 (n : Nat)) (.int .i64 (n : Nat))).run Tryd.prog W = .ok (.slice (some ⟨W.heap.size, 0, none⟩) n n) (W.alloc (.cells (madeCells #[.int .i64 0] n) 3)) :=
  run_make_row' (P := Tryd.prog) 61 3 (.int .i64 0) 8 Tryd.underlying61 (by kernel_rfl) rfl .i64 .i64 n (by omega) (by omega) W
theorem newt_cons (V : Int → Int) (x : Int) (ps o z : List Int) : newt V (x :: ps) o z = newt V ps (addm (((V x - valF o x) % 31) * inv (valF z x)) o z) (mulx x z) := rfl
def OneRow (n : Nat) (L : List Int) (w : World) (e : Ending) (w' : World) : Prop := ∃ A c, e = .returned (.slice A n c) ∧ Own w w' [row 3 1 (.slice A n c) n (i64s L)]
set_option maxRecDepth 100000 in
set_option maxHeartbeats 4000000 in
theorem through_any (v ps : List Int) (A A' : Option Addr) (n n' c c' : Nat) (w : World) (hv : Rd w A (i64s v)) (hp : Rd w A' (i64s ps)) (hn : n = v.length) (hn' : n' = ps.length) (h31 : n = 31) (h1 : 1 ≤ n') (h4 : n' ≤ 4) (vi : In31 v) (pi : In31 ps) :
    Calls Tryd.prog 79 #[.slice A n c, .slice A' n' c'] w (OneRow n' (thr (vaV v) ps) w) := by
  have HV := Lib.hid (fun W (h : Below w.heap.size w W) => hv.below h)
  have HP := Lib.hid (fun W (h : Below w.heap.size w W) => hp.below h)
  have HN := Lib.hid hn
  have HN' := Lib.hid hn'
  have HVI := Lib.hid vi
  have HPI := Lib.hid pi
  have H31 := Lib.hid h31
  have HM := Lib.hid (fun m W1 => mod_any m W1)
  have HTH := Lib.hid (show thr (vaV v) ps = newt (vaV v) (ps.drop 0) (tab n' fun _ => 0) [1] by
    rw [List.drop_zero, thr]; congr 1; rw [hn']; apply List.ext_getElem <;> simp [tab])
  have hmk := makeI n' (by omega)
  generalize thr (vaV v) ps = TH at *
  clear hv hp hn hn' vi pi h31
  go_enter Tryd.func79, Tryd.ntmps79
  go_upto_region 3 with fail
  have S0 := Lib.hid ((((Own.start w).new' 3 (madeCells #[.int .i64 0] n') (B := w.heap.size) rfl).asRow (size := 1) (n := n') 0 rfl (by rw [madeI64, i64s_len, tab_len]; simp) (by unfold maxLen; omega)).new' 3 #[.int .i64 1] (B := w.heap.size + 1) (by simp))
  replace S0 := Lib.hid ((S0.out.asRow (size := 1) (n := 1) 0 rfl rfl (by unfold maxLen; omega)).sub [1, 0] (by decide) (qs := [row 3 1 (.slice (some ⟨w.heap.size, 0, none⟩) n' n') n' (i64s (tab n' fun _ => 0)), row 3 1 (.slice (some ⟨w.heap.size + 1, 0, none⟩) 1 1) 1 (i64s [1])]) (by rw [madeI64]; rfl))
  generalize (w.alloc _).alloc _ = w0 at *
  clear hmk
  go_wp2_with fail
  go_loopg [6, 22] n' (fun q u6 u22 wr => ∃ k Bz zl : Nat, k < n' ∧ 1 ≤ zl ∧ zl ≤ 4 ∧ u6 = .slice (some ⟨Bz, 0, none⟩) zl zl ∧ u22 = .int .i64 (k : Nat) ∧ Hid (∃ oo z, (TH = newt (vaV v) (ps.drop k) oo z ∧ oo.length = n' ∧ z.length = zl) ∧ (In31 oo ∧ In31 z) ∧ (zl = k + 1 ∧ k + q = n') ∧ Own w wr [row 3 1 (.slice (some ⟨w.heap.size, 0, none⟩) n' n') n' (i64s oo), row 3 1 (.slice (some ⟨Bz, 0, none⟩) zl zl) zl (i64s z)]))
  case atStart => exact ⟨0, w.heap.size + 1, 1, by omega, by omega, by omega, rfl, rfl, tab n' fun _ => 0, [1], ⟨HTH.out, tab_len _ _, rfl⟩, ⟨(fun s hs => by obtain ⟨_, _, rfl⟩ := List.mem_map.1 hs; omega), (fun s hs => by simp at hs; omega)⟩, ⟨rfl, by omega⟩, S0.out⟩
  case round =>
    obtain ⟨k, Bz, zl, hk, hz1, hz4, rfl, rfl, hI⟩ := hrel
    obtain ⟨oo, z, ⟨q1, q2, q3⟩, ⟨q4, q5⟩, ⟨q6, q7⟩, q8⟩ := hI.out
    have I1 := Lib.hid q1
    have I2 := Lib.hid q2
    have I3 := Lib.hid q3
    have I4 := Lib.hid q4
    have I5 := Lib.hid q5
    have I6 := Lib.hid q6
    have I7 := Lib.hid q7
    have I8 := Lib.hid q8
    clear hI q1 q2 q3 q4 q5 q6 q7 q8 HTH S0
    obtain ⟨G1, rfl⟩ : ∃ G1 : Nat, G1 = gk := ⟨_, rfl⟩
    obtain ⟨wq, rfl⟩ : ∃ wq : World, wq = wr := ⟨_, rfl⟩
    have hkl : k < ps.length := by rw [← HN'.out]; exact hk
    have hkx : (k : Int) < (n' : Int) := by omega
    obtain ⟨b0, off, rfl, k0, l0⟩ := (HP.out _ I8.out.bel).i64 hkl
    have hx := HPI.out _ (List.getElem_mem hkl)
    have HD := Lib.hid (show TH = newt (vaV v) (ps.drop (k + 1)) (addm (((vaV v ps[k] - valF oo ps[k]) % 31) * inv (valF z ps[k])) oo z) (mulx ps[k] z) by rw [I1.out, List.drop_eq_getElem_cons hkl]; rfl)
    generalize ps[k] = x at *
    obtain ⟨xn, rfl⟩ : ∃ xn : Nat, x = xn := ⟨x.toNat, by omega⟩
    have hxl : xn < v.length := by have := HN.out; have := H31.out; omega
    have hxn : (xn : Int) < (n : Int) := by have := H31.out; omega
    rw [vaV_at hxl] at HD
    have HCV := Lib.hid (fun W (h : Below w.heap.size w W) => (HV.out W h).i64 hxl)
    obtain ⟨b1, off1, rfl, k1, l1⟩ := HCV.out _ I8.out.bel
    have K1 := Lib.hid (fun Z : OwnOf w [row 3 1 (.slice (some ⟨w.heap.size, 0, none⟩) n' n') n' (i64s oo), row 3 1 (.slice (some ⟨Bz, 0, none⟩) zl zl) zl (i64s z)] => (show Z.wld.cell? ⟨b1, off1 + xn, none⟩ = some (.int .i64 v[xn]) by obtain ⟨b, o, e, h, _⟩ := HCV.out Z.wld Z.own.bel; simp only [Option.some.injEq, Addr.mk.injEq] at e; obtain ⟨rfl, rfl, _⟩ := e; exact h))
    have KA := Lib.hid (fun Z : OwnOf w [row 3 1 (.slice (some ⟨w.heap.size, 0, none⟩) n' n') n' (i64s oo), row 3 1 (.slice (some ⟨Bz, 0, none⟩) zl zl) zl (i64s z)] => own_of (at_any oo (some ⟨w.heap.size, 0, none⟩) n' n' (xn : Int) Z.wld (Z.own.rd 0 rfl) I2.out.symm h1 (by omega) I4.out hx))
    have KB := Lib.hid (fun Z : OwnOf w [row 3 1 (.slice (some ⟨w.heap.size, 0, none⟩) n' n') n' (i64s oo), row 3 1 (.slice (some ⟨Bz, 0, none⟩) zl zl) zl (i64s z)] => own_of (at_any z (some ⟨Bz, 0, none⟩) zl zl (xn : Int) Z.wld (Z.own.rd 1 rfl) I3.out.symm hz1 (by omega) I5.out hx))
    have hy := HVI.out _ (List.getElem_mem hxl)
    have ha := valF_range oo (xn : Int)
    have hbz := valF_range z (xn : Int)
    have KI := Lib.hid (fun W1 => inverse_any (valF z (xn : Int)) hbz W1)
    have hiv := pow31_in (valF z (xn : Int)) 29
    rw [show pow31 (valF z (xn : Int)) 29 = inv (valF z (xn : Int)) from rfl] at hiv
    generalize v[xn] = y at *
    generalize valF oo (xn : Int) = a at *
    generalize inv (valF z (xn : Int)) = iv at *
    generalize valF z (xn : Int) = bz at *
    have z1 : IntKind.i64.wrap (y - a) = y - a := IntWalk.i64_in _ (by omega)
    have hm : 0 ≤ (y - a) % 31 ∧ (y - a) % 31 < 31 := by omega
    have KM := Lib.hid (HM.out (y - a))
    generalize (y - a) % 31 = m at *
    have hmi : 0 ≤ m * iv ∧ m * iv ≤ 900 := ⟨Int.mul_nonneg hm.1 hiv.1, by have := Int.mul_le_mul (show m ≤ 30 by omega) (show iv ≤ 30 by omega) hiv.1 (by omega); omega⟩
    have z2 : IntKind.i64.wrap (m * iv) = m * iv := IntWalk.i64_in _ (by omega)
    clear hxl k1 l1 HCV hy ha hbz hiv hm I1
    go_upto_region 6 with fail
    have fx0 := fun Z : OwnOf w [row 3 1 (.slice (some ⟨w.heap.size, 0, none⟩) n' n') n' (i64s oo), row 3 1 (.slice (some ⟨Bz, 0, none⟩) zl zl) zl (i64s z)] => K1.out Z
    have hne : Nonempty (OwnOf w [row 3 1 (.slice (some ⟨w.heap.size, 0, none⟩) n' n') n' (i64s oo), row 3 1 (.slice (some ⟨Bz, 0, none⟩) zl zl) zl (i64s z)]) := ⟨⟨_, I8.out⟩⟩
    refine wp_region_own I8.out (by kernel_rfl) (by kernel_rfl) ?_
    iterate 6 (go_big_quiet_step (fail))
    go_big_quiet_step ((go_at_call 74; exact KA.out _))
    go_big_quiet_step (fail)
    go_big_quiet_step ((go_at_call 76; exact own_same (KM.out _)))
    iterate 2 (go_big_quiet_step (fail))
    go_big_quiet_step ((go_at_call 74; exact KB.out _))
    go_big_quiet_step ((go_at_call 97; exact own_same (KI.out _)))
    iterate 2 (go_big_quiet_step (fail))
    refine wpQuiet_nil ?_
    rintro w3 ⟨Z, hZ⟩
    have S3 := Lib.hid (show Own w w3 [row 3 1 (.slice (some ⟨w.heap.size, 0, none⟩) n' n') n' (i64s oo), row 3 1 (.slice (some ⟨Bz, 0, none⟩) zl zl) zl (i64s z)] by rw [hZ]; exact Z.own)
    clear hZ Z hne fx0 K1 KA KB KM KI z1 z2 k0 l0 I8
    generalize m * iv = b at *
    go_wp2_with fail
    have S4 := Lib.hid (S3.out.cast (qs := [row 3 1 (.slice (some ⟨w.heap.size, 0, none⟩) n' n') n' (i64s (tab n' fun j => if j < 0 then (oo.getD j 0 + b * z.getD j 0) % 31 else oo.getD j 0)), row 3 1 (.slice (some ⟨Bz, 0, none⟩) zl zl) zl (i64s z)]) (by rw [← eq_tab I2.out (fun j hj => by simp)]))
    clear S3
    go_loopg [43] zl (fun q u43 wr => ∃ i : Nat, i ≤ zl ∧ u43 = .int .i64 (i : Nat) ∧ Hid (i + q = zl ∧ Own w wr [row 3 1 (.slice (some ⟨w.heap.size, 0, none⟩) n' n') n' (i64s (tab n' fun j => if j < i then (oo.getD j 0 + b * z.getD j 0) % 31 else oo.getD j 0)), row 3 1 (.slice (some ⟨Bz, 0, none⟩) zl zl) zl (i64s z)]))
    case atStart => exact ⟨0, by omega, rfl, by omega, S4.out⟩
    case round =>
      obtain ⟨i, hi, rfl, hI⟩ := hrel
      have J1 := Lib.hid hI.out.1
      have J2 := Lib.hid hI.out.2
      clear hI S4
      by_cases hlt : i < zl
      case pos => as_aux_lemma =>
        have hix : (i : Int) < (zl : Int) := by omega
        have hil : i < z.length := by rw [I3.out]; exact hlt
        have hio : i < n' := by have := I6.out; omega
        have hion : (i : Int) < (n' : Int) := by omega
        have c0 := J2.out.rowAt 0 rfl (j := i) (tab_i64 _ hio)
        rw [if_neg (by omega)] at c0
        have c1 := J2.out.rowAt 1 rfl (j := i) (i64s_getD hil)
        have lg := (J2.out.rowLt 0 rfl).1
        have lf := (J2.out.rowLt 0 rfl).2
        have lz := (J2.out.rowLt 1 rfl).1
        have gz := getD_in I5.out i
        have go := getD_in I4.out i
        have HS := Lib.hid (show (i64s (tab n' fun j => if j < i then (oo.getD j 0 + b * z.getD j 0) % 31 else oo.getD j 0)).set i (.int .i64 ((oo.getD i 0 + b * z.getD i 0) % 31)) = i64s (tab n' fun j => if j < i + 1 then (oo.getD j 0 + b * z.getD j 0) % 31 else oo.getD j 0) by
          rw [i64s_set, tab_set]
          congr 1
          refine tab_congr fun j hj => ?_
          by_cases e : j = i
          · subst e; simp
          · rw [if_neg e]
            by_cases e2 : j < i
            · rw [if_pos e2, if_pos (by omega)]
            · rw [if_neg e2, if_neg (by omega)])
        generalize oo.getD i 0 = ov at *
        generalize z.getD i 0 = zv at *
        obtain ⟨hm0, hm1⟩ := hmi
        have hbz : 0 ≤ b * zv ∧ b * zv ≤ 27000 := ⟨Int.mul_nonneg hm0 gz.1, by have := Int.mul_le_mul (show b ≤ 900 by omega) (show zv ≤ 30 by omega) gz.1 (by omega); omega⟩
        have y1 : IntKind.i64.wrap (b * zv) = b * zv := IntWalk.i64_in _ (by omega)
        have y2 : IntKind.i64.wrap (ov + b * zv) = ov + b * zv := IntWalk.i64_in _ (by omega)
        have KM := Lib.hid (HM.out (ov + b * zv))
        clear gz go hbz
        go_wp2_with fail
        refine (KM.out _).mono ?_
        rintro e w5 ⟨rfl, rfl⟩
        go_wp2_with fail
        go_roundg (gk - 1)
        case measure => have := J1.out; omega
        case rel => exact ⟨i + 1, by omega, by go_num, by have := J1.out; omega, by rw [← HS.out]; exact (J2.out.setRow 0 rfl i (.int .i64 ((ov + b * zv) % 31)))⟩
      have hni : ¬ (i : Int) < (zl : Int) := by omega
      have S5 := Lib.hid (J2.out.cast (qs := [row 3 1 (.slice (some ⟨w.heap.size, 0, none⟩) n' n') n' (i64s (addm b oo z)), row 3 1 (.slice (some ⟨Bz, 0, none⟩) zl zl) zl (i64s z)]) (by
        rw [eq_tab (l := addm b oo z) (n := n') ((addm_len b oo z (by rw [I2.out, I3.out]; have := I6.out; omega)).trans I2.out) (fun j hj => addm_get b oo z j (by rw [I2.out, I3.out]; have := I6.out; omega) (by rw [I2.out]; exact hj)), I3.out, show i = zl by omega]))
      clear J1 J2 hi hlt
      have HOL := Lib.hid ((addm_len b oo z (by rw [I2.out, I3.out]; have := I6.out; omega)).trans I2.out)
      have HOI := Lib.hid (addm_in b oo z I4.out)
      generalize addm b oo z = o2 at *
      by_cases hlast : k + 1 = n'
      case pos => as_aux_lemma =>
        have HE := Lib.hid (show TH = o2 by rw [HD.out, List.drop_eq_nil_of_le (by rw [← HN'.out]; omega)]; rfl)
        have hkl2 : (n' : Int) - 1 = (k : Int) := by omega
        have y3 : IntKind.i64.wrap ((n' : Int) - 1) = (k : Int) := by rw [hkl2]; exact IntWalk.i64_in _ (by omega)
        have hlast' : Hid (k + 1 = n') := hlast
        clear hlast hkl2
        go_wp2_with fail
        go_ret
        exact ⟨_, _, rfl, by rw [HE.out]; exact (S5.out.sub [0] (by decide) rfl)⟩
      as_aux_lemma =>
      have hkl2 : ¬ (k : Int) = (n' : Int) - 1 := by omega
      obtain ⟨nl, hnl⟩ : ∃ nl, nl = zl + 1 := ⟨_, rfl⟩
      have hmk2 : ∀ W : World, (Instr.makeSlice 61 (.int .i64 ((zl : Int) + 1)) (.int .i64 ((zl : Int) + 1))).run Tryd.prog W = .ok (.slice (some ⟨W.heap.size, 0, none⟩) nl nl) (W.alloc (.cells (madeCells #[.int .i64 0] nl) 3)) := fun W => by
        have := makeI nl (by omega) W
        rwa [show ((nl : Nat) : Int) = (zl : Int) + 1 by omega] at this
      have HNL := Lib.hid hnl
      have hnl5 : nl ≤ 5 := by omega
      clear hnl
      go_upto_region 14 with fail
      have S6 := Lib.hid (((S5.out.new' 3 (madeCells #[.int .i64 0] nl) (B := wr.heap.size) rfl).asRow (size := 1) (n := nl) 0 rfl (by rw [madeI64, i64s_len, tab_len]; simp) (by unfold maxLen; omega)).cast (qs := [row 3 1 (.slice (some ⟨wr.heap.size, 0, none⟩) nl nl) nl (i64s (tab nl fun j => (if 1 ≤ j ∧ j ≤ 0 then z.getD (j - 1) 0 else 0) - (if j < 0 then (xn : Int) * z.getD j 0 else 0))), row 3 1 (.slice (some ⟨w.heap.size, 0, none⟩) n' n') n' (i64s o2), row 3 1 (.slice (some ⟨Bz, 0, none⟩) zl zl) zl (i64s z)]) (by
        rw [madeI64, tab_congr (n := nl) (f := fun _ => 0) (g := fun j => (if 1 ≤ j ∧ j ≤ 0 then z.getD (j - 1) 0 else 0) - (if j < 0 then (xn : Int) * z.getD j 0 else 0)) (fun j hj => by rw [if_neg (by omega), if_neg (by omega)]; rfl)]; rfl))
      generalize wr.alloc _ = w7 at *
      generalize wr.heap.size = Bn at *
      clear S5 hmk2
      go_wp2_with fail
      go_loopg [72] zl (fun q u72 wr => ∃ i : Nat, i ≤ zl ∧ u72 = .int .i64 (i : Nat) ∧ Hid (i + q = zl ∧ Own w wr [row 3 1 (.slice (some ⟨Bn, 0, none⟩) nl nl) nl (i64s (tab nl fun j => (if 1 ≤ j ∧ j ≤ i then z.getD (j - 1) 0 else 0) - (if j < i then (xn : Int) * z.getD j 0 else 0))), row 3 1 (.slice (some ⟨w.heap.size, 0, none⟩) n' n') n' (i64s o2), row 3 1 (.slice (some ⟨Bz, 0, none⟩) zl zl) zl (i64s z)]))
      case atStart => exact ⟨0, by omega, rfl, by omega, S6.out⟩
      case round =>
        obtain ⟨i2, hi2, rfl, hI⟩ := hrel
        have J1 := Lib.hid hI.out.1
        have J2 := Lib.hid hI.out.2
        clear hI S6
        by_cases hlt2 : i2 < zl
        case pos => as_aux_lemma =>
          have hix : (i2 : Int) < (zl : Int) := by omega
          have hil : i2 < z.length := by rw [I3.out]; exact hlt2
          have hin : i2 < nl := by have := HNL.out; omega
          have hin1 : i2 + 1 < nl := by have := HNL.out; omega
          have hix2 : (i2 : Int) < (nl : Int) := by omega
          have hix3 : (i2 : Int) + 1 < (nl : Int) := by omega
          have hne1 : ((i2 : Int) + 1).toNat = i2 + 1 := by omega
          have c0 := J2.out.rowAt 0 rfl (j := i2) (tab_i64 _ hin)
          rw [if_neg (show ¬ i2 < i2 by omega), Int.sub_zero] at c0
          have c2 := J2.out.rowAt 0 rfl (j := i2 + 1) (tab_i64 _ hin1)
          rw [if_neg (show ¬ (1 ≤ i2 + 1 ∧ i2 + 1 ≤ i2) by omega), if_neg (show ¬ i2 + 1 < i2 by omega), Int.sub_zero] at c2
          have c1 := J2.out.rowAt 2 rfl (j := i2) (i64s_getD hil)
          have lg := (J2.out.rowLt 0 rfl).1
          have lf := (J2.out.rowLt 0 rfl).2
          have lz := (J2.out.rowLt 2 rfl).1
          have gz := getD_in I5.out i2
          have gp := getD_in I5.out (i2 - 1)
          have HS := Lib.hid (show ((i64s (tab nl fun j => (if 1 ≤ j ∧ j ≤ i2 then z.getD (j - 1) 0 else 0) - (if j < i2 then (xn : Int) * z.getD j 0 else 0))).set (i2 + 1) (.int .i64 (z.getD i2 0))).set i2 (.int .i64 ((if 1 ≤ i2 ∧ i2 ≤ i2 then z.getD (i2 - 1) 0 else 0) - (xn : Int) * z.getD i2 0)) = i64s (tab nl fun j => (if 1 ≤ j ∧ j ≤ i2 + 1 then z.getD (j - 1) 0 else 0) - (if j < i2 + 1 then (xn : Int) * z.getD j 0 else 0)) by
            rw [i64s_set, i64s_set, tab_set, tab_set]
            congr 1
            refine tab_congr fun j hj => ?_
            by_cases e : j = i2
            · subst e
              rw [if_pos rfl, if_pos (show j < j + 1 by omega)]
              congr 1
              by_cases e1 : 1 ≤ j
              · rw [if_pos ⟨e1, Nat.le_refl _⟩, if_pos ⟨e1, by omega⟩]
              · rw [if_neg (by omega), if_neg (by omega)]
            · rw [if_neg e]
              by_cases e2 : j = i2 + 1
              · subst e2
                rw [if_pos rfl, if_pos ⟨by omega, Nat.le_refl _⟩, if_neg (show ¬ i2 + 1 < i2 + 1 by omega), Int.sub_zero, Nat.add_sub_cancel]
              · rw [if_neg e2]
                congr 1
                · by_cases e3 : 1 ≤ j ∧ j ≤ i2
                  · rw [if_pos e3, if_pos ⟨e3.1, by omega⟩]
                  · rw [if_neg e3, if_neg (by omega)]
                · by_cases e3 : j < i2
                  · rw [if_pos e3, if_pos (by omega)]
                  · rw [if_neg e3, if_neg (by omega)])
          have hpv : 0 ≤ (if 1 ≤ i2 ∧ i2 ≤ i2 then z.getD (i2 - 1) 0 else 0) ∧ (if 1 ≤ i2 ∧ i2 ≤ i2 then z.getD (i2 - 1) 0 else 0) < 31 := by split <;> omega
          generalize (if 1 ≤ i2 ∧ i2 ≤ i2 then z.getD (i2 - 1) 0 else 0) = pv at *
          generalize z.getD i2 0 = zv at *
          have hxz : 0 ≤ (xn : Int) * zv ∧ (xn : Int) * zv ≤ 900 := ⟨Int.mul_nonneg hx.1 gz.1, by have := Int.mul_le_mul (show (xn : Int) ≤ 30 by omega) (show zv ≤ 30 by omega) gz.1 (by omega); omega⟩
          have y1 : IntKind.i64.wrap ((xn : Int) * zv) = (xn : Int) * zv := IntWalk.i64_in _ (by omega)
          have y2 : IntKind.i64.wrap (pv - (xn : Int) * zv) = pv - (xn : Int) * zv := IntWalk.i64_in _ (by omega)
          have y3 : IntKind.i64.wrap zv = zv := IntWalk.i64_in _ (by omega)
          clear gz gp hxz hpv
          go_wp2_with fail
          go_roundg (gk - 1)
          case measure => have := J1.out; omega
          case rel => exact ⟨i2 + 1, by omega, by go_num, by have := J1.out; omega, by rw [← HS.out]; exact ((J2.out.setRow 0 rfl (i2 + 1) (.int .i64 zv)).setRow 0 rfl i2 (.int .i64 (pv - (xn : Int) * zv)))⟩
        have hni2 : ¬ (i2 : Int) < (zl : Int) := by omega
        have S7 := Lib.hid (J2.out.cast (qs := [row 3 1 (.slice (some ⟨Bn, 0, none⟩) nl nl) nl (i64s (tab nl fun j => if j < 0 then ful (xn : Int) z j % 31 else ful (xn : Int) z j)), row 3 1 (.slice (some ⟨w.heap.size, 0, none⟩) n' n') n' (i64s o2), row 3 1 (.slice (some ⟨Bz, 0, none⟩) zl zl) zl (i64s z)]) (by
          rw [tab_congr (n := nl) (f := fun j => (if 1 ≤ j ∧ j ≤ i2 then z.getD (j - 1) 0 else 0) - (if j < i2 then (xn : Int) * z.getD j 0 else 0)) (g := fun j => if j < 0 then ful (xn : Int) z j % 31 else ful (xn : Int) z j) (fun j hj => by
            rw [if_neg (show ¬ j < 0 by omega), ful, I3.out]
            have := HNL.out
            congr 1
            · by_cases e3 : 1 ≤ j
              · rw [if_pos ⟨e3, by omega⟩, if_pos e3]
              · rw [if_neg (by omega), if_neg e3]
            · rw [show i2 = zl by omega])]))
        clear J1 J2
        as_aux_lemma =>
        go_wp2_with fail
        go_loopg [97] nl (fun q u97 wr => ∃ i : Nat, i ≤ nl ∧ u97 = .int .i64 (i : Nat) ∧ Hid (i + q = nl ∧ Own w wr [row 3 1 (.slice (some ⟨Bn, 0, none⟩) nl nl) nl (i64s (tab nl fun j => if j < i then ful (xn : Int) z j % 31 else ful (xn : Int) z j)), row 3 1 (.slice (some ⟨w.heap.size, 0, none⟩) n' n') n' (i64s o2), row 3 1 (.slice (some ⟨Bz, 0, none⟩) zl zl) zl (i64s z)]))
        case atStart => exact ⟨0, by omega, rfl, by omega, S7.out⟩
        case round =>
          obtain ⟨i3, hi3, rfl, hI⟩ := hrel
          have J1 := Lib.hid hI.out.1
          have J2 := Lib.hid hI.out.2
          clear hI S7
          by_cases hlt3 : i3 < nl
          case pos => as_aux_lemma =>
            have hix : (i3 : Int) < (nl : Int) := by omega
            have c0 := J2.out.rowAt 0 rfl (j := i3) (tab_i64 _ hlt3)
            rw [if_neg (show ¬ i3 < i3 by omega)] at c0
            have lg := (J2.out.rowLt 0 rfl).1
            have lf := (J2.out.rowLt 0 rfl).2
            have HS := Lib.hid (show (i64s (tab nl fun j => if j < i3 then ful (xn : Int) z j % 31 else ful (xn : Int) z j)).set i3 (.int .i64 (ful (xn : Int) z i3 % 31)) = i64s (tab nl fun j => if j < i3 + 1 then ful (xn : Int) z j % 31 else ful (xn : Int) z j) by
              rw [i64s_set, tab_set]
              congr 1
              refine tab_congr fun j hj => ?_
              by_cases e : j = i3
              · subst e; simp
              · rw [if_neg e]
                by_cases e2 : j < i3
                · rw [if_pos e2, if_pos (by omega)]
                · rw [if_neg e2, if_neg (by omega)])
            generalize ful (xn : Int) z i3 = fv at *
            have KM := Lib.hid (HM.out fv)
            go_wp2_with fail
            refine (KM.out _).mono ?_
            rintro e w9 ⟨rfl, rfl⟩
            go_wp2_with fail
            go_roundg (gk - 1)
            case measure => have := J1.out; omega
            case rel => exact ⟨i3 + 1, by omega, by go_num, by have := J1.out; omega, by rw [← HS.out]; exact (J2.out.setRow 0 rfl i3 (.int .i64 (fv % 31)))⟩
          as_aux_lemma =>
          have hni3 : ¬ (i3 : Int) < (nl : Int) := by omega
          have hml : Hid (mulx (xn : Int) z = tab nl fun j => if j < i3 then ful (xn : Int) z j % 31 else ful (xn : Int) z j) := by
            unfold Hid
            rw [mulx_tab, I3.out, ← HNL.out]
            exact tab_congr fun j hj => by rw [if_pos (by omega)]
          have S8 := Lib.hid (J2.out.sub [1, 0] (by decide) (qs := [row 3 1 (.slice (some ⟨w.heap.size, 0, none⟩) n' n') n' (i64s o2), row 3 1 (.slice (some ⟨Bn, 0, none⟩) nl nl) nl (i64s (mulx (xn : Int) z))]) (by rw [hml.out]; rfl))
          have HZL := Lib.hid (show (mulx (xn : Int) z).length = nl by rw [hml.out, tab_len])
          have HZI := Lib.hid (mulAux_in (xn : Int) z 0)
          clear J1 J2 hml
          go_wp2_with fail
          go_roundg (G1 - 1)
          case measure => have := I7.out; omega
          case rel => exact ⟨k + 1, Bn, nl, by omega, by have := HNL.out; omega, by have := HNL.out; have := I6.out; omega, rfl, by go_num, o2, mulx (xn : Int) z, ⟨HD.out, HOL.out, HZL.out⟩, ⟨HOI.out, HZI.out⟩, ⟨by have := HNL.out; have := I6.out; omega, by have := I7.out; omega⟩, S8.out⟩
end Go.Proofs.YtnienfgaidccpaaDoor
