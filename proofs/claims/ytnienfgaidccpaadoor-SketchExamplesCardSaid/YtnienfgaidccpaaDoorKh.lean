/- Sketch: Sketch of the reference; tags of both. No condition. -/
import Derived.Test.YtnienfgaidccpaaDoorKg
namespace Go.Proofs.YtnienfgaidccpaaDoor
open Go.RowKit Go.Shelf
attribute [local go_sem] Oper.semAt_some

theorem u16s_snoc {l : List Nat} {i : Nat} (f : Nat → Nat) (h : i < l.length) : u16s ((l.take i).map f) ++ [.int .u16 (f l[i] : Nat)] = u16s ((l.take (i + 1)).map f) := by
  rw [List.take_add_one, List.getElem?_eq_getElem h]
  simp only [Option.toList_some, List.map_append, List.map_cons, List.map_nil, u16s]
set_option maxRecDepth 100000 in
set_option maxHeartbeats 2000000 in
theorem refSketch_main (k : Int) (l : List Nat) (A : Option Addr) (n cp : Nat) (w : World) (hr : Rd w A (u16s l)) (hn : n = l.length) :
    Calls Tryd.prog 18 #[.int .u8 k, .slice A n cp] w (WsPost (skL k l) (skE k l) w) := by
  have K29 := fun W => Kind_any k W
  have K46 := fun W (h : Rd W A (u16s l)) => refTemplate_any l A n cp W h hn
  have HF := Lib.hid (fun W (h : Below w.heap.size w W) => hr.below h)
  cases hkb : kindB k
  · as_aux_lemma =>
    have HL := Lib.hid (show skL k l = [] ∧ skE k l = 2 by simp [skL, skE, hkb])
    rw [hkb] at K29
    replace K29 := Lib.hid K29
    clear hr hn hkb
    go_enter Tryd.func18, Tryd.ntmps18
    go_wp2_with fail
    refine (K29.out _).mono ?_
    rintro e w1 ⟨rfl, hb1⟩
    have S1 := Lib.hid ((Own.start w).ext hb1)
    clear hb1
    go_wp2_with fail
    go_ret2
    exact ⟨none, 0, by rw [HL.out.1, HL.out.2]; rfl, by rw [HL.out.1]; exact S1.out.nil 41 1⟩
  obtain ⟨m, hm, hm1, hm3, hmt⟩ := kind_bd hkb
  rw [hkb] at K29
  replace K29 := Lib.hid K29
  cases htb : tmplB l
  · as_aux_lemma =>
    have HL := Lib.hid (show skL k l = [] ∧ skE k l = 2 by simp [skL, skE, hkb, htb])
    rw [htb] at K46
    replace K46 := Lib.hid K46
    clear hr hn hkb htb hm hmt
    go_enter Tryd.func18, Tryd.ntmps18
    go_wp2_with fail
    refine (K29.out _).mono ?_
    rintro e w1 ⟨rfl, hb1⟩
    have S1 := Lib.hid ((Own.start w).ext hb1)
    clear hb1
    go_wp2_with fail
    refine (K46.out _ (HF.out _ S1.out.bel)).mono ?_
    rintro e w2 ⟨rfl, rfl⟩
    go_wp2_with fail
    go_ret2
    exact ⟨none, 0, by rw [HL.out.1, HL.out.2]; rfl, by rw [HL.out.1]; exact S1.out.nil 41 1⟩
  obtain ⟨l1, l4, l15⟩ := tmpl_bd htb
  have HL := Lib.hid (show skL k l = (l.take n).map (kd m).rest ∧ skE k l = 0 by rw [hn, List.take_length]; simp [skL, skE, hkb, htb, hmt])
  rw [htb] at K46
  replace K46 := Lib.hid K46
  have HR := Lib.hid (fun x (hx : x < 2 ^ 15) W => refRest_any m hm1 hm3 x hx W)
  generalize kd m = c at *
  have HLB := Lib.hid l15
  have HN := Lib.hid hn
  have hn1 : 1 ≤ n := by omega
  have hn4 : n ≤ 4 := by omega
  subst hm
  clear hr hn hkb htb hmt l1 l4 l15
  as_aux_lemma =>
  go_enter Tryd.func18, Tryd.ntmps18
  go_wp2_with fail
  refine (K29.out _).mono ?_
  rintro e w1 ⟨rfl, hb1⟩
  have S1 := Lib.hid ((Own.start w).ext hb1)
  clear hb1
  go_wp2_with fail
  refine (K46.out _ (HF.out _ S1.out.bel)).mono ?_
  rintro e w2 ⟨rfl, rfl⟩
  have S2 := Lib.hid ((S1.out.nil 41 1).cast (qs := [row 41 1 (.slice none 0 0) 0 (u16s ((l.take 0).map c.rest))]) (by simp [u16s]))
  clear S1
  go_wp2_with fail
  go_loopg [6, 7] n (fun q u6 u7 wr => ∃ (i : Nat) (A1 : Option Addr) (c1 : Nat), i ≤ n ∧ u6 = .slice A1 i c1 ∧ u7 = .int .i64 (i : Nat) ∧ Hid (i + q = n ∧ Own w wr [row 41 1 (.slice A1 i c1) i (u16s ((l.take i).map c.rest))]))
  case atStart => exact ⟨0, none, 0, by omega, rfl, rfl, by omega, S2.out⟩
  case round =>
    obtain ⟨i, A1, c1, hi, rfl, rfl, hI⟩ := hrel
    have I1 := Lib.hid hI.out.1
    have I2 := Lib.hid hI.out.2
    clear hI S2
    by_cases hlt : i < n
    case neg => as_aux_lemma =>
      have HI := Lib.hid (show i = n by omega)
      have HE2 := Lib.hid (show (skL (m : Int) l).length = i by rw [HL.out.1, List.length_map, List.length_take, ← HN.out, HI.out]; omega)
      have HE := Lib.hid (show (l.take i).map c.rest = skL (m : Int) l by rw [HL.out.1, HI.out])
      have hni : ¬ (i : Int) < (n : Int) := by omega
      go_wp2_with fail
      go_ret2
      exact ⟨A1, c1, by rw [HL.out.2, HE2.out]; rfl, by rw [HE2.out, ← HE.out]; exact I2.out⟩
    have hil : i < l.length := by rw [← HN.out]; exact hlt
    have hix : (i : Int) < (n : Int) := by omega
    obtain ⟨b0, off, rfl, k0, l0⟩ := (HF.out _ I2.out.bel).u16 hil
    have HR1 := Lib.hid (HR.out l[i] (HLB.out _ (List.getElem_mem hil)))
    have HS := Lib.hid (u16s_snoc c.rest hil)
    generalize c.rest l[i] = y at *
    generalize l[i] = x at *
    as_aux_lemma =>
    go_wp2_with fail
    refine (HR1.out _).mono ?_
    rintro e w5 ⟨rfl, hb5⟩
    have S5 := Lib.hid (I2.out.ext hb5)
    clear hb5 k0
    go_wp2_with (at_builtin; refine wpList_appP rfl (.tmp 22) (.tmp 29) 22 rfl st22 0 (S5.out.ext (below_alloc w5 (.cells #[.int .u16 (y : Nat)] 41))) rfl rfl rfl (i + 1) (u16s ((l.take (i + 1)).map c.rest)) ?_ [.int .u16 (y : Nat)] rfl (by rw [← HS.out]) (Rd.new _ #[.int .u16 (y : Nat)] 41) rfl (by simp [Value.oneCell']) (by unfold maxLen; omega) (by omega); intro A9 c9 w9 hO9; have HO9 := Lib.hid hO9; clear hO9)
    go_roundg (gk - 1)
    case measure => have := I1.out; omega
    case rel => exact ⟨i + 1, A9, c9, by omega, rfl, by go_num, by have := I1.out; omega, HO9.out⟩
/-- One byte more of a tag. -/
def tg1 (h b : Nat) : Nat := ((h ^^^ b) * 16777619) % 4294967296
def tg2 (h m : Nat) : Nat := tg1 (tg1 h (m % 256)) (m / 256)
def tagF (l : List Nat) : Nat := l.foldl tg2 2166136261
theorem tg1_lt (h b : Nat) : tg1 h b < 4294967296 := Nat.mod_lt _ (by decide)
theorem tg2_lt (h m : Nat) : tg2 h m < 4294967296 := by unfold tg2; exact tg1_lt _ _
theorem foldl_snoc (f : Nat → Nat → Nat) (a x : Nat) (l : List Nat) : (l ++ [x]).foldl f a = f (l.foldl f a) x := by simp only [List.foldl_append, List.foldl_cons, List.foldl_nil]
theorem tagF_snoc {l : List Nat} {i : Nat} (h : i < l.length) : tagF (l.take (i + 1)) = tg2 (tagF (l.take i)) l[i] := by
  rw [List.take_add_one, List.getElem?_eq_getElem h]
  unfold tagF
  generalize 2166136261 = z
  exact foldl_snoc tg2 z l[i] (l.take i)
theorem foldl_bd (f : Nat → Nat → Nat) (z : Nat) (hf : ∀ a x, f a x < z) : ∀ (l : List Nat) (a : Nat), a < z → l.foldl f a < z
  | [], _, h => h
  | x :: l, a, _ => foldl_bd f z hf l (f a x) (hf a x)
theorem tagF_lt (l : List Nat) : tagF l < 4294967296 := by
  unfold tagF
  exact foldl_bd tg2 4294967296 tg2_lt l _ (by omega)
theorem tg1_val {h b : Nat} (hh : h < 4294967296) (hb : b < 65536) : bits .xor .u32 (h : Int) (b : Int) = ((h ^^^ b : Nat) : Int) ∧ IntKind.u32.wrap (((h ^^^ b : Nat) : Int) * 16777619) = (tg1 h b : Nat) := by
  refine ⟨u32_xor_nat _ _ hh (by omega), ?_⟩
  unfold tg1
  generalize h ^^^ b = q
  rw [IntKind.wrap_u32']
  omega
set_option maxRecDepth 100000 in
set_option maxHeartbeats 2000000 in
theorem tagged_any (l : List Nat) (A : Option Addr) (n cp : Nat) (w : World) (hr : Rd w A (u16s l)) (hn : n = l.length) (hw : W16 l) (hbig : n ≤ 4611686018427387904) :
    Calls Tryd.prog 69 #[.slice A n cp] w fun e w' => e = .returned (.int .u32 (tagF l : Nat)) ∧ w = w' := by
  have HR := Lib.hid hr
  have HN := Lib.hid hn
  have HW := Lib.hid hw
  have HMA := Lib.hid (show tagF (l.take n) = tagF l by rw [hn, List.take_length])
  have HM0 := Lib.hid (show tagF (l.take 0) = 2166136261 by rw [List.take_zero]; rfl)
  clear hr hn hw
  go_enter Tryd.func69, Tryd.ntmps69
  go_wp2_with fail
  go_loopg [3, 4] n (fun q u3 u4 wr => ∃ i h : Nat, i ≤ n ∧ h < 4294967296 ∧ u3 = .int .u32 (h : Nat) ∧ u4 = .int .i64 (i : Nat) ∧ Hid (h = tagF (l.take i) ∧ i + q = n ∧ wr = w))
  case atStart => exact ⟨0, 2166136261, by omega, by omega, rfl, rfl, HM0.out.symm, by omega, rfl⟩
  case round =>
    obtain ⟨i, h, hi, hh, rfl, rfl, hI⟩ := hrel
    have I1 := Lib.hid hI.out.1
    have I2 := Lib.hid hI.out.2.1
    have hwr := hI.out.2.2
    clear hI
    subst hwr
    by_cases hlt : i < n
    case neg => as_aux_lemma =>
      have HE := Lib.hid (show h = tagF l by rw [I1.out, ← HMA.out]; congr 2; omega)
      have hni : ¬ (i : Int) < (n : Int) := by omega
      go_wp2_with fail
      go_ret
      exact ⟨by rw [← HE.out]; rfl, rfl⟩
    have hil : i < l.length := by rw [← HN.out]; exact hlt
    have hix : (i : Int) < (n : Int) := by omega
    obtain ⟨b0, off, rfl, k0, l0⟩ := HR.out.u16 hil
    have HS := Lib.hid (tagF_snoc hil)
    rw [← I1.out] at HS
    have hx16 := HW.out.at_ hil
    generalize l[i] = x at *
    have d1 : (x : Int).tmod 256 = ((x % 256 : Nat) : Int) := by rw [Int.tmod_eq_emod_of_nonneg (by omega)]; omega
    have d2 : IntKind.u16.wrap ((x : Int) / 256) = ((x / 256 : Nat) : Int) := by rw [IntWalk.u16_in _ (by omega)]; omega
    have d3 : IntKind.u16.wrap ((x : Int) % 256) = ((x % 256 : Nat) : Int) := by rw [IntWalk.u16_in _ (by omega)]; omega
    have ha : x % 256 < 65536 := by omega
    have hb : x / 256 < 65536 := by omega
    have HT := Lib.hid (show tg2 h x = tg1 (tg1 h (x % 256)) (x / 256) from rfl)
    generalize x % 256 = a at *
    generalize x / 256 = b at *
    obtain ⟨e1, e2⟩ := tg1_val hh ha
    have hh2 := tg1_lt h a
    generalize tg1 h a = h2 at *
    generalize h ^^^ a = q1 at *
    obtain ⟨e3, e4⟩ := tg1_val hh2 hb
    have hh3 := tg1_lt h2 b
    generalize tg1 h2 b = h3 at *
    generalize h2 ^^^ b = q2 at *
    have e5 : IntKind.u32.wrap (a : Int) = a := IntWalk.u32_in _ (by omega)
    have e6 : IntKind.u32.wrap (b : Int) = b := IntWalk.u32_in _ (by omega)
    as_aux_lemma =>
    go_wp2_with fail
    go_roundg (gk - 1)
    case measure => have := I2.out; omega
    case rel => exact ⟨i + 1, h3, by omega, hh3, rfl, by go_num, by rw [HS.out, HT.out], by have := I2.out; omega, rfl⟩
theorem two_idx (a b : Nat) (w : World) : (Instr.index 125 (.agg #[.int .u16 (a : Int), .int .u16 (b : Int)]) (.int .i64 0)).run Tryd.prog w = .ok (.int .u16 (a : Int)) w ∧ (Instr.index 125 (.agg #[.int .u16 (a : Int), .int .u16 (b : Int)]) (.int .i64 1)).run Tryd.prog w = .ok (.int .u16 (b : Int)) w := by
  constructor
  · kernel_rfl
  · kernel_rfl
set_option maxRecDepth 100000 in
set_option maxHeartbeats 2000000 in
theorem tag_any (l : List Nat) (A : Option Addr) (n cp : Nat) (w : World) (hr : Rd w A (u16s l)) (hn : n = l.length) (hw : W16 l) (hbig : n ≤ 4611686018427387904) :
    Calls Tryd.prog 67 #[.slice A n cp] w fun e w' => e = .returned (.int .u32 (tagF l : Nat)) ∧ w = w' := by
  have HR := Lib.hid hr
  have HN := Lib.hid hn
  have HW := Lib.hid hw
  have HMA := Lib.hid (show tagF (l.take n) = tagF l by rw [hn, List.take_length])
  have HM0 := Lib.hid (show tagF (l.take 0) = 2166136261 by rw [List.take_zero]; rfl)
  clear hr hn hw
  go_enter Tryd.func67, Tryd.ntmps67
  go_wp2_with fail
  go_loopg [3, 10] n (fun q u3 u10 wr => ∃ i h : Nat, i ≤ n ∧ h < 4294967296 ∧ u3 = .int .u32 (h : Nat) ∧ u10 = .int .i64 (i : Nat) ∧ Hid (h = tagF (l.take i) ∧ i + q = n ∧ wr = w))
  case atStart => exact ⟨0, 2166136261, by omega, by omega, rfl, rfl, HM0.out.symm, by omega, rfl⟩
  case round =>
    obtain ⟨i, h, hi, hh, rfl, rfl, hI⟩ := hrel
    have I1 := Lib.hid hI.out.1
    have I2 := Lib.hid hI.out.2.1
    have hwr := hI.out.2.2
    clear hI
    subst hwr
    by_cases hlt : i < n
    case neg => as_aux_lemma =>
      have HE := Lib.hid (show h = tagF l by rw [I1.out, ← HMA.out]; congr 2; omega)
      have hni : ¬ (i : Int) < (n : Int) := by omega
      go_wp2_with fail
      go_ret
      exact ⟨by rw [← HE.out]; rfl, rfl⟩
    have hil : i < l.length := by rw [← HN.out]; exact hlt
    have hix : (i : Int) < (n : Int) := by omega
    obtain ⟨b0, off, rfl, k0, l0⟩ := HR.out.u16 hil
    have HS := Lib.hid (tagF_snoc hil)
    rw [← I1.out] at HS
    have hx16 := HW.out.at_ hil
    generalize l[i] = x at *
    have d2 : ((x : Int) / 256) = ((x / 256 : Nat) : Int) := by omega
    have d3 : bits .and .u16 (x : Int) 255 = ((x % 256 : Nat) : Int) := by
      have := u16_and_nat x 255 hx16 (by decide)
      rw [nat_mask8] at this
      exact this
    have ha : x % 256 < 65536 := by omega
    have hb : x / 256 < 65536 := by omega
    have HT := Lib.hid (show tg2 h x = tg1 (tg1 h (x % 256)) (x / 256) from rfl)
    generalize x % 256 = a at *
    generalize x / 256 = b at *
    obtain ⟨e1, e2⟩ := tg1_val hh ha
    have hh2 := tg1_lt h a
    generalize tg1 h a = h2 at *
    generalize h ^^^ a = q1 at *
    obtain ⟨e3, e4⟩ := tg1_val hh2 hb
    have hh3 := tg1_lt h2 b
    generalize tg1 h2 b = h3 at *
    generalize h2 ^^^ b = q2 at *
    have e5 : IntKind.u32.wrap (a : Int) = a := IntWalk.u32_in _ (by omega)
    have e6 : IntKind.u32.wrap (b : Int) = b := IntWalk.u32_in _ (by omega)
    as_aux_lemma =>
    go_wp2_with fail
    obtain ⟨G1, rfl⟩ : ∃ G1 : Nat, G1 = gk := ⟨_, rfl⟩
    obtain ⟨wq, rfl⟩ : ∃ wq : World, wq = wr := ⟨_, rfl⟩
    go_loopg [3, 19] 2 (fun q u3 u19 wr => ∃ j v : Nat, j ≤ 2 ∧ u3 = .int .u32 (v : Nat) ∧ u19 = .int .i64 (j : Nat) ∧ Hid ((j = 0 → v = h) ∧ (j = 1 → v = h2) ∧ (j = 2 → v = h3) ∧ j + q = 2 ∧ wr = wq))
    case atStart => exact ⟨0, h, by omega, rfl, rfl, fun _ => rfl, fun h => by omega, fun h => by omega, by omega, rfl⟩
    case round =>
      obtain ⟨j, v, hj, rfl, rfl, hJ⟩ := hrel
      obtain ⟨J0, J1, J2, J3, J4⟩ := hJ.out
      clear hJ
      subst J4
      have J3 := Lib.hid J3
      obtain rfl | rfl | rfl : j = 0 ∨ j = 1 ∨ j = 2 := by omega
      · as_aux_lemma =>
        obtain rfl := J0 rfl
        clear J0 J1 J2
        have hx0 := fun W => (two_idx a b W).1
        go_wp2_with fail
        go_roundg (gk - 1)
        case measure => have := J3.out; omega
        case rel => exact ⟨1, h2, by omega, rfl, rfl, fun h => by omega, fun _ => rfl, fun h => by omega, by have := J3.out; omega, rfl⟩
      · as_aux_lemma =>
        obtain rfl := J1 rfl
        clear J0 J1 J2
        have hx0 := fun W => (two_idx a b W).2
        go_wp2_with fail
        go_roundg (gk - 1)
        case measure => have := J3.out; omega
        case rel => exact ⟨2, h3, by omega, rfl, rfl, fun h => by omega, fun h => by omega, fun _ => rfl, by have := J3.out; omega, rfl⟩
      · as_aux_lemma =>
        obtain rfl := J2 rfl
        clear J0 J1 J2
        go_wp2_with fail
        go_roundg (G1 - 1)
        case measure => have := I2.out; omega
        case rel => exact ⟨i + 1, v, by omega, hh3, rfl, by go_num, by rw [HS.out, HT.out], by have := I2.out; omega, rfl⟩
end Go.Proofs.YtnienfgaidccpaaDoor
