/- Sketch: numbers modulo 31, lists and sets of numbers. No condition. -/
import Derived.Test.YtnienfgaidccpaaDoorBase
import Derived.Test.YtnienfgaidccpaaDoorChecked
import Derived.Test.YtnienfgaidccpaaDoorVc
import Derived.BigQuiet
import Derived.OwnWalk
import Derived.Lib.Hide
import Derived.IntWalk
namespace Go.Proofs.YtnienfgaidccpaaDoor
open Go.RowKit Go.Shelf
attribute [local go_sem] Oper.semAt_some

def i64s (l : List Int) : List Value := l.map fun x => .int .i64 x
theorem i64s_len (l : List Int) : (i64s l).length = l.length := by simp [i64s]
theorem i64s_get {l : List Int} {k : Nat} (h : k < l.length) : (i64s l)[k]? = some (.int .i64 l[k]) := by simp [i64s, h]
theorem i64s_one (l : List Int) : ∀ u ∈ i64s l, u.oneCell' = true := by
  intro u hu
  obtain ⟨x, _, rfl⟩ := List.mem_map.1 hu
  rfl
theorem i64s_app (L : List Int) (x : Int) : i64s L ++ [.int .i64 x] = i64s (L ++ [x]) := by simp [i64s]
theorem i64s_set (l : List Int) (k : Nat) (v : Int) : (i64s l).set k (.int .i64 v) = i64s (l.set k v) := by simp [i64s, List.map_set]
theorem Rd.i64 {w : World} {A : Option Addr} {l : List Int} (h : Rd w A (i64s l)) {k : Nat} (hk : k < l.length) : ∃ b off, A = some ⟨b, off, none⟩ ∧ w.cell? ⟨b, off + k, none⟩ = some (.int .i64 l[k]) ∧ b < w.heap.size := by
  obtain ⟨b, off, e, hb, hc⟩ := h.at_ (i64s_get hk)
  exact ⟨b, off, e, hc k _ (i64s_get hk), hb⟩
theorem tmod31 (n : Int) : (n.tmod 31 + 31).tmod 31 = n % 31 := by
  rw [Int.tmod_eq_emod_of_nonneg (by have := Int.lt_tmod_of_pos n (show (0 : Int) < 31 by decide); omega)]
  rw [Int.tmod_eq_emod]
  split <;> omega
/-- A value in the range of int. -/
def I64 (n : Int) : Prop := -9223372036854775808 ≤ n ∧ n ≤ 9223372036854775807
set_option maxRecDepth 100000 in
theorem mod_any (n : Int) (w : World) : Calls Tryd.prog 76 #[.int .i64 n] w fun e w' => e = .returned (.int .i64 (n % 31)) ∧ w = w' := by
  have H := Lib.hid (tmod31 n)
  have b1 := Int.lt_tmod_of_pos n (show (0 : Int) < 31 by decide)
  have b2 := Int.tmod_lt_of_pos n (show (0 : Int) < 31 by decide)
  obtain ⟨q, hq⟩ : ∃ q, q = n.tmod 31 := ⟨_, rfl⟩
  have hq2 : n.tmod 31 = q := hq.symm
  rw [← hq] at H b1 b2
  have z1 : IntKind.i64.wrap q = q := IntWalk.i64_in _ (by omega)
  have z2 : IntKind.i64.wrap (q + 31) = q + 31 := IntWalk.i64_in _ (by omega)
  have z4 : (q + 31).tmod 31 = n % 31 := H.out
  have b3 : 0 ≤ n % 31 ∧ n % 31 < 31 := by omega
  have z3 : IntKind.i64.wrap (n % 31) = n % 31 := IntWalk.i64_in _ (by omega)
  generalize n % 31 = r at *
  clear hq
  go_enter Tryd.func76, Tryd.ntmps76
  go_wp2_with fail
  go_ret
  exact ⟨by first | rfl | simp [*], rfl⟩
theorem pow31_in (a : Int) (i : Nat) : 0 ≤ pow31 a i ∧ pow31 a i < 31 := by
  cases i with
  | zero => simp [pow31]
  | succ i => rw [pow31]; omega
set_option maxRecDepth 100000 in
set_option maxHeartbeats 1000000 in
theorem inverse_any (a : Int) (ha : 0 ≤ a ∧ a < 31) (w : World) : Calls Tryd.prog 97 #[.int .i64 a] w fun e w' => e = .returned (.int .i64 (inv a)) ∧ w = w' := by
  obtain ⟨a0, a1⟩ := ha
  have HM := Lib.hid (fun n W => mod_any n W)
  have HV := Lib.hid (show inv a = pow31 a 29 from rfl)
  generalize inv a = v at *
  go_enter Tryd.func97, Tryd.ntmps97
  go_wp2_with fail
  go_loopg [3, 4] 29 (fun q u3 u4 wr => ∃ (i : Nat) (p : Int), i ≤ 29 ∧ (0 ≤ p ∧ p < 31) ∧ u3 = .int .i64 p ∧ u4 = .int .i64 (i : Nat) ∧ Hid (p = pow31 a i ∧ i + q = 29 ∧ wr = w))
  case atStart => exact ⟨0, 1, by omega, by omega, rfl, rfl, rfl, by omega, rfl⟩
  case round =>
    obtain ⟨i, p, hi, ⟨hp0, hp1⟩, rfl, rfl, hI⟩ := hrel
    have I1 := Lib.hid hI.out.1
    have I2 := Lib.hid hI.out.2.1
    have hwr := hI.out.2.2
    clear hI
    subst hwr
    by_cases hlt : i < 29
    case neg => as_aux_lemma =>
      have HE := Lib.hid (show p = v by rw [I1.out, HV.out]; congr 1; omega)
      have hni : ¬ (i : Int) < 29 := by omega
      go_wp2_with fail
      go_ret
      exact ⟨by rw [← HE.out]; rfl, rfl⟩
    as_aux_lemma =>
    have hix : (i : Int) < 29 := by omega
    have hpa : 0 ≤ p * a ∧ p * a ≤ 900 := ⟨Int.mul_nonneg hp0 a0, by have := Int.mul_le_mul (show p ≤ 30 by omega) (show a ≤ 30 by omega) a0 (by omega); omega⟩
    have z1 : IntKind.i64.wrap (p * a) = p * a := IntWalk.i64_in _ (by omega)
    have HS := Lib.hid (show (p * a) % 31 = pow31 a (i + 1) by rw [I1.out]; rfl)
    have HB := Lib.hid (show 0 ≤ (p * a) % 31 ∧ (p * a) % 31 < 31 by omega)
    go_wp2_with fail
    refine (HM.out _ _).mono ?_
    rintro e w1 ⟨rfl, rfl⟩
    go_wp2_with fail
    go_roundg (gk - 1)
    case measure => have := I2.out; omega
    case rel => exact ⟨i + 1, (p * a) % 31, by omega, HB.out, rfl, by go_num, HS.out, by have := I2.out; omega, rfl⟩
/-- Numbers from 0 to 30. -/
def numB (l : List Int) : Bool := l.all fun n => decide (0 ≤ n ∧ n < 31)
theorem numB_in {l : List Int} (h : numB l = true) : In31 l := fun s hs => by
  have := List.all_eq_true.1 h s hs
  simpa using this
theorem numB_of {l : List Int} (h : In31 l) : numB l = true := List.all_eq_true.2 fun s hs => by simpa using h s hs
/-- The number of the first element for which p does not hold, or -1. -/
def outI (p : Int → Bool) : List Int → Nat → Int
  | [], _ => -1
  | x :: l, k => if p x then outI p l (k + 1) else k
theorem outI_all (p : Int → Bool) : ∀ (l : List Int) (k : Nat), decide (0 ≤ outI p l k) = !l.all p
  | [], _ => rfl
  | x :: l, k => by
    rw [outI, List.all_cons]
    cases h : p x
    · simp
    · simpa using outI_all p l (k + 1)
theorem cl_num (n : Int) (w : World) : Calls Tryd.prog 93 #[.int .i64 n] w fun e w' => e = .returned (.bool (!decide (0 ≤ n ∧ n < 31))) ∧ w = w' := by
  by_cases h0 : n < 0
  · have hv : (!decide (0 ≤ n ∧ n < 31)) = true := by simp; omega
    rw [hv]
    go_enter Tryd.func93, Tryd.ntmps93
    go_wp2_with fail
    go_ret
    exact ⟨rfl, rfl⟩
  · have HV := Lib.hid (show (!decide (0 ≤ n ∧ n < 31)) = decide (31 ≤ n) by by_cases h : 31 ≤ n <;> simp [h] <;> omega)
    generalize (!decide (0 ≤ n ∧ n < 31)) = v at *
    go_enter Tryd.func93, Tryd.ntmps93
    go_wp2_with fail
    go_ret
    exact ⟨by rw [HV.out]; rfl, rfl⟩
set_option maxRecDepth 100000 in
set_option maxHeartbeats 1000000 in
theorem ixf_any (l : List Int) (A : Option Addr) (n cp : Nat) (w : World) (hr : Rd w A (i64s l)) (hn : n = l.length) (hbig : n ≤ 4611686018427387904) :
    Calls Tryd.prog 103 #[.slice A n cp, .func (.func 93) #[] #[]] w fun e w' => e = .returned (.int .i64 (outI (fun n : Int => decide (0 ≤ n ∧ n < 31)) l 0)) ∧ w = w' := by
  have HR := Lib.hid hr
  have HN := Lib.hid hn
  obtain ⟨p, hp⟩ : ∃ p : Int → Bool, p = fun n : Int => decide (0 ≤ n ∧ n < 31) := ⟨_, rfl⟩
  have HP := Lib.hid (show ∀ n : Int, (fun n : Int => decide (0 ≤ n ∧ n < 31)) n = p n from fun n => by rw [hp])
  rw [← hp]
  clear hr hn hp
  go_enter Tryd.func103, Tryd.ntmps103
  go_wp2_with fail
  go_loopg [8] n (fun q u8 wr => ∃ i : Nat, i ≤ n ∧ u8 = .int .i64 (i : Nat) ∧ Hid (i + q = n ∧ wr = w ∧ outI p l 0 = outI p (l.drop i) i))
  case atStart => exact ⟨0, by omega, rfl, by omega, rfl, by rw [List.drop_zero]⟩
  case round =>
    obtain ⟨i, hi, rfl, hI⟩ := hrel
    have I1 := Lib.hid hI.out.1
    have hwr := hI.out.2.1
    have I3 := Lib.hid hI.out.2.2
    clear hI
    subst hwr
    by_cases hlt : i < n
    case neg => as_aux_lemma =>
      have HE := Lib.hid (show outI p l 0 = -1 by rw [I3.out, List.drop_eq_nil_of_le (by have := HN.out; omega)]; rfl)
      have hni : ¬ (i : Int) < (n : Int) := by omega
      go_wp2_with fail
      go_ret
      exact ⟨by rw [HE.out]; rfl, rfl⟩
    have hil : i < l.length := by rw [← HN.out]; exact hlt
    have hix : (i : Int) < (n : Int) := by omega
    obtain ⟨b0, off, rfl, k0, l0⟩ := HR.out.i64 hil
    have HD := Lib.hid (show outI p (l.drop i) i = if p l[i] then outI p (l.drop (i + 1)) (i + 1) else i by rw [List.drop_eq_getElem_cons hil]; rfl)
    have hpl := HP.out l[i]
    generalize l[i] = y at *
    have HC1 := cl_num y wr
    rw [hpl] at HC1
    replace HC1 := Lib.hid HC1
    rcases hpx : p y with _ | _
    all_goals rw [hpx] at HC1 HD
    · as_aux_lemma =>
      have HE := Lib.hid (show outI p l 0 = i by rw [I3.out, HD.out]; rfl)
      clear hpl hpx
      go_wp2_with fail
      refine HC1.out.mono ?_
      rintro e w1 ⟨rfl, rfl⟩
      go_wp2_with fail
      go_ret
      exact ⟨by rw [HE.out]; rfl, rfl⟩
    · as_aux_lemma =>
      have HE := Lib.hid (show outI p l 0 = outI p (l.drop (i + 1)) (i + 1) by rw [I3.out, HD.out]; rfl)
      clear hpl hpx
      go_wp2_with fail
      refine HC1.out.mono ?_
      rintro e w1 ⟨rfl, rfl⟩
      go_wp2_with fail
      go_roundg (gk - 1)
      case measure => have := I1.out; omega
      case rel => exact ⟨i + 1, by omega, by go_num, by have := I1.out; omega, rfl, HE.out⟩
theorem cff_any (l : List Int) (A : Option Addr) (n cp : Nat) (w : World) (hr : Rd w A (i64s l)) (hn : n = l.length) (hbig : n ≤ 4611686018427387904) :
    Calls Tryd.prog 92 #[.slice A n cp, .func (.func 93) #[] #[]] w fun e w' => e = .returned (.bool (!numB l)) ∧ w = w' := by
  have HC := Lib.hid (ixf_any l A n cp w hr hn hbig)
  have HA := Lib.hid (outI_all (fun n => decide (0 ≤ n ∧ n < 31)) l 0)
  unfold numB
  generalize outI (fun n : Int => decide (0 ≤ n ∧ n < 31)) l 0 = v at *
  clear hr hn hbig
  go_enter Tryd.func92, Tryd.ntmps92
  go_wp2_with fail
  refine HC.out.mono ?_
  rintro e w1 ⟨rfl, rfl⟩
  go_wp2_with fail
  go_ret
  exact ⟨by rw [← HA.out]; rfl, rfl⟩
theorem numbers_any (l : List Int) (A : Option Addr) (n cp : Nat) (w : World) (hr : Rd w A (i64s l)) (hn : n = l.length) (hbig : n ≤ 4611686018427387904) :
    Calls Tryd.prog 72 #[.slice A n cp] w fun e w' => e = .returned (.bool (numB l)) ∧ w = w' := by
  have HC := Lib.hid (cff_any l A n cp w hr hn hbig)
  generalize numB l = v at *
  clear hr hn hbig
  go_enter Tryd.func72, Tryd.ntmps72
  go_wp2_with fail
  refine HC.out.mono ?_
  rintro e w1 ⟨rfl, rfl⟩
  cases v
  all_goals
    go_wp2_with fail
    go_ret
    exact ⟨rfl, rfl⟩
set_option maxRecDepth 100000 in
set_option maxHeartbeats 1000000 in
theorem index_any (l : List Int) (A : Option Addr) (n cp : Nat) (x : Int) (w : World) (hr : Rd w A (i64s l)) (hn : n = l.length) (hbig : n ≤ 4611686018427387904) :
    Calls Tryd.prog 95 #[.slice A n cp, .int .i64 x] w fun e w' => e = .returned (.int .i64 (outI (fun n : Int => !decide (x = n)) l 0)) ∧ w = w' := by
  have HR := Lib.hid hr
  have HN := Lib.hid hn
  obtain ⟨p, hp⟩ : ∃ p : Int → Bool, p = fun n : Int => !decide (x = n) := ⟨_, rfl⟩
  have HP := Lib.hid (show ∀ n : Int, (fun n : Int => !decide (x = n)) n = p n from fun n => by rw [hp])
  rw [← hp]
  clear hr hn hp
  go_enter Tryd.func95, Tryd.ntmps95
  go_wp2_with fail
  go_loopg [8] n (fun q u8 wr => ∃ i : Nat, i ≤ n ∧ u8 = .int .i64 (i : Nat) ∧ Hid (i + q = n ∧ wr = w ∧ outI p l 0 = outI p (l.drop i) i))
  case atStart => exact ⟨0, by omega, rfl, by omega, rfl, by rw [List.drop_zero]⟩
  case round =>
    obtain ⟨i, hi, rfl, hI⟩ := hrel
    have I1 := Lib.hid hI.out.1
    have hwr := hI.out.2.1
    have I3 := Lib.hid hI.out.2.2
    clear hI
    subst hwr
    by_cases hlt : i < n
    case neg => as_aux_lemma =>
      have HE := Lib.hid (show outI p l 0 = -1 by rw [I3.out, List.drop_eq_nil_of_le (by have := HN.out; omega)]; rfl)
      have hni : ¬ (i : Int) < (n : Int) := by omega
      go_wp2_with fail
      go_ret
      exact ⟨by rw [HE.out]; rfl, rfl⟩
    have hil : i < l.length := by rw [← HN.out]; exact hlt
    have hix : (i : Int) < (n : Int) := by omega
    obtain ⟨b0, off, rfl, k0, l0⟩ := HR.out.i64 hil
    have HD := Lib.hid (show outI p (l.drop i) i = if p l[i] then outI p (l.drop (i + 1)) (i + 1) else i by rw [List.drop_eq_getElem_cons hil]; rfl)
    have hpl := HP.out l[i]
    generalize l[i] = y at *
    rcases hpx : p y with _ | _
    all_goals rw [hpx] at hpl HD
    · as_aux_lemma =>
      have hxy : x = y := by simpa using hpl
      have HE := Lib.hid (show outI p l 0 = i by rw [I3.out, HD.out]; rfl)
      clear hpl hpx
      go_wp2_with fail
      go_ret
      exact ⟨by rw [HE.out]; rfl, rfl⟩
    · as_aux_lemma =>
      have hxy : ¬ x = y := by simpa using hpl
      have HE := Lib.hid (show outI p l 0 = outI p (l.drop (i + 1)) (i + 1) by rw [I3.out, HD.out]; rfl)
      clear hpl hpx
      go_wp2_with fail
      go_roundg (gk - 1)
      case measure => have := I1.out; omega
      case rel => exact ⟨i + 1, by omega, by go_num, by have := I1.out; omega, rfl, HE.out⟩
theorem contains_any (l : List Int) (A : Option Addr) (n cp : Nat) (x : Int) (w : World) (hr : Rd w A (i64s l)) (hn : n = l.length) (hbig : n ≤ 4611686018427387904) :
    Calls Tryd.prog 75 #[.slice A n cp, .int .i64 x] w fun e w' => e = .returned (.bool (decide (x ∈ l))) ∧ w = w' := by
  have HC := Lib.hid (index_any l A n cp x w hr hn hbig)
  have HA := Lib.hid (show decide (0 ≤ outI (fun n : Int => !decide (x = n)) l 0) = decide (x ∈ l) by
    rw [outI_all, Bool.eq_iff_iff]
    simp)
  generalize outI (fun n : Int => !decide (x = n)) l 0 = v at *
  generalize decide (x ∈ l) = r at *
  clear hr hn hbig
  go_enter Tryd.func75, Tryd.ntmps75
  go_wp2_with fail
  refine HC.out.mono ?_
  rintro e w1 ⟨rfl, rfl⟩
  go_wp2_with fail
  go_ret
  exact ⟨by rw [← HA.out]; rfl, rfl⟩
theorem setB_inc : ∀ {l : List Int}, (∀ j, (h : j + 1 < l.length) → l[j] < l[j + 1]) → setB l = numB l
  | [], _ => rfl
  | [x], _ => by simp [setB, numB]
  | x :: y :: l, h => by
    have h0 : x < y := h 0 (by simp)
    have ih := setB_inc (l := y :: l) fun j hj => h (j + 1) (by simpa using hj)
    rw [setB, ih, decide_eq_true h0, Bool.and_true]
    simp [numB]
theorem setB_bad : ∀ {l : List Int} {j : Nat} (h : j + 1 < l.length), ¬ l[j] < l[j + 1] → setB l = false
  | [], _, h, _ => by simp at h
  | [x], _, h, _ => by simp at h
  | x :: y :: l, 0, _, hn => by
    have : ¬ x < y := hn
    rw [setB, decide_eq_false this]; simp
  | x :: y :: l, j + 1, h, hn => by
    rw [setB, setB_bad (l := y :: l) (j := j) (by simpa using h) hn]; simp
set_option maxRecDepth 100000 in
set_option maxHeartbeats 1000000 in
theorem set_any (l : List Int) (A : Option Addr) (n cp : Nat) (w : World) (hr : Rd w A (i64s l)) (hn : n = l.length) (hbig : n ≤ 4611686018427387904) :
    Calls Tryd.prog 73 #[.slice A n cp] w fun e w' => e = .returned (.bool (setB l)) ∧ Below w.heap.size w w' := by
  have HR := Lib.hid (fun W (h : Below w.heap.size w W) => hr.below h)
  have HN := Lib.hid hn
  have HNUM := Lib.hid (fun W (h : Below w.heap.size w W) => numbers_any l A n cp W (hr.below h) hn hbig)
  clear hr hn
  go_enter Tryd.func73, Tryd.ntmps73
  go_wp2_with fail
  go_loopg [3] n (fun q u3 wr => ∃ i : Nat, 1 ≤ i ∧ (i ≤ n ∨ i = 1) ∧ u3 = .int .i64 (i : Nat) ∧ Hid ((∀ j, (h : j + 1 < l.length) → j + 1 < i → l[j] < l[j + 1]) ∧ n ≤ i + q ∧ Own w wr []))
  case atStart => exact ⟨1, by omega, by omega, rfl, (fun j h h2 => by omega), by omega, Own.start w⟩
  case round =>
    obtain ⟨i, hi1, hi, rfl, hI⟩ := hrel
    have I1 := Lib.hid hI.out.1
    have I2 := Lib.hid hI.out.2.1
    have I3 := Lib.hid hI.out.2.2
    clear hI
    by_cases hlt : i < n
    case neg => as_aux_lemma =>
      have HE := Lib.hid (show setB l = numB l from setB_inc fun j h => I1.out j h (by have := HN.out; omega))
      have hni : ¬ (i : Int) < (n : Int) := by omega
      have hnum := Lib.hid (HNUM.out _ I3.out.bel)
      rw [← HE.out] at hnum
      clear HE
      obtain ⟨v, hv⟩ : ∃ v, v = setB l := ⟨_, rfl⟩
      rw [← hv] at hnum
      replace hv := Lib.hid hv
      go_wp2_with fail
      refine hnum.out.mono ?_
      rintro e w5 ⟨rfl, rfl⟩
      go_wp2_with fail
      go_ret
      exact ⟨by rw [← hv.out]; rfl, I3.out.bel⟩
    have hil : i < l.length := by rw [← HN.out]; exact hlt
    have hix : (i : Int) < (n : Int) := by omega
    obtain ⟨j, rfl⟩ : ∃ j, i = j + 1 := ⟨i - 1, by omega⟩
    have hjl : j < l.length := by omega
    have hjx : (j : Int) < (n : Int) := by omega
    obtain ⟨b0, off, rfl, k0, l0⟩ := (HR.out _ I3.out.bel).i64 hil
    obtain ⟨b1, off1, e1, k1, l1⟩ := (HR.out _ I3.out.bel).i64 hjl
    simp only [Option.some.injEq, Addr.mk.injEq] at e1
    obtain ⟨rfl, rfl, _⟩ := e1
    have hsub : ((j + 1 : Nat) : Int) - 1 = (j : Int) := by omega
    have hw1 : IntKind.i64.wrap (((j + 1 : Nat) : Int) - 1) = (j : Int) := by rw [hsub]; exact IntWalk.i64_in _ (by omega)
    have hn1 : (((j + 1 : Nat) : Int)).toNat = j + 1 := by omega
    have HBAD := Lib.hid (fun (h : ¬ l[j] < l[j + 1]) => setB_bad (l := l) (j := j) hil h)
    have HGO := Lib.hid (fun (h : l[j] < l[j + 1]) => (show ∀ k, (hk : k + 1 < l.length) → k + 1 < j + 2 → l[k] < l[k + 1] by
      intro k hk hk2
      by_cases e : k = j
      · subst e; exact h
      · exact I1.out k hk (by omega)))
    have fx0 := fun z : OwnOf w [] => (HR.out _ z.own.bel)
    have K0 := Lib.hid (fun z : OwnOf w [] => (show z.wld.cell? ⟨b0, off + (j + 1), none⟩ = some (.int .i64 l[j + 1]) by obtain ⟨b, o, e, h, _⟩ := (HR.out _ z.own.bel).i64 hil; simp only [Option.some.injEq, Addr.mk.injEq] at e; obtain ⟨rfl, rfl, _⟩ := e; exact h))
    have K1 := Lib.hid (fun z : OwnOf w [] => (show z.wld.cell? ⟨b0, off + j, none⟩ = some (.int .i64 l[j]) by obtain ⟨b, o, e, h, _⟩ := (HR.out _ z.own.bel).i64 hjl; simp only [Option.some.injEq, Addr.mk.injEq] at e; obtain ⟨rfl, rfl, _⟩ := e; exact h))
    generalize l[j + 1] = y at *
    generalize l[j] = x at *
    clear fx0 k0 k1 l0 l1
    by_cases hxy : x < y
    · as_aux_lemma =>
      have HG := Lib.hid (HGO.out hxy)
      have hle : ¬ y ≤ x := by omega
      clear HGO HBAD
      go_upto_region 4 with fail
      have fx0 := fun z : OwnOf w [] => K0.out z
      have fx1 := fun z : OwnOf w [] => K1.out z
      have hne : Nonempty (OwnOf w []) := ⟨⟨_, I3.out⟩⟩
      refine wp_region_own I3.out (by kernel_rfl) (by kernel_rfl) ?_
      iterate 10 (go_big_quiet_step (fail))
      refine wpQuiet_nil ?_
      rintro w3 ⟨z, hz⟩
      have S3 := Lib.hid (show Own w w3 [] by rw [hz]; exact z.own)
      clear hz z hne fx0 fx1 hw1 hsub
      go_wp2_with fail
      go_roundg (gk - 1)
      case measure => have := I2.out; omega
      case rel => exact ⟨j + 2, by omega, by omega, by go_num, HG.out, by have := I2.out; omega, S3.out⟩
    · as_aux_lemma =>
      have HB := Lib.hid (HBAD.out hxy)
      have hle : y ≤ x := by omega
      clear HGO HBAD
      go_upto_region 4 with fail
      have fx0 := fun z : OwnOf w [] => K0.out z
      have fx1 := fun z : OwnOf w [] => K1.out z
      have hne : Nonempty (OwnOf w []) := ⟨⟨_, I3.out⟩⟩
      refine wp_region_own I3.out (by kernel_rfl) (by kernel_rfl) ?_
      iterate 10 (go_big_quiet_step (fail))
      refine wpQuiet_nil ?_
      rintro w3 ⟨z, hz⟩
      have S3 := Lib.hid (show Own w w3 [] by rw [hz]; exact z.own)
      clear hz z hne fx0 fx1 hw1 hsub
      go_wp2_with fail
      go_ret
      exact ⟨by rw [HB.out]; rfl, S3.out.bel⟩
end Go.Proofs.YtnienfgaidccpaaDoor
