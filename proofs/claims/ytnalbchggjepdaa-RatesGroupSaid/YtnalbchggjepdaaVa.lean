/- Rates: doubles, whether they are valid, the point of two thresholds. No condition. -/
import Derived.Test.YtnalbchggjepdaaUc
import Derived.Test.YtnalbchggjepdaaSb
namespace Go.Proofs.Ytnalbchggjepdaa
open Go.RowKit Go.Shelf
attribute [local go_sem] Oper.semAt_some

structure Dbl where
  a : Int
  b : Int
  same : Bool
def encD (x : Dbl) : List Value := [.int .i64 x.a, .int .i64 x.b, .bool x.same]
def aggD (x : Dbl) : Value := .agg #[.int .i64 x.a, .int .i64 x.b, .bool x.same]
theorem encD_len (x : Dbl) : (encD x).length = 3 := rfl
theorem Rd.dbl {w : World} {A : Option Addr} {l : List Dbl} (h : Rd w A (flat encD l)) {k : Nat} (hk : k < l.length) :
    ∃ b off, A = some ⟨b, off, none⟩ ∧ b < w.heap.size ∧ w.cell? ⟨b, off + k * 3, none⟩ = some (.int .i64 l[k].a) ∧ w.cell? ⟨b, off + k * 3 + 1, none⟩ = some (.int .i64 l[k].b) ∧ w.cell? ⟨b, off + k * 3 + 2, none⟩ = some (.bool l[k].same) := by
  have F := fun j (hj : j < 3) => flat_get encD 3 encD_len l k l[k] j (List.getElem?_eq_getElem hk) hj
  have f0 : (flat encD l)[k * 3]? = some (.int .i64 l[k].a) := by rw [← Nat.add_zero (k * 3), F 0 (by omega)]; rfl
  have f1 : (flat encD l)[k * 3 + 1]? = some (.int .i64 l[k].b) := by rw [F 1 (by omega)]; rfl
  have f2 : (flat encD l)[k * 3 + 2]? = some (.bool l[k].same) := by rw [F 2 (by omega)]; rfl
  obtain ⟨b, off, e, hb, hc⟩ := h.at_ f0
  exact ⟨b, off, e, hb, hc _ _ f0, by rw [Nat.add_assoc]; exact hc _ _ f1, by rw [Nat.add_assoc]; exact hc _ _ f2⟩
def dbB (x : Dbl) : Bool := inB 0 1000 x.a && inB 0 1000 x.b
def okD (l : List Dbl) : Bool := l.all dbB
/-- The number of the error of a list of doubles, or 0. -/
def dblE (l : List Dbl) : Int := if 200 < l.length then 4 else if okD l then 0 else 2
theorem dblE_cases (l : List Dbl) : dblE l = 0 ∨ dblE l = 2 ∨ dblE l = 4 := by
  unfold dblE
  split
  · exact .inr (.inr rfl)
  · split
    · exact .inl rfl
    · exact .inr (.inl rfl)
theorem dblE_ok {l : List Dbl} (h : dblE l = 0) : l.length ≤ 200 ∧ okD l = true := by
  unfold dblE at h
  split at h
  · omega
  · split at h
    · exact ⟨by omega, by assumption⟩
    · omega
theorem okD_here {l : List Dbl} {k : Nat} (h : k < l.length) (hx : dbB l[k] = false) : okD l = false := by
  rw [Bool.eq_false_iff]
  intro hk
  rw [okD, List.all_eq_true] at hk
  rw [hk _ (List.getElem_mem h)] at hx
  cases hx
theorem okD_take {l : List Dbl} {k : Nat} (h : k < l.length) (hk : okD (l.take k) = true) (hx : dbB l[k] = true) : okD (l.take (k + 1)) = true := by
  rw [okD, List.take_succ_eq_append_getElem h, List.all_append, Bool.and_eq_true]
  exact ⟨hk, by simp [hx]⟩
set_option maxRecDepth 100000 in
set_option maxHeartbeats 2000000 in
theorem checkDoubles_any (A : Option Addr) (l : List Dbl) (n c : Nat) (w : World) (hr : Rd w A (flat encD l)) (hn : n = l.length) (hl : n ≤ 1000000) :
    Calls Try.prog 44 #[.slice A n c] w fun e w' => e = .returned (.int .i64 (dblE l)) ∧ Below w.heap.size w w' := by
  have HN := Lib.hid hn
  have HR := Lib.hid hr
  by_cases h1 : 200 < n
  · have HE := Lib.hid (show dblE l = 4 by unfold dblE; rw [if_pos (by omega)])
    have h1' : (200 : Int) < (n : Int) := by omega
    clear hr hn
    go_enter Try.func44, Try.ntmps44
    go_wp2_with fail
    go_ret
    exact ⟨by rw [HE.out]; rfl, Below.refl _ _⟩
  have HE := Lib.hid (show dblE l = if okD l then 0 else 2 by unfold dblE; rw [if_neg (by omega)])
  have h1' : ¬ (200 : Int) < (n : Int) := by omega
  clear hr hn
  go_enter Try.func44, Try.ntmps44
  go_wp2_with fail
  go_loopg [10] n (fun q u10 wr => ∃ k : Nat, k ≤ n ∧ u10 = .int .i64 (k : Nat) ∧ Hid (k + q = n ∧ okD (l.take k) = true ∧ Own w wr []))
  case atStart => exact ⟨0, Nat.zero_le _, rfl, by omega, rfl, Own.start w⟩
  case round =>
    obtain ⟨k, hk, rfl, hI⟩ := hrel
    have I1 := Lib.hid hI.out.1
    have I3 := Lib.hid hI.out.2.1
    have I2 := Lib.hid hI.out.2.2
    clear hI
    by_cases hlt : k < n
    · have hlt' : k < l.length := by rw [← HN.out]; exact hlt
      obtain ⟨b, off, rfl, hbs, c0, c1, c2⟩ := (HR.out.below I2.out.bel).dbl hlt'
      have HX := Lib.hid (fun h => okD_take hlt' I3.out h)
      have HX2 := Lib.hid (fun h => okD_here hlt' h)
      generalize l[k] = x at *
      obtain ⟨xa, xb, xs⟩ := x
      have hki : (k : Int) < (n : Int) := by omega
      simp only at c0 c1 c2
      clear hlt'
      have I4 := Lib.hid (I2.out.new' 81 #[.int .i64 xa, .int .i64 xb, .bool xs] (B := wr.heap.size) rfl)
      cases hx : (inB 0 1000 xa && inB 0 1000 xb)
      · have HX3 := Lib.hid (HX2.out hx)
        have H2 := Lib.hid hx
        clear hx HX HX2
        go_upto_region 6 with (fail)
        obtain ⟨B1, hB1⟩ : ∃ B1, B1 = wr.heap.size := ⟨_, rfl⟩
        rw [← hB1] at I4 ⊢
        clear hB1
        generalize wr.alloc _ = w1 at *
        obtain ⟨e0, e1, e2, ef⟩ := (I4.out.bx 0 rfl).c3
        have el := (I4.out.bx 0 rfl).2.2
        clear c0 c1 c2 hbs I2
        go_wp2_with fail
        refine (from2 0 1000 xa xb _ _ H2.out rfl).mono ?_
        rintro e w2 ⟨rfl, hb2⟩
        have I5 := Lib.hid (I4.out.ext hb2)
        clear hb2 I4
        go_wp2_with fail
        go_ret
        exact ⟨by rw [HE.out, HX3.out]; rfl, I5.out.bel⟩
      · have HX3 := Lib.hid (HX.out hx)
        have H2 := Lib.hid hx
        clear hx HX HX2
        go_upto_region 6 with (fail)
        obtain ⟨B1, hB1⟩ : ∃ B1, B1 = wr.heap.size := ⟨_, rfl⟩
        rw [← hB1] at I4 ⊢
        clear hB1
        generalize wr.alloc _ = w1 at *
        obtain ⟨e0, e1, e2, ef⟩ := (I4.out.bx 0 rfl).c3
        have el := (I4.out.bx 0 rfl).2.2
        clear c0 c1 c2 hbs I2
        go_wp2_with fail
        refine (from2 0 1000 xa xb _ _ H2.out rfl).mono ?_
        rintro e w2 ⟨rfl, hb2⟩
        have I5 := Lib.hid (I4.out.ext hb2)
        clear hb2 I4
        go_wp2_with fail
        go_roundg (gk - 1)
        case measure => have := I1.out; omega
        case rel => exact ⟨k + 1, by omega, by go_num, by have := I1.out; omega, HX3.out, I5.out.tail⟩
    · have hni : ¬ (k : Int) < (n : Int) := by omega
      have HX := Lib.hid (show okD l = true by have := I3.out; rwa [List.take_of_length_le (by rw [← HN.out]; omega)] at this)
      go_wp2_with fail
      go_ret
      exact ⟨by rw [HE.out, HX.out]; rfl, I2.out.bel⟩
def accB (x : Dbl) (a b : Int) : Bool := decide (x.a ≤ a) && decide (x.b ≤ b)
def accN (l : List Dbl) (a b : Int) : Nat := l.countP fun x => decide (x.a ≤ a) && decide (x.b ≤ b) && !x.same
def refN (l : List Dbl) (a b : Int) : Nat := l.countP fun x => !(decide (x.a ≤ a) && decide (x.b ≤ b)) && x.same
/-- The point of two thresholds. -/
def opF (l : List Dbl) (a b : Int) : Pt := ⟨a, b, accN l a b, refN l a b⟩
theorem accN_take {l : List Dbl} {k : Nat} (h : k < l.length) (a b : Int) : accN (l.take (k + 1)) a b = accN (l.take k) a b + if (accB l[k] a b && !l[k].same) = true then 1 else 0 := by
  unfold accN accB
  rw [List.take_succ_eq_append_getElem h, List.countP_append, List.countP_singleton]
theorem refN_take {l : List Dbl} {k : Nat} (h : k < l.length) (a b : Int) : refN (l.take (k + 1)) a b = refN (l.take k) a b + if (!accB l[k] a b && l[k].same) = true then 1 else 0 := by
  unfold refN accB
  rw [List.take_succ_eq_append_getElem h, List.countP_append, List.countP_singleton]
theorem accN_le (l : List Dbl) (a b : Int) : accN l a b ≤ l.length := List.countP_le_length
theorem refN_le (l : List Dbl) (a b : Int) : refN l a b ≤ l.length := List.countP_le_length
set_option maxRecDepth 100000 in
set_option maxHeartbeats 2000000 in
theorem operate_any (A : Option Addr) (l : List Dbl) (n c : Nat) (a b : Int) (w : World) (hr : Rd w A (flat encD l)) (hn : n = l.length) (hl : n ≤ 1000000) :
    Calls Try.prog 65 #[.slice A n c, .int .i64 a, .int .i64 b] w fun e w' => e = .returned (aggP (opF l a b)) ∧ Below w.heap.size w w' := by
  have HN := Lib.hid hn
  have HR := Lib.hid hr
  clear hr hn
  have S1 := Lib.hid (((Own.start w).new' 68 #[.int .i64 0, .int .i64 0, .int .i64 0, .int .i64 0] (B := w.heap.size) rfl).new' 68 #[.int .i64 a, .int .i64 b, .int .i64 0, .int .i64 0] (B := w.heap.size + 1) (by simp))
  go_enter Try.func65, Try.ntmps65
  go_wp2_with fail
  obtain ⟨B6, hB6⟩ : ∃ B, B = w.heap.size := ⟨_, rfl⟩
  obtain ⟨B7, hB7⟩ : ∃ B, B = B6 + 1 := ⟨_, rfl⟩
  rw [← hB6, ← hB7] at S1 ⊢
  clear hB7
  replace hB6 := Lib.hid hB6
  generalize (w.alloc _).alloc _ = w3 at *
  go_loopg [16] n (fun q u16 wr => ∃ k : Nat, k ≤ n ∧ u16 = .int .i64 (k : Nat) ∧ Hid (k + q = n ∧ Own w wr [box B7 68 [.int .i64 a, .int .i64 b, .int .i64 (accN (l.take k) a b : Nat), .int .i64 (refN (l.take k) a b : Nat)], box B6 68 [.int .i64 0, .int .i64 0, .int .i64 0, .int .i64 0]]))
  case atStart => exact ⟨0, Nat.zero_le _, rfl, by omega, S1.out⟩
  case round =>
    obtain ⟨k, hk, rfl, hI⟩ := hrel
    have I1 := Lib.hid hI.out.1
    have I2 := Lib.hid hI.out.2
    clear hI S1
    by_cases hlt : k < n
    · have hlt' : k < l.length := by rw [← HN.out]; exact hlt
      obtain ⟨bb, off, rfl, hbs, c0, c1, c2⟩ := (HR.out.below I2.out.bel).dbl hlt'
      have HA := Lib.hid (accN_take hlt' a b)
      have HF := Lib.hid (refN_take hlt' a b)
      have ha0 := accN_le (l.take k) a b
      have hf0 := refN_le (l.take k) a b
      rw [List.length_take] at ha0 hf0
      generalize l[k] = x at *
      obtain ⟨xa, xb, xs⟩ := x
      simp only at c0 c1 c2
      simp only [accB] at HA HF
      generalize accN (l.take k) a b = p at *
      generalize refN (l.take k) a b = r at *
      have hki : (k : Int) < (n : Int) := by omega
      have hp : p ≤ 1000000 := by omega
      have hq : r ≤ 1000000 := by omega
      have z1 : IntKind.i64.wrap ((p : Int) + 1) = (p : Int) + 1 := IntWalk.i64_in _ (by omega)
      have z2 : IntKind.i64.wrap ((r : Int) + 1) = (r : Int) + 1 := IntWalk.i64_in _ (by omega)
      clear ha0 hf0 hlt'
      obtain ⟨d0, d1, d2, d3, df⟩ := (I2.out.bx 0 rfl).c4
      have dl := (I2.out.bx 0 rfl).2.2
      by_cases h1 : xa ≤ a
      · by_cases h2 : xb ≤ b
        · rcases xs with _ | _
          · as_aux_lemma =>
            have HA2 := Lib.hid (show (p : Int) + 1 = ((accN (l.take (k + 1)) a b : Nat) : Int) by rw [HA.out]; simp [h1, h2])
            have HF2 := Lib.hid (show (r : Int) = ((refN (l.take (k + 1)) a b : Nat) : Int) by rw [HF.out]; simp [h1, h2])
            go_wp2_with fail
            go_roundg (gk - 1)
            case measure => have := I1.out; omega
            case rel => exact ⟨k + 1, by omega, by go_num, by have := I1.out; omega, by rw [← HA2.out, ← HF2.out]; first | exact ((I2.out.new' 81 #[.int .i64 xa, .int .i64 xb, .bool false] (B := wr.heap.size) rfl).tail).set 0 rfl 2 (.int .i64 ((p : Int) + 1)) | exact ((I2.out.set 0 rfl 2 (.int .i64 ((p : Int) + 1))).new' 81 #[.int .i64 xa, .int .i64 xb, .bool false] (B := wr.heap.size) (by simp)).tail⟩
          · as_aux_lemma =>
            have HA2 := Lib.hid (show (p : Int) = ((accN (l.take (k + 1)) a b : Nat) : Int) by rw [HA.out]; simp [h1, h2])
            have HF2 := Lib.hid (show (r : Int) = ((refN (l.take (k + 1)) a b : Nat) : Int) by rw [HF.out]; simp [h1, h2])
            go_wp2_with fail
            go_roundg (gk - 1)
            case measure => have := I1.out; omega
            case rel => exact ⟨k + 1, by omega, by go_num, by have := I1.out; omega, by rw [← HA2.out, ← HF2.out]; exact (I2.out.new' 81 #[.int .i64 xa, .int .i64 xb, .bool true] (B := wr.heap.size) rfl).tail⟩
        · rcases xs with _ | _
          · as_aux_lemma =>
            have HA2 := Lib.hid (show (p : Int) = ((accN (l.take (k + 1)) a b : Nat) : Int) by rw [HA.out]; simp [h1, h2])
            have HF2 := Lib.hid (show (r : Int) = ((refN (l.take (k + 1)) a b : Nat) : Int) by rw [HF.out]; simp [h1, h2])
            go_wp2_with fail
            go_roundg (gk - 1)
            case measure => have := I1.out; omega
            case rel => exact ⟨k + 1, by omega, by go_num, by have := I1.out; omega, by rw [← HA2.out, ← HF2.out]; exact (I2.out.new' 81 #[.int .i64 xa, .int .i64 xb, .bool false] (B := wr.heap.size) rfl).tail⟩
          · as_aux_lemma =>
            have HA2 := Lib.hid (show (p : Int) = ((accN (l.take (k + 1)) a b : Nat) : Int) by rw [HA.out]; simp [h1, h2])
            have HF2 := Lib.hid (show (r : Int) + 1 = ((refN (l.take (k + 1)) a b : Nat) : Int) by rw [HF.out]; simp [h1, h2])
            go_wp2_with fail
            go_roundg (gk - 1)
            case measure => have := I1.out; omega
            case rel => exact ⟨k + 1, by omega, by go_num, by have := I1.out; omega, by rw [← HA2.out, ← HF2.out]; first | exact ((I2.out.new' 81 #[.int .i64 xa, .int .i64 xb, .bool true] (B := wr.heap.size) rfl).tail).set 0 rfl 3 (.int .i64 ((r : Int) + 1)) | exact ((I2.out.set 0 rfl 3 (.int .i64 ((r : Int) + 1))).new' 81 #[.int .i64 xa, .int .i64 xb, .bool true] (B := wr.heap.size) (by simp)).tail⟩
      · by_cases h2 : xb ≤ b
        · rcases xs with _ | _
          · as_aux_lemma =>
            have HA2 := Lib.hid (show (p : Int) = ((accN (l.take (k + 1)) a b : Nat) : Int) by rw [HA.out]; simp [h1, h2])
            have HF2 := Lib.hid (show (r : Int) = ((refN (l.take (k + 1)) a b : Nat) : Int) by rw [HF.out]; simp [h1, h2])
            go_wp2_with fail
            go_roundg (gk - 1)
            case measure => have := I1.out; omega
            case rel => exact ⟨k + 1, by omega, by go_num, by have := I1.out; omega, by rw [← HA2.out, ← HF2.out]; exact (I2.out.new' 81 #[.int .i64 xa, .int .i64 xb, .bool false] (B := wr.heap.size) rfl).tail⟩
          · as_aux_lemma =>
            have HA2 := Lib.hid (show (p : Int) = ((accN (l.take (k + 1)) a b : Nat) : Int) by rw [HA.out]; simp [h1, h2])
            have HF2 := Lib.hid (show (r : Int) + 1 = ((refN (l.take (k + 1)) a b : Nat) : Int) by rw [HF.out]; simp [h1, h2])
            go_wp2_with fail
            go_roundg (gk - 1)
            case measure => have := I1.out; omega
            case rel => exact ⟨k + 1, by omega, by go_num, by have := I1.out; omega, by rw [← HA2.out, ← HF2.out]; first | exact ((I2.out.new' 81 #[.int .i64 xa, .int .i64 xb, .bool true] (B := wr.heap.size) rfl).tail).set 0 rfl 3 (.int .i64 ((r : Int) + 1)) | exact ((I2.out.set 0 rfl 3 (.int .i64 ((r : Int) + 1))).new' 81 #[.int .i64 xa, .int .i64 xb, .bool true] (B := wr.heap.size) (by simp)).tail⟩
        · rcases xs with _ | _
          · as_aux_lemma =>
            have HA2 := Lib.hid (show (p : Int) = ((accN (l.take (k + 1)) a b : Nat) : Int) by rw [HA.out]; simp [h1, h2])
            have HF2 := Lib.hid (show (r : Int) = ((refN (l.take (k + 1)) a b : Nat) : Int) by rw [HF.out]; simp [h1, h2])
            go_wp2_with fail
            go_roundg (gk - 1)
            case measure => have := I1.out; omega
            case rel => exact ⟨k + 1, by omega, by go_num, by have := I1.out; omega, by rw [← HA2.out, ← HF2.out]; exact (I2.out.new' 81 #[.int .i64 xa, .int .i64 xb, .bool false] (B := wr.heap.size) rfl).tail⟩
          · as_aux_lemma =>
            have HA2 := Lib.hid (show (p : Int) = ((accN (l.take (k + 1)) a b : Nat) : Int) by rw [HA.out]; simp [h1, h2])
            have HF2 := Lib.hid (show (r : Int) + 1 = ((refN (l.take (k + 1)) a b : Nat) : Int) by rw [HF.out]; simp [h1, h2])
            go_wp2_with fail
            go_roundg (gk - 1)
            case measure => have := I1.out; omega
            case rel => exact ⟨k + 1, by omega, by go_num, by have := I1.out; omega, by rw [← HA2.out, ← HF2.out]; first | exact ((I2.out.new' 81 #[.int .i64 xa, .int .i64 xb, .bool true] (B := wr.heap.size) rfl).tail).set 0 rfl 3 (.int .i64 ((r : Int) + 1)) | exact ((I2.out.set 0 rfl 3 (.int .i64 ((r : Int) + 1))).new' 81 #[.int .i64 xa, .int .i64 xb, .bool true] (B := wr.heap.size) (by simp)).tail⟩
    · have hni : ¬ (k : Int) < (n : Int) := by omega
      have HA := Lib.hid (show l.take k = l by rw [List.take_of_length_le (by rw [← HN.out]; omega)])
      rw [HA.out] at I2
      obtain ⟨c0, c1, c2, c3, cf⟩ := (I2.out.bx 0 rfl).c4
      obtain ⟨d0, d1, d2, d3, df⟩ := (I2.out.bx 1 rfl).c4
      have dl := (I2.out.bx 1 rfl).2.2
      go_wp2_with fail
      have S9 := Lib.hid ((((I2.out.set 1 rfl 0 (.int .i64 a)).set 1 rfl 1 (.int .i64 b)).set 1 rfl 2 (.int .i64 (accN l a b : Nat))).set 1 rfl 3 (.int .i64 (refN l a b : Nat)))
      obtain ⟨q0, q1, q2, q3, _⟩ := (S9.out.bx 1 rfl).c4
      refine bodyPost_ret (v := aggP (opF l a b)) (by simp [results, Try.results65, go_sem, q0, q1, q2, q3, aggP, opF]) rfl ⟨rfl, S9.out.bel⟩
end Go.Proofs.Ytnalbchggjepdaa
