/- Sketch: message, sketch, template of the program; Template, SameWords of the reference. No condition. -/
import Derived.Test.YtnienfgaidccpaaDoorKe
namespace Go.Proofs.YtnienfgaidccpaaDoor
open Go.RowKit Go.Shelf
attribute [local go_sem] Oper.semAt_some

def u16s (l : List Nat) : List Value := l.map fun x => .int .u16 (x : Nat)
theorem u16s_len (l : List Nat) : (u16s l).length = l.length := by simp [u16s]
theorem u16s_get {l : List Nat} {k : Nat} (h : k < l.length) : (u16s l)[k]? = some (.int .u16 (l[k] : Nat)) := by simp [u16s, h]
def W16 (l : List Nat) : Prop := ∀ x ∈ l, x < 65536
theorem W16.at_ {l : List Nat} (h : W16 l) {k : Nat} (hk : k < l.length) : l[k] < 65536 := h _ (List.getElem_mem hk)
theorem Rd.u16 {w : World} {A : Option Addr} {l : List Nat} (h : Rd w A (u16s l)) {k : Nat} (hk : k < l.length) : ∃ b off, A = some ⟨b, off, none⟩ ∧ w.cell? ⟨b, off + k, none⟩ = some (.int .u16 (l[k] : Nat)) ∧ b < w.heap.size := by
  obtain ⟨b, off, e, hb, hc⟩ := h.at_ (u16s_get hk)
  exact ⟨b, off, e, hc k _ (u16s_get hk), hb⟩
/-- The number of the first element for which p does not hold, or -1. -/
def outP (p : Nat → Bool) : List Nat → Nat → Int
  | [], _ => -1
  | x :: l, k => if p x then outP p l (k + 1) else k
theorem outP_all (p : Nat → Bool) : ∀ (l : List Nat) (k : Nat), decide (0 ≤ outP p l k) = !l.all p
  | [], _ => rfl
  | x :: l, k => by
    rw [outP, List.all_cons]
    cases h : p x
    · simp
    · simpa using outP_all p l (k + 1)
set_option maxRecDepth 100000 in
theorem cl_msg (c : Kd) (hc : c.ok) (b : Nat) (m : Nat) (w : World) (hb : Box w b [.int .u16 c.g, .int .i64 c.k, .int .i64 c.t]) :
    Calls Tryd.prog 91 #[.int .u16 (m : Nat), .pointer (some ⟨b, 0, none⟩)] w fun e w' => e = .returned (.bool (!decide (m < 2 ^ c.k))) ∧ w = w' := by
  have hs := hc.sum
  obtain ⟨s1, s2, s3, s4, s5, s6⟩ := hs
  obtain ⟨t0, t1, t2, _⟩ := hb.c3
  have lt := hb.2.2
  have b2 : (c.k : Int) ≤ 16 := by omega
  have hp : 2 ^ c.k < 2 ^ 15 := Nat.pow_lt_pow_right (by decide) (by omega)
  have hpc := pow_cast c.k
  obtain ⟨Q, hQ⟩ : ∃ Q, Q = 2 ^ c.k := ⟨_, rfl⟩
  rw [← hQ] at hp hpc ⊢
  have e4 : IntKind.u16.wrap ((2 : Int) ^ c.k) = Q := by rw [hpc]; exact IntWalk.u16_in _ (by omega)
  have e5 : IntKind.u16.wrap (1 * (2 : Int) ^ c.k) = Q := by rw [Int.one_mul, e4]
  have HB := Lib.hid (show (!decide (m < Q)) = decide (Q ≤ m) by by_cases h : m < Q <;> simp [h] <;> omega)
  clear hpc hQ
  go_enter Tryd.func91, Tryd.ntmps91
  go_wp2_with fail
  go_ret
  exact ⟨by rw [HB.out]; rfl, rfl⟩
set_option maxRecDepth 100000 in
set_option maxHeartbeats 1000000 in
theorem ix_msg (c : Kd) (hc : c.ok) (b : Nat) (l : List Nat) (A : Option Addr) (n cp : Nat) (w : World) (hr : Rd w A (u16s l)) (hn : n = l.length) (hbig : n ≤ 4611686018427387904) (hb : Box w b [.int .u16 c.g, .int .i64 c.k, .int .i64 c.t]) :
    Calls Tryd.prog 102 #[.slice A n cp, .func (.func 91) #[] #[.pointer (some ⟨b, 0, none⟩)]] w fun e w' => e = .returned (.int .i64 (outP (fun m => decide (m < 2 ^ c.k)) l 0)) ∧ w = w' := by
  have HC := Lib.hid (fun m => cl_msg c hc b m w hb)
  have HR := Lib.hid hr
  have HN := Lib.hid hn
  obtain ⟨p, hp⟩ : ∃ p : Nat → Bool, p = fun m => decide (m < 2 ^ c.k) := ⟨_, rfl⟩
  have HP := Lib.hid (show ∀ m, decide (m < 2 ^ c.k) = p m from fun m => by rw [hp])
  rw [← hp]
  clear hr hn hb hp
  go_enter Tryd.func102, Tryd.ntmps102
  go_wp2_with fail
  go_loopg [8] n (fun q u8 wr => ∃ i : Nat, i ≤ n ∧ u8 = .int .i64 (i : Nat) ∧ Hid (i + q = n ∧ wr = w ∧ outP p l 0 = outP p (l.drop i) i))
  case atStart => exact ⟨0, by omega, rfl, by omega, rfl, by rw [List.drop_zero]⟩
  case round =>
    obtain ⟨i, hi, rfl, hI⟩ := hrel
    have I1 := Lib.hid hI.out.1
    have hwr := hI.out.2.1
    have I3 := Lib.hid hI.out.2.2
    clear hI
    subst hwr
    by_cases hlt : i < n
    case neg => as_aux_lemma =>
      have HE := Lib.hid (show outP p l 0 = -1 by rw [I3.out, List.drop_eq_nil_of_le (by have := HN.out; omega)]; rfl)
      have hni : ¬ (i : Int) < (n : Int) := by omega
      go_wp2_with fail
      go_ret
      exact ⟨by rw [HE.out]; rfl, rfl⟩
    have hil : i < l.length := by rw [← HN.out]; exact hlt
    have hix : (i : Int) < (n : Int) := by omega
    obtain ⟨b0, off, rfl, k0, l0⟩ := HR.out.u16 hil
    have HC1 := Lib.hid (HC.out l[i])
    have HD := Lib.hid (show outP p (l.drop i) i = if p l[i] then outP p (l.drop (i + 1)) (i + 1) else i by rw [List.drop_eq_getElem_cons hil]; rfl)
    have hpl := HP.out l[i]
    rw [hpl] at HC1
    generalize l[i] = x at *
    rcases hpx : p x with _ | _
    all_goals rw [hpx] at HC1 HD
    · as_aux_lemma =>
      have HE := Lib.hid (show outP p l 0 = i by rw [I3.out, HD.out]; rfl)
      clear hpl hpx
      go_wp2_with fail
      refine HC1.out.mono ?_
      rintro e w1 ⟨rfl, rfl⟩
      go_wp2_with fail
      go_ret
      exact ⟨by rw [HE.out]; rfl, rfl⟩
    · as_aux_lemma =>
      have HE := Lib.hid (show outP p l 0 = outP p (l.drop (i + 1)) (i + 1) by rw [I3.out, HD.out]; rfl)
      clear hpl hpx
      go_wp2_with fail
      refine HC1.out.mono ?_
      rintro e w1 ⟨rfl, rfl⟩
      go_wp2_with fail
      go_roundg (gk - 1)
      case measure => have := I1.out; omega
      case rel => exact ⟨i + 1, by omega, by go_num, by have := I1.out; omega, rfl, HE.out⟩
theorem cf_msg (c : Kd) (hc : c.ok) (b : Nat) (l : List Nat) (A : Option Addr) (n cp : Nat) (w : World) (hr : Rd w A (u16s l)) (hn : n = l.length) (hbig : n ≤ 4611686018427387904) (hb : Box w b [.int .u16 c.g, .int .i64 c.k, .int .i64 c.t]) :
    Calls Tryd.prog 88 #[.slice A n cp, .func (.func 91) #[] #[.pointer (some ⟨b, 0, none⟩)]] w fun e w' => e = .returned (.bool (!l.all fun m => decide (m < 2 ^ c.k))) ∧ w = w' := by
  have HC := Lib.hid (ix_msg c hc b l A n cp w hr hn hbig hb)
  have HA := Lib.hid (outP_all (fun m => decide (m < 2 ^ c.k)) l 0)
  generalize outP (fun m => decide (m < 2 ^ c.k)) l 0 = v at *
  clear hr hn hbig hb
  go_enter Tryd.func88, Tryd.ntmps88
  go_wp2_with fail
  refine HC.out.mono ?_
  rintro e w1 ⟨rfl, rfl⟩
  go_wp2_with fail
  go_ret
  exact ⟨by rw [← HA.out]; rfl, rfl⟩
theorem message_any (c : Kd) (hc : c.ok) (l : List Nat) (A : Option Addr) (n cp : Nat) (w : World) (hr : Rd w A (u16s l)) (hn : n = l.length) (hbig : n ≤ 4611686018427387904) :
    Calls Tryd.prog 66 #[kdV c, .slice A n cp] w fun e w' => e = .returned (.bool (l.all fun m => decide (m < 2 ^ c.k))) ∧ Below w.heap.size w w' := by
  have S0 := Lib.hid ((Own.start w).new 94 #[.int .u16 c.g, .int .i64 c.k, .int .i64 c.t])
  have HC := Lib.hid (cf_msg c hc w.heap.size l A n cp _ (hr.below S0.out.bel) hn hbig (S0.out.bx 0 rfl))
  generalize (l.all fun m => decide (m < 2 ^ c.k)) = v at *
  clear hr hn hbig
  unfold kdV
  go_enter Tryd.func66, Tryd.ntmps66
  go_wp2_with fail
  refine HC.out.mono ?_
  rintro e w1 ⟨rfl, rfl⟩
  cases v
  all_goals
    go_wp2_with fail
    go_ret
    exact ⟨rfl, S0.out.bel⟩
set_option maxRecDepth 100000 in
theorem cl_skt (c : Kd) (hc : c.ok) (b : Nat) (m : Nat) (w : World) (hb : Box w b [.int .u16 c.g, .int .i64 c.k, .int .i64 c.t]) :
    Calls Tryd.prog 89 #[.int .u16 (m : Nat), .pointer (some ⟨b, 0, none⟩)] w fun e w' => e = .returned (.bool (!decide (m < 2 ^ c.f))) ∧ w = w' := by
  have hs := hc.sum
  obtain ⟨s1, s2, s3, s4, s5, s6⟩ := hs
  obtain ⟨t0, t1, t2, _⟩ := hb.c3
  have lt := hb.2.2
  have e3 : IntKind.i64.wrap (15 - (c.k : Int)) = c.f := by rw [IntWalk.i64_in _ (by omega)]; omega
  have b1 : 0 ≤ (c.f : Int) := by omega
  have b2 : (c.f : Int) ≤ 16 := by omega
  have hp : 2 ^ c.f < 2 ^ 15 := Nat.pow_lt_pow_right (by decide) (by omega)
  have hpc := pow_cast c.f
  obtain ⟨Q, hQ⟩ : ∃ Q, Q = 2 ^ c.f := ⟨_, rfl⟩
  rw [← hQ] at hp hpc ⊢
  have e4 : IntKind.u16.wrap ((2 : Int) ^ c.f) = Q := by rw [hpc]; exact IntWalk.u16_in _ (by omega)
  have e5 : IntKind.u16.wrap (1 * (2 : Int) ^ c.f) = Q := by rw [Int.one_mul, e4]
  have HB := Lib.hid (show (!decide (m < Q)) = decide (Q ≤ m) by by_cases h : m < Q <;> simp [h] <;> omega)
  clear hpc hQ
  go_enter Tryd.func89, Tryd.ntmps89
  go_wp2_with fail
  go_ret
  exact ⟨by rw [HB.out]; rfl, rfl⟩
set_option maxRecDepth 100000 in
set_option maxHeartbeats 1000000 in
theorem ix_skt (c : Kd) (hc : c.ok) (b : Nat) (l : List Nat) (A : Option Addr) (n cp : Nat) (w : World) (hr : Rd w A (u16s l)) (hn : n = l.length) (hbig : n ≤ 4611686018427387904) (hb : Box w b [.int .u16 c.g, .int .i64 c.k, .int .i64 c.t]) :
    Calls Tryd.prog 102 #[.slice A n cp, .func (.func 89) #[] #[.pointer (some ⟨b, 0, none⟩)]] w fun e w' => e = .returned (.int .i64 (outP (fun m => decide (m < 2 ^ c.f)) l 0)) ∧ w = w' := by
  have HC := Lib.hid (fun m => cl_skt c hc b m w hb)
  have HR := Lib.hid hr
  have HN := Lib.hid hn
  obtain ⟨p, hp⟩ : ∃ p : Nat → Bool, p = fun m => decide (m < 2 ^ c.f) := ⟨_, rfl⟩
  have HP := Lib.hid (show ∀ m, decide (m < 2 ^ c.f) = p m from fun m => by rw [hp])
  rw [← hp]
  clear hr hn hb hp
  go_enter Tryd.func102, Tryd.ntmps102
  go_wp2_with fail
  go_loopg [8] n (fun q u8 wr => ∃ i : Nat, i ≤ n ∧ u8 = .int .i64 (i : Nat) ∧ Hid (i + q = n ∧ wr = w ∧ outP p l 0 = outP p (l.drop i) i))
  case atStart => exact ⟨0, by omega, rfl, by omega, rfl, by rw [List.drop_zero]⟩
  case round =>
    obtain ⟨i, hi, rfl, hI⟩ := hrel
    have I1 := Lib.hid hI.out.1
    have hwr := hI.out.2.1
    have I3 := Lib.hid hI.out.2.2
    clear hI
    subst hwr
    by_cases hlt : i < n
    case neg => as_aux_lemma =>
      have HE := Lib.hid (show outP p l 0 = -1 by rw [I3.out, List.drop_eq_nil_of_le (by have := HN.out; omega)]; rfl)
      have hni : ¬ (i : Int) < (n : Int) := by omega
      go_wp2_with fail
      go_ret
      exact ⟨by rw [HE.out]; rfl, rfl⟩
    have hil : i < l.length := by rw [← HN.out]; exact hlt
    have hix : (i : Int) < (n : Int) := by omega
    obtain ⟨b0, off, rfl, k0, l0⟩ := HR.out.u16 hil
    have HC1 := Lib.hid (HC.out l[i])
    have HD := Lib.hid (show outP p (l.drop i) i = if p l[i] then outP p (l.drop (i + 1)) (i + 1) else i by rw [List.drop_eq_getElem_cons hil]; rfl)
    have hpl := HP.out l[i]
    rw [hpl] at HC1
    generalize l[i] = x at *
    rcases hpx : p x with _ | _
    all_goals rw [hpx] at HC1 HD
    · as_aux_lemma =>
      have HE := Lib.hid (show outP p l 0 = i by rw [I3.out, HD.out]; rfl)
      clear hpl hpx
      go_wp2_with fail
      refine HC1.out.mono ?_
      rintro e w1 ⟨rfl, rfl⟩
      go_wp2_with fail
      go_ret
      exact ⟨by rw [HE.out]; rfl, rfl⟩
    · as_aux_lemma =>
      have HE := Lib.hid (show outP p l 0 = outP p (l.drop (i + 1)) (i + 1) by rw [I3.out, HD.out]; rfl)
      clear hpl hpx
      go_wp2_with fail
      refine HC1.out.mono ?_
      rintro e w1 ⟨rfl, rfl⟩
      go_wp2_with fail
      go_roundg (gk - 1)
      case measure => have := I1.out; omega
      case rel => exact ⟨i + 1, by omega, by go_num, by have := I1.out; omega, rfl, HE.out⟩
theorem cf_skt (c : Kd) (hc : c.ok) (b : Nat) (l : List Nat) (A : Option Addr) (n cp : Nat) (w : World) (hr : Rd w A (u16s l)) (hn : n = l.length) (hbig : n ≤ 4611686018427387904) (hb : Box w b [.int .u16 c.g, .int .i64 c.k, .int .i64 c.t]) :
    Calls Tryd.prog 88 #[.slice A n cp, .func (.func 89) #[] #[.pointer (some ⟨b, 0, none⟩)]] w fun e w' => e = .returned (.bool (!l.all fun m => decide (m < 2 ^ c.f))) ∧ w = w' := by
  have HC := Lib.hid (ix_skt c hc b l A n cp w hr hn hbig hb)
  have HA := Lib.hid (outP_all (fun m => decide (m < 2 ^ c.f)) l 0)
  generalize outP (fun m => decide (m < 2 ^ c.f)) l 0 = v at *
  clear hr hn hbig hb
  go_enter Tryd.func88, Tryd.ntmps88
  go_wp2_with fail
  refine HC.out.mono ?_
  rintro e w1 ⟨rfl, rfl⟩
  go_wp2_with fail
  go_ret
  exact ⟨by rw [← HA.out]; rfl, rfl⟩
theorem sketch_any (c : Kd) (hc : c.ok) (l : List Nat) (A : Option Addr) (n cp : Nat) (w : World) (hr : Rd w A (u16s l)) (hn : n = l.length) (hbig : n ≤ 4611686018427387904) :
    Calls Tryd.prog 61 #[kdV c, .slice A n cp] w fun e w' => e = .returned (.bool (l.all fun m => decide (m < 2 ^ c.f))) ∧ Below w.heap.size w w' := by
  have S0 := Lib.hid ((Own.start w).new 94 #[.int .u16 c.g, .int .i64 c.k, .int .i64 c.t])
  have HC := Lib.hid (cf_skt c hc w.heap.size l A n cp _ (hr.below S0.out.bel) hn hbig (S0.out.bx 0 rfl))
  generalize (l.all fun m => decide (m < 2 ^ c.f)) = v at *
  clear hr hn hbig
  unfold kdV
  go_enter Tryd.func61, Tryd.ntmps61
  go_wp2_with fail
  refine HC.out.mono ?_
  rintro e w1 ⟨rfl, rfl⟩
  cases v
  all_goals
    go_wp2_with fail
    go_ret
    exact ⟨rfl, S0.out.bel⟩
/-- The greatest. -/
def maxU (l : List Nat) : Nat := l.foldl max 0
theorem maxU_snoc (l : List Nat) (x : Nat) : maxU (l ++ [x]) = max (maxU l) x := by simp [maxU]
theorem maxU_le : ∀ (l : List Nat) (k : Nat), k ≤ l.foldl max k ∧ (∀ x ∈ l, x ≤ l.foldl max k) ∧ ∀ b, k < b → (∀ x ∈ l, x < b) → l.foldl max k < b
  | [], k => ⟨by simp, by simp, fun b h _ => by simpa using h⟩
  | y :: l, k => by
    obtain ⟨a2, a3, a4⟩ := maxU_le l (max k y)
    refine ⟨by simp only [List.foldl_cons]; omega, fun x hx => ?_, fun b h1 h2 => ?_⟩
    · simp only [List.foldl_cons]
      rcases List.mem_cons.1 hx with e | hx
      · subst e; omega
      · exact a3 x hx
    · simp only [List.foldl_cons]
      exact a4 b (by have := h2 y (by simp); omega) fun x hx => h2 x (by simp [hx])
theorem maxU_lt {l : List Nat} {b : Nat} (h0 : 0 < b) : decide (maxU l < b) = l.all fun x => decide (x < b) := by
  obtain ⟨_, h3, h4⟩ := maxU_le l 0
  by_cases h : maxU l < b
  · rw [decide_eq_true h]
    symm
    rw [List.all_eq_true]
    exact fun x hx => by simpa using Nat.lt_of_le_of_lt (h3 x hx) h
  · rw [decide_eq_false h]
    symm
    rw [Bool.eq_false_iff]
    intro ha
    rw [List.all_eq_true] at ha
    exact h (h4 b h0 fun x hx => by simpa using ha x hx)
def tmplB (l : List Nat) : Bool := (decide (1 ≤ l.length) && decide (l.length ≤ 4)) && l.all fun x => decide (x < 32768)
set_option maxRecDepth 100000 in
set_option maxHeartbeats 1000000 in
theorem max_any (l : List Nat) (A : Option Addr) (n cp : Nat) (w : World) (hr : Rd w A (u16s l)) (hn : n = l.length) (h1 : 1 ≤ n) (h4 : n ≤ 4) :
    Calls Tryd.prog 85 #[.slice A n cp] w fun e w' => e = .returned (.int .u16 (maxU l : Nat)) ∧ w = w' := by
  have h0 : 0 < l.length := by omega
  obtain ⟨b0, off, rfl, k0, l0⟩ := hr.u16 h0
  have HR := Lib.hid hr
  have HN := Lib.hid hn
  simp only [Nat.add_zero] at k0
  have HM0 := Lib.hid (show l[0] = maxU (l.take 1) by cases l with
    | nil => simp at h0
    | cons x l => simp [maxU])
  have HMA := Lib.hid (show maxU (l.take n) = maxU l by rw [hn, List.take_length])
  generalize l[0] = x0 at *
  clear hr hn
  go_enter Tryd.func85, Tryd.ntmps85
  go_wp2_with fail
  go_loopg [3, 4] n (fun q u3 u4 wr => ∃ i m : Nat, 1 ≤ i ∧ i ≤ n ∧ u3 = .int .u16 (m : Nat) ∧ u4 = .int .i64 (i : Nat) ∧ Hid (m = maxU (l.take i) ∧ i + q = n + 1 ∧ wr = w))
  case atStart => exact ⟨1, x0, by omega, by omega, rfl, rfl, HM0.out, by omega, rfl⟩
  case round =>
    obtain ⟨i, m, hi1, hi2, rfl, rfl, hI⟩ := hrel
    have I1 := Lib.hid hI.out.1
    have I2 := Lib.hid hI.out.2.1
    have hwr := hI.out.2.2
    clear hI
    subst hwr
    by_cases hlt : i < n
    case neg => as_aux_lemma =>
      have HE := Lib.hid (show m = maxU l by rw [I1.out, ← HMA.out]; congr 2; omega)
      have hni : ¬ (i : Int) < (n : Int) := by omega
      go_wp2_with fail
      go_ret
      exact ⟨by rw [← HE.out]; rfl, rfl⟩
    have hil : i < l.length := by rw [← HN.out]; exact hlt
    have hix : (i : Int) < (n : Int) := by omega
    obtain ⟨b1, off1, he, k1, l1⟩ := HR.out.u16 hil
    injection he with he
    injection he with he1 he2
    subst he1; subst he2
    have HX := Lib.hid (show max m l[i] = maxU (l.take (i + 1)) by rw [List.take_add_one, List.getElem?_eq_getElem hil]; simp only [Option.toList_some]; rw [maxU_snoc, ← I1.out])
    generalize l[i] = x at *
    have HC := Lib.hid (show max (m : Int) (x : Int) = ((max m x : Nat) : Int) by omega)
    as_aux_lemma =>
    go_wp2_with fail
    go_roundg (gk - 1)
    case measure => have := I2.out; omega
    case rel => exact ⟨i + 1, max m x, by omega, by omega, by rw [HC.out], by go_num, HX.out, by have := I2.out; omega, rfl⟩
set_option maxRecDepth 100000 in
theorem template_any (l : List Nat) (A : Option Addr) (n cp : Nat) (w : World) (hr : Rd w A (u16s l)) (hn : n = l.length) :
    Calls Tryd.prog 58 #[.slice A n cp] w fun e w' => e = .returned (.bool (tmplB l)) ∧ w = w' := by
  by_cases h1 : 1 ≤ n
  · by_cases h4 : n ≤ 4
    · have HM := Lib.hid (max_any l A n cp w hr hn h1 h4)
      have HT := Lib.hid (show tmplB l = decide (maxU l < 32768) by rw [tmplB, maxU_lt (by decide), ← hn]; simp [h1, h4])
      have HML := Lib.hid (show decide (maxU l < 32768) = decide ((maxU l : Int) < 32768) by rw [decide_eq_decide]; omega)
      generalize maxU l = m at *
      clear hr hn
      have g1 : (1 : Int) ≤ (n : Int) := by omega
      have g4 : (n : Int) ≤ 4 := by omega
      go_enter Tryd.func58, Tryd.ntmps58
      go_wp2_with fail
      refine HM.out.mono ?_
      rintro e w1 ⟨rfl, rfl⟩
      go_wp2_with fail
      go_ret
      refine ⟨?_, rfl⟩
      rw [HT.out]
      simp
      omega
    · have HT := Lib.hid (show tmplB l = false by rw [tmplB, ← hn]; simp [h4])
      clear hr hn
      have g1 : (1 : Int) ≤ (n : Int) := by omega
      have g4 : ¬ (n : Int) ≤ 4 := by omega
      go_enter Tryd.func58, Tryd.ntmps58
      go_wp2_with fail
      go_ret
      exact ⟨by rw [HT.out]; rfl, rfl⟩
  · have HT := Lib.hid (show tmplB l = false by rw [tmplB, ← hn]; simp [h1])
    clear hr hn
    have g1 : ¬ (1 : Int) ≤ (n : Int) := by omega
    go_enter Tryd.func58, Tryd.ntmps58
    go_wp2_with fail
    go_ret
    exact ⟨by rw [HT.out]; rfl, rfl⟩
set_option maxRecDepth 100000 in
set_option maxHeartbeats 1000000 in
theorem refTemplate_any (l : List Nat) (A : Option Addr) (n cp : Nat) (w : World) (hr : Rd w A (u16s l)) (hn : n = l.length) :
    Calls Tryd.prog 46 #[.slice A n cp] w fun e w' => e = .returned (.bool (tmplB l)) ∧ w = w' := by
  by_cases h14 : 1 ≤ n ∧ n ≤ 4
  case neg => as_aux_lemma =>
    have HT := Lib.hid (show tmplB l = false by
      rw [tmplB, ← hn]
      by_cases h1 : 1 ≤ n
      · have : ¬ n ≤ 4 := fun h => h14 ⟨h1, h⟩
        simp [this]
      · simp [h1])
    clear hr hn
    have g : (n : Int) < 1 ∨ (¬ (n : Int) < 1 ∧ 4 < (n : Int)) := by omega
    rcases g with g | ⟨g, g2⟩
    all_goals
      go_enter Tryd.func46, Tryd.ntmps46
      go_wp2_with fail
      go_ret
      exact ⟨by rw [HT.out]; rfl, rfl⟩
  obtain ⟨h1, h4⟩ := h14
  have g1 : ¬ (n : Int) < 1 := by omega
  have g4 : ¬ (4 : Int) < (n : Int) := by omega
  have HR := Lib.hid hr
  have HN := Lib.hid hn
  have HT := Lib.hid (show tmplB l = l.all fun x => decide (x < 32768) by rw [tmplB, ← hn]; simp [h1, h4])
  clear hr hn
  go_enter Tryd.func46, Tryd.ntmps46
  go_wp2_with fail
  go_loopg [3] n (fun q u3 wr => ∃ i : Nat, i ≤ n ∧ u3 = .int .i64 (i : Nat) ∧ Hid (tmplB l = (l.drop i).all (fun x => decide (x < 32768)) ∧ i + q = n ∧ wr = w))
  case atStart => exact ⟨0, by omega, rfl, by rw [List.drop_zero]; exact HT.out, by omega, rfl⟩
  case round =>
    obtain ⟨i, hi, rfl, hI⟩ := hrel
    have I1 := Lib.hid hI.out.1
    have I2 := Lib.hid hI.out.2.1
    have hwr := hI.out.2.2
    clear hI
    subst hwr
    by_cases hlt : i < n
    case neg => as_aux_lemma =>
      have HE := Lib.hid (show tmplB l = true by rw [I1.out, List.drop_eq_nil_of_le (by have := HN.out; omega)]; rfl)
      have hni : ¬ (i : Int) < (n : Int) := by omega
      go_wp2_with fail
      go_ret
      exact ⟨by rw [HE.out]; rfl, rfl⟩
    have hil : i < l.length := by rw [← HN.out]; exact hlt
    have hix : (i : Int) < (n : Int) := by omega
    obtain ⟨b0, off, rfl, k0, l0⟩ := HR.out.u16 hil
    have HD := Lib.hid (show tmplB l = (decide (l[i] < 32768) && (l.drop (i + 1)).all fun x => decide (x < 32768)) by rw [I1.out, List.drop_eq_getElem_cons hil, List.all_cons])
    generalize l[i] = x at *
    by_cases hx : x < 32768
    · as_aux_lemma =>
      have HE := Lib.hid (show tmplB l = (l.drop (i + 1)).all fun x => decide (x < 32768) by rw [HD.out]; simp [hx])
      have hx2 : ¬ (32768 : Int) ≤ (x : Int) := by omega
      go_wp2_with fail
      go_roundg (gk - 1)
      case measure => have := I2.out; omega
      case rel => exact ⟨i + 1, by omega, by go_num, HE.out, by have := I2.out; omega, rfl⟩
    · as_aux_lemma =>
      have HE := Lib.hid (show tmplB l = false by rw [HD.out]; simp [hx])
      have hx2 : (32768 : Int) ≤ (x : Int) := by omega
      go_wp2_with fail
      go_ret
      exact ⟨by rw [HE.out]; rfl, rfl⟩
end Go.Proofs.YtnienfgaidccpaaDoor
