/- Sketch: the reference's numbers, sets, values, agreements. No condition. -/
import Derived.Test.YtnienfgaidccpaaLf
namespace Go.Proofs.Ytnienfgaidccpaa
open Go.RowKit Go.Shelf
attribute [local go_sem] Oper.semAt_some

set_option maxRecDepth 100000 in
theorem within_any (n lo hi : Int) (w : World) : Calls Try.prog 18 #[.int .i64 n, .int .i64 lo, .int .i64 hi] w fun e w' => e = .returned (.bool (decide (lo ≤ n ∧ n ≤ hi))) ∧ w = w' := by
  obtain ⟨v, hv⟩ : ∃ v, v = decide (lo ≤ n ∧ n ≤ hi) := ⟨_, rfl⟩
  rw [← hv]
  by_cases h1 : lo ≤ n
  · by_cases h2 : n ≤ hi
    · have HV := Lib.hid (show v = true by rw [hv]; simp [h1, h2])
      clear hv
      go_enter Try.func18, Try.ntmps18
      go_wp2_with fail
      go_ret
      exact ⟨by rw [HV.out]; rfl, rfl⟩
    · have HV := Lib.hid (show v = false by rw [hv]; simp [h2])
      clear hv
      go_enter Try.func18, Try.ntmps18
      go_wp2_with fail
      go_ret
      exact ⟨by rw [HV.out]; rfl, rfl⟩
  · have HV := Lib.hid (show v = false by rw [hv]; simp [h1])
    clear hv
    go_enter Try.func18, Try.ntmps18
    go_wp2_with fail
    go_ret
    exact ⟨by rw [HV.out]; rfl, rfl⟩
theorem numB_take {l : List Int} {i : Nat} (h : i < l.length) : numB (l.take (i + 1)) = (numB (l.take i) && decide (0 ≤ l[i] ∧ l[i] < 31)) := by
  rw [List.take_add_one, List.getElem?_eq_getElem h, Option.toList_some]
  unfold numB
  rw [List.all_append]
  simp only [List.all_cons, List.all_nil, Bool.and_true]
theorem numB_bad {l : List Int} {i : Nat} (h : i < l.length) (hb : ¬ (0 ≤ l[i] ∧ l[i] < 31)) : numB l = false := by
  rw [Bool.eq_false_iff]
  intro ht
  exact hb (numB_in ht _ (List.getElem_mem h))
set_option maxRecDepth 100000 in
set_option maxHeartbeats 2000000 in
theorem refNumbers_any (l : List Int) (A : Option Addr) (n cp : Nat) (w : World) (hr : Rd w A (i64s l)) (hn : n = l.length) (hbig : n ≤ 4611686018427387904) :
    Calls Try.prog 31 #[.slice A n cp] w fun e w' => e = .returned (.bool (numB l)) ∧ w = w' := by
  have HR := Lib.hid hr
  have HN := Lib.hid hn
  clear hr hn
  go_enter Try.func31, Try.ntmps31
  go_wp2_with fail
  go_loopg [3] n (fun q u3 wr => ∃ i : Nat, i ≤ n ∧ u3 = .int .i64 (i : Nat) ∧ Hid (numB (l.take i) = true ∧ i + q = n ∧ wr = w))
  case atStart => exact ⟨0, by omega, rfl, rfl, by omega, rfl⟩
  case round =>
    obtain ⟨i, hi, rfl, hI⟩ := hrel
    have I1 := Lib.hid hI.out.1
    have I2 := Lib.hid hI.out.2.1
    have hwr := hI.out.2.2
    clear hI
    subst hwr
    by_cases hlt : i < n
    case neg => as_aux_lemma =>
      have HE := Lib.hid (show numB l = true by have := I1.out; rwa [List.take_of_length_le (by have := HN.out; omega)] at this)
      have hni : ¬ (i : Int) < (n : Int) := by omega
      go_wp2_with fail
      go_ret
      exact ⟨by rw [HE.out]; rfl, rfl⟩
    have hil : i < l.length := by rw [← HN.out]; exact hlt
    have hix : (i : Int) < (n : Int) := by omega
    obtain ⟨b0, off, rfl, k0, l0⟩ := HR.out.i64 hil
    have HG := Lib.hid (fun (h : 0 ≤ l[i] ∧ l[i] < 31) => (show numB (l.take (i + 1)) = true by rw [numB_take hil, I1.out, decide_eq_true h]; rfl))
    have HB := Lib.hid (fun (h : ¬ (0 ≤ l[i] ∧ l[i] < 31)) => numB_bad hil h)
    have K := fun W => within_any l[i] 0 30 W
    generalize l[i] = x at *
    by_cases hx : 0 ≤ x ∧ x < 31
    · as_aux_lemma =>
      have HE := Lib.hid (HG.out hx)
      rw [decide_eq_true (show 0 ≤ x ∧ x ≤ 30 by omega)] at K
      replace K := Lib.hid K
      clear HG HB hx
      go_wp2_with fail
      refine (K.out _).mono ?_
      rintro e w5 ⟨rfl, rfl⟩
      go_wp2_with fail
      go_roundg (gk - 1)
      case measure => have := I2.out; omega
      case rel => exact ⟨i + 1, by omega, by go_num, HE.out, by have := I2.out; omega, rfl⟩
    · as_aux_lemma =>
      have HE := Lib.hid (HB.out hx)
      rw [decide_eq_false (show ¬ (0 ≤ x ∧ x ≤ 30) by omega)] at K
      replace K := Lib.hid K
      clear HG HB hx
      go_wp2_with fail
      refine (K.out _).mono ?_
      rintro e w5 ⟨rfl, rfl⟩
      go_wp2_with fail
      go_ret
      exact ⟨by rw [HE.out]; rfl, rfl⟩
set_option maxRecDepth 100000 in
set_option maxHeartbeats 2000000 in
theorem refSet_any (l : List Int) (A : Option Addr) (n cp : Nat) (w : World) (hr : Rd w A (i64s l)) (hn : n = l.length) (hbig : n ≤ 4611686018427387904) :
    Calls Try.prog 17 #[.slice A n cp] w fun e w' => e = .returned (.bool (setB l)) ∧ Below w.heap.size w w' := by
  have HR := Lib.hid (fun W (h : Below w.heap.size w W) => hr.below h)
  have HN := Lib.hid hn
  have HNUM := Lib.hid (fun W (h : Below w.heap.size w W) => refNumbers_any l A n cp W (hr.below h) hn hbig)
  clear hr hn
  go_enter Try.func17, Try.ntmps17
  go_wp2_with fail
  go_loopg [3] n (fun q u3 wr => ∃ i : Nat, 1 ≤ i ∧ (i ≤ n ∨ i = 1) ∧ u3 = .int .i64 (i : Nat) ∧ Hid ((∀ j, (h : j + 1 < l.length) → j + 1 < i → l[j] < l[j + 1]) ∧ n ≤ i + q ∧ Own w wr []))
  case atStart => exact ⟨1, by omega, by omega, rfl, (fun j h h2 => by omega), by omega, Own.start w⟩
  case round =>
    obtain ⟨i, hi1, hi, rfl, hI⟩ := hrel
    have I1 := Lib.hid hI.out.1
    have I2 := Lib.hid hI.out.2.1
    have I3 := Lib.hid hI.out.2.2
    clear hI
    by_cases hlt : i < n
    case neg => as_aux_lemma =>
      have HE := Lib.hid (show setB l = numB l from setB_inc fun j h => I1.out j h (by have := HN.out; omega))
      have hni : ¬ (i : Int) < (n : Int) := by omega
      have hnum := Lib.hid (HNUM.out _ I3.out.bel)
      rw [← HE.out] at hnum
      clear HE
      obtain ⟨v, hv⟩ : ∃ v, v = setB l := ⟨_, rfl⟩
      rw [← hv] at hnum
      replace hv := Lib.hid hv
      go_wp2_with fail
      refine hnum.out.mono ?_
      rintro e w5 ⟨rfl, rfl⟩
      go_wp2_with fail
      go_ret
      exact ⟨by rw [← hv.out]; rfl, I3.out.bel⟩
    have hil : i < l.length := by rw [← HN.out]; exact hlt
    have hix : (i : Int) < (n : Int) := by omega
    obtain ⟨j, rfl⟩ : ∃ j, i = j + 1 := ⟨i - 1, by omega⟩
    have hjl : j < l.length := by omega
    have hjx : (j : Int) < (n : Int) := by omega
    obtain ⟨b0, off, rfl, k0, l0⟩ := (HR.out _ I3.out.bel).i64 hil
    obtain ⟨b1, off1, e1, k1, l1⟩ := (HR.out _ I3.out.bel).i64 hjl
    simp only [Option.some.injEq, Addr.mk.injEq] at e1
    obtain ⟨rfl, rfl, _⟩ := e1
    have hsub : ((j + 1 : Nat) : Int) - 1 = (j : Int) := by omega
    have hw1 : IntKind.i64.wrap (((j + 1 : Nat) : Int) - 1) = (j : Int) := by rw [hsub]; exact IntWalk.i64_in _ (by omega)
    have hn1 : (((j + 1 : Nat) : Int)).toNat = j + 1 := by omega
    have HBAD := Lib.hid (fun (h : ¬ l[j] < l[j + 1]) => setB_bad (l := l) (j := j) hil h)
    have HGO := Lib.hid (fun (h : l[j] < l[j + 1]) => (show ∀ k, (hk : k + 1 < l.length) → k + 1 < j + 2 → l[k] < l[k + 1] by
      intro k hk hk2
      by_cases e : k = j
      · subst e; exact h
      · exact I1.out k hk (by omega)))
    have fx0 := fun z : OwnOf w [] => (HR.out _ z.own.bel)
    have K0 := Lib.hid (fun z : OwnOf w [] => (show z.wld.cell? ⟨b0, off + (j + 1), none⟩ = some (.int .i64 l[j + 1]) by obtain ⟨b, o, e, h, _⟩ := (HR.out _ z.own.bel).i64 hil; simp only [Option.some.injEq, Addr.mk.injEq] at e; obtain ⟨rfl, rfl, _⟩ := e; exact h))
    have K1 := Lib.hid (fun z : OwnOf w [] => (show z.wld.cell? ⟨b0, off + j, none⟩ = some (.int .i64 l[j]) by obtain ⟨b, o, e, h, _⟩ := (HR.out _ z.own.bel).i64 hjl; simp only [Option.some.injEq, Addr.mk.injEq] at e; obtain ⟨rfl, rfl, _⟩ := e; exact h))
    generalize l[j + 1] = y at *
    generalize l[j] = x at *
    clear fx0 k0 k1 l0 l1
    by_cases hxy : x < y
    · as_aux_lemma =>
      have HG := Lib.hid (HGO.out hxy)
      have hle : ¬ y ≤ x := by omega
      clear HGO HBAD
      go_upto_region 4 with fail
      have fx0 := fun z : OwnOf w [] => K0.out z
      have fx1 := fun z : OwnOf w [] => K1.out z
      have hne : Nonempty (OwnOf w []) := ⟨⟨_, I3.out⟩⟩
      refine wp_region_own I3.out (by kernel_rfl) (by kernel_rfl) ?_
      iterate 10 (go_big_quiet_step (fail))
      refine wpQuiet_nil ?_
      rintro w3 ⟨z, hz⟩
      have S3 := Lib.hid (show Own w w3 [] by rw [hz]; exact z.own)
      clear hz z hne fx0 fx1 hw1 hsub
      go_wp2_with fail
      go_roundg (gk - 1)
      case measure => have := I2.out; omega
      case rel => exact ⟨j + 2, by omega, by omega, by go_num, HG.out, by have := I2.out; omega, S3.out⟩
    · as_aux_lemma =>
      have HB := Lib.hid (HBAD.out hxy)
      have hle : y ≤ x := by omega
      clear HGO HBAD
      go_upto_region 4 with fail
      have fx0 := fun z : OwnOf w [] => K0.out z
      have fx1 := fun z : OwnOf w [] => K1.out z
      have hne : Nonempty (OwnOf w []) := ⟨⟨_, I3.out⟩⟩
      refine wp_region_own I3.out (by kernel_rfl) (by kernel_rfl) ?_
      iterate 10 (go_big_quiet_step (fail))
      refine wpQuiet_nil ?_
      rintro w3 ⟨z, hz⟩
      have S3 := Lib.hid (show Own w w3 [] by rw [hz]; exact z.own)
      clear hz z hne fx0 fx1 hw1 hsub
      go_wp2_with fail
      go_ret
      exact ⟨by rw [HB.out]; rfl, S3.out.bel⟩
def secB (l : List Int) : Bool := decide (1 ≤ l.length) && (decide (l.length ≤ 4) && numB l)
def vauB (l : List Int) : Bool := decide (l.length = 31) && numB l
set_option maxRecDepth 100000 in
set_option maxHeartbeats 2000000 in
theorem refSecret_any (l : List Int) (A : Option Addr) (n cp : Nat) (w : World) (hr : Rd w A (i64s l)) (hn : n = l.length) :
    Calls Try.prog 16 #[.slice A n cp] w fun e w' => e = .returned (.bool (secB l)) ∧ w = w' := by
  have K' := fun (h4 : n ≤ 4) => refNumbers_any l A n cp w hr hn (by omega)
  by_cases h1 : 1 ≤ n
  · by_cases h4 : n ≤ 4
    · have HV := Lib.hid (show secB l = numB l by rw [secB, ← hn, decide_eq_true h1, decide_eq_true h4]; simp)
      have h1I : (1 : Int) ≤ (n : Int) := by omega
      have h4I : (n : Int) ≤ 4 := by omega
      have K := Lib.hid (K' h4)
      clear hr hn K'
      go_enter Try.func16, Try.ntmps16
      go_wp2_with fail
      refine K.out.mono ?_
      rintro e w1 ⟨rfl, rfl⟩
      go_wp2_with fail
      go_ret
      exact ⟨by rw [HV.out]; rfl, rfl⟩
    · have HV := Lib.hid (show secB l = false by rw [secB, ← hn, decide_eq_false h4]; simp)
      have h1I : (1 : Int) ≤ (n : Int) := by omega
      have h4I : ¬ (n : Int) ≤ 4 := by omega
      clear hr hn K'
      go_enter Try.func16, Try.ntmps16
      go_wp2_with fail
      go_ret
      exact ⟨by rw [HV.out]; rfl, rfl⟩
  · have HV := Lib.hid (show secB l = false by rw [secB, ← hn, decide_eq_false h1]; simp)
    have h1I : ¬ (1 : Int) ≤ (n : Int) := by omega
    clear hr hn K'
    go_enter Try.func16, Try.ntmps16
    go_wp2_with fail
    go_ret
    exact ⟨by rw [HV.out]; rfl, rfl⟩
set_option maxRecDepth 100000 in
set_option maxHeartbeats 2000000 in
theorem refVault_any (l : List Int) (A : Option Addr) (n cp : Nat) (w : World) (hr : Rd w A (i64s l)) (hn : n = l.length) (hbig : n ≤ 4611686018427387904) :
    Calls Try.prog 24 #[.slice A n cp] w fun e w' => e = .returned (.bool (vauB l)) ∧ w = w' := by
  have K := Lib.hid (refNumbers_any l A n cp w hr hn hbig)
  by_cases h1 : n = 31
  · have HV := Lib.hid (show vauB l = numB l by rw [vauB, ← hn, decide_eq_true h1]; simp)
    have h1I : (n : Int) = 31 := by omega
    clear hr hn
    subst h1
    clear h1I
    go_enter Try.func24, Try.ntmps24
    go_wp2_with fail
    refine K.out.mono ?_
    rintro e w1 ⟨rfl, rfl⟩
    go_wp2_with fail
    go_ret
    exact ⟨by rw [HV.out]; rfl, rfl⟩
  · have HV := Lib.hid (show vauB l = false by rw [vauB, ← hn, decide_eq_false h1]; simp)
    have h1I : ¬ (n : Int) = 31 := by omega
    clear hr hn
    go_enter Try.func24, Try.ntmps24
    go_wp2_with fail
    go_ret
    exact ⟨by rw [HV.out]; rfl, rfl⟩
set_option maxRecDepth 100000 in
set_option maxHeartbeats 2000000 in
theorem refIn_any (l : List Int) (x : Int) (A : Option Addr) (n cp : Nat) (w : World) (hr : Rd w A (i64s l)) (hn : n = l.length) (hbig : n ≤ 4611686018427387904) :
    Calls Try.prog 20 #[.slice A n cp, .int .i64 x] w fun e w' => e = .returned (.bool (decide (x ∈ l))) ∧ w = w' := by
  have HR := Lib.hid hr
  have HN := Lib.hid hn
  clear hr hn
  go_enter Try.func20, Try.ntmps20
  go_wp2_with fail
  go_loopg [5] n (fun q u3 wr => ∃ i : Nat, i ≤ n ∧ u3 = .int .i64 (i : Nat) ∧ Hid ((¬ x ∈ l.take i) ∧ i + q = n ∧ wr = w))
  case atStart => exact ⟨0, by omega, rfl, by simp, by omega, rfl⟩
  case round =>
    obtain ⟨i, hi, rfl, hI⟩ := hrel
    have I1 := Lib.hid hI.out.1
    have I2 := Lib.hid hI.out.2.1
    have hwr := hI.out.2.2
    clear hI
    subst hwr
    by_cases hlt : i < n
    case neg => as_aux_lemma =>
      have HE := Lib.hid (show decide (x ∈ l) = false by have := I1.out; rw [List.take_of_length_le (by have := HN.out; omega)] at this; exact decide_eq_false this)
      have hni : ¬ (i : Int) < (n : Int) := by omega
      go_wp2_with fail
      go_ret
      exact ⟨by rw [HE.out]; rfl, rfl⟩
    have hil : i < l.length := by rw [← HN.out]; exact hlt
    have hix : (i : Int) < (n : Int) := by omega
    obtain ⟨b0, off, rfl, k0, l0⟩ := HR.out.i64 hil
    have HG := Lib.hid (fun (h : ¬ l[i] = x) => (show ¬ x ∈ l.take (i + 1) by
      rw [List.take_add_one, List.getElem?_eq_getElem hil]
      intro hm
      rcases List.mem_append.1 hm with hm | hm
      · exact I1.out hm
      · simp at hm; exact h hm.symm))
    have HB := Lib.hid (fun (h : l[i] = x) => (show decide (x ∈ l) = true from decide_eq_true (h ▸ List.getElem_mem hil)))
    generalize l[i] = y at *
    by_cases hx : y = x
    · as_aux_lemma =>
      have HE := Lib.hid (HB.out hx)
      subst hx
      clear HG HB
      go_wp2_with fail
      go_ret
      exact ⟨by rw [HE.out]; rfl, rfl⟩
    · as_aux_lemma =>
      have HE := Lib.hid (HG.out hx)
      clear HG HB
      go_wp2_with fail
      go_roundg (gk - 1)
      case measure => have := I2.out; omega
      case rel => exact ⟨i + 1, by omega, by go_num, HE.out, by have := I2.out; omega, rfl⟩
theorem c_step {s p x d V : Int} (y : Int) (h : C (s + p * (d + x * y)) V) : C (s + d * p + (p * x % 31) * y) V := by
  refine C.trans (C.trans ?_ (C.of (show s + d * p + p * x * y = s + p * (d + x * y) by rw [Int.mul_add, Int.mul_comm d p, ← Int.mul_assoc, Int.add_assoc]))) h
  exact C.add (C.refl _) (C.mul (C.mod _) (C.refl _))
theorem mul30 {a b : Int} (ha : 0 ≤ a ∧ a < 31) (hb : 0 ≤ b ∧ b < 31) : 0 ≤ a * b ∧ a * b ≤ 900 := by
  have h1 : 0 ≤ a * b := Int.mul_nonneg ha.1 hb.1
  have h2 : a * b ≤ 30 * 30 := Int.mul_le_mul (by omega) (by omega) hb.1 (by omega)
  omega
set_option maxRecDepth 100000 in
set_option maxHeartbeats 2000000 in
theorem refValueAt_any (l : List Int) (x : Int) (A : Option Addr) (n cp : Nat) (w : World) (hr : Rd w A (i64s l)) (hn : n = l.length) (hb : n ≤ 1000) (hl : In31 l) (hx : 0 ≤ x ∧ x < 31) :
    Calls Try.prog 19 #[.slice A n cp, .int .i64 x] w fun e w' => e = .returned (.int .i64 (valF l x)) ∧ w = w' := by
  have HR := Lib.hid hr
  have HN := Lib.hid hn
  have HL := Lib.hid hl
  clear hr hn hl
  go_enter Try.func19, Try.ntmps19
  go_wp2_with fail
  go_loopg [5, 6, 7] n (fun q u5 u6 u7 wr => ∃ (i : Nat) (s p : Int), i ≤ n ∧ 0 ≤ s ∧ s ≤ 900 * (i : Int) ∧ (0 ≤ p ∧ p < 31) ∧ u5 = .int .i64 s ∧ u6 = .int .i64 p ∧ u7 = .int .i64 (i : Nat) ∧ Hid (C (s + p * valZ (l.drop i) x) (valZ l x) ∧ i + q = n ∧ wr = w))
  case atStart => exact ⟨0, 0, 1, by omega, by omega, by omega, by omega, rfl, rfl, rfl, C.of (by simp), by omega, rfl⟩
  case round =>
    obtain ⟨i, s, p, hi, hs0, hs1, hp, rfl, rfl, rfl, hI⟩ := hrel
    have I1 := Lib.hid hI.out.1
    have I2 := Lib.hid hI.out.2.1
    have hwr := hI.out.2.2
    clear hI
    subst hwr
    by_cases hlt : i < n
    case neg => as_aux_lemma =>
      have HE := Lib.hid (show s % 31 = valF l x by
        have h := I1.out
        rw [List.drop_eq_nil_of_le (by have := HN.out; omega)] at h
        simp only [valZ, Int.mul_zero, Int.add_zero] at h
        exact ((C.mod s).trans (h.trans (valF_valZ l x).symm)).eq (by omega) (valF_range l x))
      have hni : ¬ (i : Int) < (n : Int) := by omega
      have e1 : s.tmod 31 = s % 31 := Int.tmod_eq_emod_of_nonneg hs0
      have e2 : IntKind.i64.wrap (s % 31) = s % 31 := IntWalk.i64_in _ (by omega)
      clear hs1
      go_wp2_with fail
      go_ret
      exact ⟨by rw [← HE.out]; rfl, rfl⟩
    have hil : i < l.length := by rw [← HN.out]; exact hlt
    have hix : (i : Int) < (n : Int) := by omega
    obtain ⟨b0, off, rfl, k0, l0⟩ := HR.out.i64 hil
    have hd := HL.out _ (List.getElem_mem hil)
    have HS := Lib.hid (show C (s + l[i] * p + (p * x % 31) * valZ (l.drop (i + 1)) x) (valZ l x) by
      have h := I1.out
      rw [List.drop_eq_getElem_cons hil] at h
      exact c_step _ h)
    generalize l[i] = d at *
    have m1 := mul30 hd hp
    have m2 := mul30 hp hx
    have e1 : IntKind.i64.wrap (d * p) = d * p := IntWalk.i64_in _ (by omega)
    have e2 : IntKind.i64.wrap (s + d * p) = s + d * p := IntWalk.i64_in _ (by omega)
    have e3 : IntKind.i64.wrap (p * x) = p * x := IntWalk.i64_in _ (by omega)
    have e4 : (p * x).tmod 31 = p * x % 31 := Int.tmod_eq_emod_of_nonneg m2.1
    have e5 : IntKind.i64.wrap (p * x % 31) = p * x % 31 := IntWalk.i64_in _ (by omega)
    have HB := Lib.hid (show 0 ≤ s + d * p ∧ s + d * p ≤ 900 * ((i + 1 : Nat) : Int) ∧ 0 ≤ p * x % 31 ∧ p * x % 31 < 31 by omega)
    clear hs1 m1 m2
    as_aux_lemma =>
    go_wp2_with fail
    go_roundg (gk - 1)
    case measure => have := I2.out; omega
    case rel => exact ⟨i + 1, s + d * p, p * x % 31, by omega, HB.out.1, HB.out.2.1, HB.out.2.2, rfl, rfl, by go_num, HS.out, by have := I2.out; omega, rfl⟩
end Go.Proofs.Ytnienfgaidccpaa
