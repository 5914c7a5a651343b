/- Rates: trials of the reference. No condition. -/
import Derived.Test.YtnalbchggjepdaaVa
import Derived.Test.YtnalbchggjepdaaUd
import Derived.Test.YtnalbchggjepdaaTe
namespace Go.Proofs.Ytnalbchggjepdaa
open Go.RowKit Go.Shelf
attribute [local go_sem] Oper.semAt_some

/-- Whether a trial is one of different persons, in a group. -/
def difB (g : Int) (x : Dbl) : Bool := decide (x.a = g) && !x.same
/-- The scores of different persons of a group. -/
def dif (l : List Dbl) (g : Int) : List Int := (l.filter (difB g)).map Dbl.b
theorem dif_take {l : List Dbl} {k : Nat} (h : k < l.length) (g : Int) : dif (l.take (k + 1)) g = if difB g l[k] = true then dif (l.take k) g ++ [l[k].b] else dif (l.take k) g := by
  unfold dif
  rw [List.take_succ_eq_append_getElem h, List.filter_append]
  by_cases c : difB g l[k] = true
  · rw [if_pos c, List.filter_cons_of_pos c, List.map_append]; rfl
  · rw [if_neg c, List.filter_cons_of_neg c, List.filter_nil, List.append_nil]
theorem dif_len (l : List Dbl) (g : Int) : (dif l g).length ≤ l.length := by
  unfold dif
  rw [List.length_map]
  exact List.length_filter_le _ _
def trB (x : Dbl) : Bool := inB 0 7 x.a && inB 0 1000 x.b
def okT (l : List Dbl) : Bool := l.all trB
/-- Whether no group has too many scores. -/
def few (l : List Dbl) (k : Nat) : Bool := (List.range k).all fun g => decide ((dif l (g : Nat)).length ≤ 60)
theorem few_succ (l : List Dbl) (k : Nat) : few l (k + 1) = (few l k && decide ((dif l (k : Nat)).length ≤ 60)) := by
  unfold few
  rw [List.range_succ, List.all_append]
  simp
theorem few_no {l : List Dbl} {k m : Nat} (hk : k < m) (h : 60 < (dif l (k : Nat)).length) : few l m = false := by
  rw [Bool.eq_false_iff]
  intro hf
  have := List.all_eq_true.1 hf k (List.mem_range.2 hk)
  simp at this
  omega
/-- The number of the error of a list of trials, or 0. -/
def trlE (l : List Dbl) : Int := if 200 < l.length then 4 else if okT l then (if few l 8 then 0 else 4) else 2
theorem trlE_ok {l : List Dbl} (h : trlE l = 0) : l.length ≤ 200 ∧ okT l = true ∧ few l 8 = true := by
  unfold trlE at h
  split at h
  · omega
  · split at h
    · split at h
      · exact ⟨by omega, by assumption, by assumption⟩
      · omega
    · omega
theorem trlE_cases (l : List Dbl) : trlE l = 0 ∨ trlE l = 2 ∨ trlE l = 4 := by
  unfold trlE
  split
  · exact .inr (.inr rfl)
  · split
    · split
      · exact .inl rfl
      · exact .inr (.inr rfl)
    · exact .inr (.inl rfl)
theorem okT_here {l : List Dbl} {k : Nat} (h : k < l.length) (hx : trB l[k] = false) : okT l = false := by
  rw [Bool.eq_false_iff]
  intro hk
  rw [okT, List.all_eq_true] at hk
  rw [hk _ (List.getElem_mem h)] at hx
  cases hx
theorem okT_take {l : List Dbl} {k : Nat} (h : k < l.length) (hk : okT (l.take k) = true) (hx : trB l[k] = true) : okT (l.take (k + 1)) = true := by
  rw [okT, List.take_succ_eq_append_getElem h, List.all_append, Bool.and_eq_true]
  exact ⟨hk, by simp [hx]⟩
set_option maxRecDepth 100000 in
set_option maxHeartbeats 4000000 in
theorem different_any (A : Option Addr) (l : List Dbl) (n c : Nat) (g : Int) (w : World) (hr : Rd w A (flat encD l)) (hn : n = l.length) (hl : n ≤ 1000000) :
    Calls Try.prog 63 #[.slice A n c, .int .i64 g] w fun e w' => ∃ A' c', e = .returned (.slice A' (dif l g).length c') ∧ Own w w' [row 3 1 (.slice A' (dif l g).length c') (dif l g).length (ints (dif l g))] := by
  have HN := Lib.hid hn
  have HR := Lib.hid hr
  have S0 := Lib.hid ((Own.start w).nil 3 1)
  clear hr hn
  go_enter Try.func63, Try.ntmps63
  go_wp2_with fail
  go_loopg [5, 6] n (fun q u5 u6 wr => ∃ k : Nat, ∃ A5 m5 c5, (k ≤ n ∧ m5 ≤ k) ∧ u6 = .int .i64 (k : Nat) ∧ u5 = .slice A5 m5 c5 ∧ Hid (k + q = n ∧ m5 = (dif (l.take k) g).length ∧ Own w wr [row 3 1 (.slice A5 m5 c5) m5 (ints (dif (l.take k) g))]))
  case atStart => exact ⟨0, none, 0, 0, by omega, rfl, rfl, by omega, rfl, S0.out⟩
  case round =>
    obtain ⟨k, A5, m5, c5, ⟨hk, hm⟩, rfl, rfl, hI⟩ := hrel
    have I1 := Lib.hid hI.out.1
    have I3 := Lib.hid hI.out.2.1
    have I2 := Lib.hid hI.out.2.2
    clear hI S0
    by_cases hlt : k < n
    case neg => as_aux_lemma =>
      obtain rfl : n = k := by omega
      have hni : ¬ (n : Int) < (n : Int) := by omega
      have HT := Lib.hid (show l.take n = l by rw [List.take_of_length_le (by rw [← HN.out]; exact Nat.le_refl _)])
      rw [HT.out] at I2 I3
      go_wp2_with fail
      go_ret
      exact ⟨A5, c5, by rw [← I3.out]; rfl, by rw [← I3.out]; exact I2.out⟩
    have hil : k < l.length := by rw [← HN.out]; exact hlt
    have hix : (k : Int) < (n : Int) := by omega
    have z1 : IntKind.i64.wrap ((k : Int) + 1) = ((k + 1 : Nat) : Int) := by rw [show (k : Int) + 1 = ((k + 1 : Nat) : Int) by omega]; exact IntWalk.i64_in _ (by omega)
    obtain ⟨bb, off, rfl, hbs, c0, c1, c2⟩ := (HR.out.below I2.out.bel).dbl hil
    have HD := Lib.hid (dif_take hil g)
    generalize l[k] = x at *
    obtain ⟨xa, xb, xs⟩ := x
    simp only at c0 c1 c2 HD
    clear hil
    by_cases h1 : xa = g
    case neg => as_aux_lemma =>
      have h1' : (xa == g) = false := by simpa using h1
      have HE := Lib.hid (show dif (l.take (k + 1)) g = dif (l.take k) g by rw [HD.out, if_neg (by simp [difB, h1])])
      clear h1 HD
      go_wp2_with fail
      go_roundg (gk - 1)
      case measure => have := I1.out; omega
      case rel => exact ⟨k + 1, A5, m5, c5, by omega, rfl, rfl, by have := I1.out; omega, by rw [HE.out]; exact I3.out, by rw [HE.out]; exact I2.out⟩
    subst h1
    rcases xs with _ | _
    · as_aux_lemma =>
      have HE := Lib.hid (show dif (l.take (k + 1)) xa = dif (l.take k) xa ++ [xb] by rw [HD.out, if_pos (by simp [difB])])
      have HX := Lib.hid (show ints (dif (l.take k) xa) ++ ints [xb] = ints (dif (l.take (k + 1)) xa) by rw [HE.out, ints_app]; rfl)
      have HLN := Lib.hid (show m5 + 1 = (dif (l.take (k + 1)) xa).length by rw [HE.out, List.length_append, ← I3.out]; rfl)
      have S7 := Lib.hid (I2.out.ext (below_alloc wr (.cells #[.int .i64 xb] 3)))
      have HN7 := Lib.hid (Rd.new wr #[.int .i64 xb] 3)
      clear HD
      go_wp2_with (at_builtin; go_loud (refine wpList_appP rfl (.tmp 28) (.tmp 34) 36 rfl st36 0 S7.out rfl rfl rfl (m5 + 1) (ints (dif (l.take (k + 1)) xa)) ?_ (ints [xb]) (by omega) HX.out HN7.out (by simp [ints]) (ints_one [xb]) (by unfold maxLen; omega) (by omega); intro A9 c9 w9 hS9); have S9 := Lib.hid (hS9.cast (qs := [row 3 1 (.slice A9 (m5 + 1) c9) (m5 + 1) (ints (dif (l.take (k + 1)) xa))]) rfl); clear hS9 S7 HN7 I2)
      go_roundg (gk - 1)
      case measure => have := I1.out; omega
      case rel => exact ⟨k + 1, A9, m5 + 1, c9, by omega, rfl, rfl, by have := I1.out; omega, HLN.out, S9.out⟩
    · as_aux_lemma =>
      have HE := Lib.hid (show dif (l.take (k + 1)) xa = dif (l.take k) xa by rw [HD.out, if_neg (by simp [difB])])
      clear HD
      go_wp2_with fail
      go_roundg (gk - 1)
      case measure => have := I1.out; omega
      case rel => exact ⟨k + 1, A5, m5, c5, by omega, rfl, rfl, by have := I1.out; omega, by rw [HE.out]; exact I3.out, by rw [HE.out]; exact I2.out⟩
set_option maxRecDepth 100000 in
set_option maxHeartbeats 4000000 in
theorem refTrials_any (A : Option Addr) (l : List Dbl) (n c : Nat) (w : World) (hr : Rd w A (flat encD l)) (hn : n = l.length) (hl : n ≤ 1000000) :
    Calls Try.prog 39 #[.slice A n c] w fun e w' => e = .returned (.int .i64 (trlE l)) ∧ Below w.heap.size w w' := by
  have HN := Lib.hid hn
  have HR := Lib.hid hr
  have KD := Lib.hid (fun g W (h : Below w.heap.size w W) => different_any A l n c g W (hr.below h) hn hl)
  by_cases h1 : 200 < n
  · have HE := Lib.hid (show trlE l = 4 by unfold trlE; rw [if_pos (by omega)])
    have h1' : (200 : Int) < (n : Int) := by omega
    clear hr hn
    go_enter Try.func39, Try.ntmps39
    go_wp2_with fail
    go_ret
    exact ⟨by rw [HE.out]; rfl, Below.refl _ _⟩
  have HE := Lib.hid (show trlE l = if okT l then (if few l 8 then 0 else 4) else 2 by unfold trlE; rw [if_neg (by omega)])
  have h1' : ¬ (200 : Int) < (n : Int) := by omega
  clear hr hn
  go_enter Try.func39, Try.ntmps39
  go_wp2_with fail
  go_loopg [3] n (fun q u3 wr => ∃ k : Nat, k ≤ n ∧ u3 = .int .i64 (k : Nat) ∧ Hid (k + q = n ∧ okT (l.take k) = true ∧ Own w wr []))
  case atStart => exact ⟨0, Nat.zero_le _, rfl, by omega, rfl, Own.start w⟩
  case round =>
    obtain ⟨k, hk, rfl, hI⟩ := hrel
    have I1 := Lib.hid hI.out.1
    have I3 := Lib.hid hI.out.2.1
    have I2 := Lib.hid hI.out.2.2
    clear hI
    by_cases hlt : k < n
    · have hlt' : k < l.length := by rw [← HN.out]; exact hlt
      obtain ⟨b, off, rfl, hbs, c0, c1, c2⟩ := (HR.out.below I2.out.bel).dbl hlt'
      have HX := Lib.hid (fun h => okT_take hlt' I3.out h)
      have HX2 := Lib.hid (fun h => okT_here hlt' h)
      generalize l[k] = x at *
      obtain ⟨xa, xb, xs⟩ := x
      have hki : (k : Int) < (n : Int) := by omega
      have z1 : IntKind.i64.wrap ((k : Int) + 1) = ((k + 1 : Nat) : Int) := by rw [show (k : Int) + 1 = ((k + 1 : Nat) : Int) by omega]; exact IntWalk.i64_in _ (by omega)
      simp only at c0 c1 c2
      clear hlt' KD
      cases h2 : inB 0 7 xa
      · have HX3 := Lib.hid (HX2.out (show trB ⟨xa, xb, xs⟩ = false by simp [trB, h2]))
        clear HX HX2
        as_aux_lemma =>
        go_wp2_with fail
        refine (within_any 0 7 xa _).mono ?_
        rintro e w' ⟨rfl, rfl⟩
        rw [h2]
        clear h2
        go_wp2_with fail
        go_ret
        exact ⟨by rw [HE.out, HX3.out]; rfl, I2.out.bel⟩
      · cases h3 : inB 0 1000 xb
        · have HX3 := Lib.hid (HX2.out (show trB ⟨xa, xb, xs⟩ = false by simp [trB, h3]))
          clear HX HX2
          as_aux_lemma =>
          go_wp2_with fail
          refine (within_any 0 7 xa _).mono ?_
          rintro e w' ⟨rfl, rfl⟩
          rw [h2]
          clear h2
          go_wp2_with fail
          refine (within_any 0 1000 xb _).mono ?_
          rintro e w' ⟨rfl, rfl⟩
          rw [h3]
          clear h3
          go_wp2_with fail
          go_ret
          exact ⟨by rw [HE.out, HX3.out]; rfl, I2.out.bel⟩
        · have HX3 := Lib.hid (HX.out (show trB ⟨xa, xb, xs⟩ = true by simp [trB, h2, h3]))
          clear HX HX2
          as_aux_lemma =>
          go_wp2_with fail
          refine (within_any 0 7 xa _).mono ?_
          rintro e w' ⟨rfl, rfl⟩
          rw [h2]
          clear h2
          go_wp2_with fail
          refine (within_any 0 1000 xb _).mono ?_
          rintro e w' ⟨rfl, rfl⟩
          rw [h3]
          clear h3
          go_wp2_with fail
          go_roundg (gk - 1)
          case measure => have := I1.out; omega
          case rel => exact ⟨k + 1, by omega, rfl, by have := I1.out; omega, HX3.out, I2.out⟩
    · have hni : ¬ (k : Int) < (n : Int) := by omega
      have HX := Lib.hid (show okT l = true by have := I3.out; rwa [List.take_of_length_le (by rw [← HN.out]; omega)] at this)
      have HE2 := Lib.hid (show trlE l = if few l 8 then 0 else 4 by rw [HE.out, HX.out]; rfl)
      clear HE HX I3
      as_aux_lemma =>
      go_wp2_with fail
      go_loopg [4] 8 (fun q u4 wr => ∃ g : Nat, g ≤ 8 ∧ u4 = .int .i64 (g : Nat) ∧ Hid (g + q = 8 ∧ few l g = true ∧ Own w wr []))
      case atStart => exact ⟨0, Nat.zero_le _, rfl, by omega, rfl, I2.out⟩
      case round =>
        obtain ⟨g, hg, rfl, hJ⟩ := hrel
        have J1 := Lib.hid hJ.out.1
        have J3 := Lib.hid hJ.out.2.1
        have J2 := Lib.hid hJ.out.2.2
        clear hJ I2
        by_cases hlt2 : g < 8
        case neg => as_aux_lemma =>
          obtain rfl : g = 8 := by omega
          go_wp2_with fail
          go_ret
          exact ⟨by rw [HE2.out, J3.out]; rfl, J2.out.bel⟩
        have hgi : (g : Int) < 8 := by omega
        have z1 : IntKind.i64.wrap ((g : Int) + 1) = ((g + 1 : Nat) : Int) := by rw [show (g : Int) + 1 = ((g + 1 : Nat) : Int) by omega]; exact IntWalk.i64_in _ (by omega)
        have HFS := Lib.hid (few_succ l g)
        have HFN := Lib.hid (fun h => few_no (l := l) hlt2 h)
        have K1 := Lib.hid (KD.out (g : Nat) wr J2.out.bel)
        generalize dif l (g : Nat) = X at *
        obtain ⟨m, hm⟩ : ∃ m, m = X.length := ⟨_, rfl⟩
        rw [← hm] at HFS HFN K1
        clear hm KD
        by_cases h60 : 60 < m
        · as_aux_lemma =>
          have h60' : (60 : Int) < (m : Int) := by omega
          have HF := Lib.hid (HFN.out h60)
          clear HFN HFS
          go_wp2_with fail
          refine K1.out.mono ?_
          rintro e w4 ⟨A4, c4, rfl, hO4⟩
          have J4 := Lib.hid (J2.out.call hO4)
          clear hO4 J2 K1
          go_wp2_with fail
          go_ret
          exact ⟨by rw [HE2.out, HF.out]; rfl, J4.out.bel⟩
        · as_aux_lemma =>
          have h60' : ¬ (60 : Int) < (m : Int) := by omega
          have HF := Lib.hid (show few l (g + 1) = true by rw [HFS.out, J3.out]; simp; omega)
          clear HFN HFS
          go_wp2_with fail
          refine K1.out.mono ?_
          rintro e w4 ⟨A4, c4, rfl, hO4⟩
          have J4 := Lib.hid (J2.out.call hO4)
          clear hO4 J2 K1
          go_wp2_with fail
          go_roundg (gk - 1)
          case measure => have := J1.out; omega
          case rel => exact ⟨g + 1, by omega, rfl, by have := J1.out; omega, HF.out, J4.out.sub [] (by decide) rfl⟩
end Go.Proofs.Ytnalbchggjepdaa
