/- Rates: the points of the reference, all of them. No condition. -/
import Derived.Test.YtnalbchggjepdaaZb
namespace Go.Proofs.Ytnalbchggjepdaa
open Go.RowKit Go.Shelf
attribute [local go_sem] Oper.semAt_some

def kepA (P : List Pt) : List Pt := P.foldl kepF []
theorem kepA_snoc (P : List Pt) (p : Pt) : kepA (P ++ [p]) = kepF (kepA P) p := by simp [kepA]
theorem kepA_len (P : List Pt) : (kepA P).length ≤ P.length := by
  have key : ∀ (E out : List Pt), (E.foldl kepF out).length ≤ out.length + E.length := by
    intro E
    induction E with
    | nil => intro out; simp
    | cons p E ih =>
      intro out
      have h1 := ih (kepF out p)
      have h2 := kepF_len out p
      simp only [List.foldl_cons, List.length_cons]
      omega
  simpa [kepA] using key P []
def usA (l : List Dbl) : List Int := -1 :: l.map Dbl.a
def usB (l : List Dbl) : List Int := -1 :: l.map Dbl.b
theorem usA_len (l : List Dbl) : (usA l).length = l.length + 1 := by simp [usA]
theorem usB_len (l : List Dbl) : (usB l).length = l.length + 1 := by simp [usB]
/-- The value of a place: -1, or a score. -/
theorem usA_at (l : List Dbl) {i : Nat} (h : i < (usA l).length) : (i = 0 → (usA l)[i] = -1) ∧ ∀ i0, i = i0 + 1 → ∃ h : i0 < l.length, (usA l)[i] = l[i0].a := by
  refine ⟨fun e => by subst e; rfl, fun i0 e => ?_⟩
  subst e
  have h' : i0 < l.length := by simpa [usA] using h
  exact ⟨h', by simp [usA]⟩
theorem usB_at (l : List Dbl) {i : Nat} (h : i < (usB l).length) : (i = 0 → (usB l)[i] = -1) ∧ ∀ i0, i = i0 + 1 → ∃ h : i0 < l.length, (usB l)[i] = l[i0].b := by
  refine ⟨fun e => by subst e; rfl, fun i0 e => ?_⟩
  subst e
  have h' : i0 < l.length := by simpa [usB] using h
  exact ⟨h', by simp [usB]⟩
set_option maxRecDepth 100000 in
set_option maxHeartbeats 8000000 in
theorem refAll_any (A : Option Addr) (l : List Dbl) (n c : Nat) (w : World) (hr : Rd w A (flat encD l)) (hn : n = l.length) (hl : n ≤ 200) :
    Calls Try.prog 74 #[.slice A n c] w fun e w' => ∃ A' c', e = .returned (.slice A' (kepA (ptsT l (usA l) (usB l))).length c') ∧ Own w w' [row 68 4 (.slice A' (kepA (ptsT l (usA l) (usB l))).length c') (kepA (ptsT l (usA l) (usB l))).length (flat encP (kepA (ptsT l (usA l) (usB l))))] := by
  have HN := Lib.hid hn
  have HR := Lib.hid hr
  have K4 := Lib.hid (fun a b W (h : Below w.heap.size w W) => refAt_any A l n c a b W (hr.below h) hn (by omega))
  have HUA := Lib.hid (fun i (h : i < (usA l).length) => usA_at l h)
  have HUB := Lib.hid (fun i (h : i < (usB l).length) => usB_at l h)
  have la := usA_len l
  have lb := usB_len l
  obtain ⟨us, hus⟩ : ∃ us, us = usA l := ⟨_, rfl⟩
  obtain ⟨bs, hbs⟩ : ∃ bs, bs = usB l := ⟨_, rfl⟩
  rw [← hus] at la ⊢
  rw [← hbs] at lb ⊢
  have HUS := Lib.hid hus
  have HBS := Lib.hid hbs
  have HA := Lib.hid (show n + 1 = us.length by omega)
  have HB := Lib.hid (show n + 1 = bs.length by omega)
  have HK := Lib.hid (fun i j (hi : i ≤ n) (hj : j ≤ n + 1) => (show i * (n + 1) + j ≤ 40401 by
    have := Nat.mul_le_mul (show i + 1 ≤ 201 by omega) (show n + 1 ≤ 201 by omega)
    rw [Nat.succ_mul] at this
    omega))
  have S0 := Lib.hid ((Own.start w).nil 68 4)
  clear hr hn la lb hus hbs
  go_enter Try.func74, Try.ntmps74
  go_wp2_with fail
  go_loopg [3, 4] (n + 1) (fun q u3 u4 wr => ∃ i : Nat, ∃ A3 m c3, ∃ x : Int, (i ≤ n + 1 ∧ m ≤ 40401) ∧ u4 = .int .i64 x ∧ u3 = .slice A3 m c3 ∧ Hid (i + q = n + 1 ∧ x = (i : Int) - 1 ∧ m = (kepA (ptsT l (us.take i) bs)).length ∧ Own w wr [row 68 4 (.slice A3 m c3) m (flat encP (kepA (ptsT l (us.take i) bs)))]))
  case atStart => exact ⟨0, none, 0, 0, -1, by omega, rfl, rfl, by omega, by omega, rfl, S0.out⟩
  case round =>
    obtain ⟨i, A3, m, c3, x, ⟨hi, hm⟩, rfl, rfl, hI⟩ := hrel
    have I1 := Lib.hid hI.out.1
    have IX := Lib.hid hI.out.2.1
    have I3 := Lib.hid hI.out.2.2.1
    have I2 := Lib.hid hI.out.2.2.2
    obtain ⟨G1, rfl⟩ : ∃ G1 : Nat, G1 = gk := ⟨_, rfl⟩
    obtain ⟨wq, rfl⟩ : ∃ wq : World, wq = wr := ⟨_, rfl⟩
    clear hI S0
    by_cases hlt : i < n + 1
    case neg => as_aux_lemma =>
      obtain rfl : i = n + 1 := by omega
      have hni : ¬ x < (n : Int) := by have := IX.out; omega
      have HT := Lib.hid (show us.take (n + 1) = us by rw [List.take_of_length_le (by rw [← HA.out]; exact Nat.le_refl _)])
      rw [HT.out] at I2 I3
      clear HT HUA HUB K4 HK
      go_wp2_with fail
      go_ret
      exact ⟨A3, c3, by rw [← I3.out]; rfl, by rw [← I3.out]; exact I2.out⟩
    have hil : i < us.length := by rw [← HA.out]; exact hlt
    have hix : x < (n : Int) := by have := IX.out; omega
    have HPT := Lib.hid (ptsT_take l us bs hil)
    have HAV := Lib.hid (show (i = 0 → us[i] = -1) ∧ ∀ i0, i = i0 + 1 → ∃ h : i0 < l.length, us[i] = l[i0].a by
      have := HUA.out i (by rw [← HUS.out]; exact hil)
      simpa only [HUS.out] using this)
    generalize us[i] = a at *
    have HL := Lib.hid (fun j (hj : j ≤ n + 1) => (show (kepA (ptsT l (us.take i) bs ++ rowP l a (bs.take j))).length ≤ 40401 by
      refine Nat.le_trans (kepA_len _) ?_
      rw [List.length_append, ptsT_len, rowP, List.length_map, List.length_take, List.length_take, ← HA.out, ← HB.out]
      have := HK.out i j (by omega) hj
      rw [Nat.min_eq_left (by omega), Nat.min_eq_left (by omega)]
      exact this))
    have HX1 := Lib.hid (show IntKind.i64.wrap (x + 1) = x + 1 from IntWalk.i64_in _ (by have := IX.out; omega))
    clear hil HUA HK
    as_aux_lemma =>
    go_wp2_with fail
    go_loopg [3, 5] (n + 1) (fun q u3 u5 wr => ∃ j : Nat, ∃ A4 m4 c4, ∃ y : Int, (j ≤ n + 1 ∧ m4 ≤ 40401) ∧ u5 = .int .i64 y ∧ u3 = .slice A4 m4 c4 ∧ Hid (j + q = n + 1 ∧ y = (j : Int) - 1 ∧ m4 = (kepA (ptsT l (us.take i) bs ++ rowP l a (bs.take j))).length ∧ Own w wr [row 68 4 (.slice A4 m4 c4) m4 (flat encP (kepA (ptsT l (us.take i) bs ++ rowP l a (bs.take j))))]))
    case atStart => exact ⟨0, A3, m, c3, -1, by omega, rfl, rfl, by omega, by omega, by rw [I3.out]; simp [rowP], I2.out.cast (by simp [rowP])⟩
    case round =>
      obtain ⟨j, A4, m4, c4, y, ⟨hj, hm4⟩, rfl, rfl, hJ⟩ := hrel
      have J1 := Lib.hid hJ.out.1
      have JX := Lib.hid hJ.out.2.1
      have J3 := Lib.hid hJ.out.2.2.1
      have J2 := Lib.hid hJ.out.2.2.2
      clear hJ I2
      by_cases hlt2 : j < n + 1
      case neg => as_aux_lemma =>
        obtain rfl : j = n + 1 := by omega
        have hni : ¬ y < (n : Int) := by have := JX.out; omega
        have HT := Lib.hid (show bs.take (n + 1) = bs by rw [List.take_of_length_le (by rw [← HB.out]; exact Nat.le_refl _)])
        rw [HT.out, ← HPT.out] at J2 J3
        have z1 := HX1.out
        clear HT HPT K4 HUB HAV HL
        go_wp2_with fail
        go_roundg (G1 - 1)
        case measure => have := I1.out; omega
        case rel => exact ⟨i + 1, A4, m4, c4, x + 1, by omega, rfl, rfl, by have := I1.out; omega, by have := IX.out; omega, J3.out, J2.out⟩
      have hjl : j < bs.length := by rw [← HB.out]; exact hlt2
      have hjx : y < (n : Int) := by have := JX.out; omega
      have HRT := Lib.hid (rowP_take l a bs hjl)
      have HBV := Lib.hid (show (j = 0 → bs[j] = -1) ∧ ∀ i0, j = i0 + 1 → ∃ h : i0 < l.length, bs[j] = l[i0].b by
        have := HUB.out j (by rw [← HBS.out]; exact hjl)
        simpa only [HBS.out] using this)
      have HLJ := Lib.hid (HL.out (j + 1) (by omega))
      generalize bs[j] = b at *
      have HNX := Lib.hid (show kepA (ptsT l (us.take i) bs ++ rowP l a (bs.take (j + 1))) = kepF (kepA (ptsT l (us.take i) bs ++ rowP l a (bs.take j))) (opF l a b) by rw [HRT.out, ← List.append_assoc, kepA_snoc])
      have KP := Lib.hid (fun W (h : Own w W [row 68 4 (.slice A4 m4 c4) m4 (flat encP (kepA (ptsT l (us.take i) bs ++ rowP l a (bs.take j))))]) => kept_any w [] A4 (kepA (ptsT l (us.take i) bs ++ rowP l a (bs.take j))) m4 c4 (opF l a b) W h J3.out (by omega))
      rw [← HNX.out] at KP
      have K5 := Lib.hid (K4.out a b wr J2.out.bel)
      have z1 : IntKind.i64.wrap (y + 1) = y + 1 := IntWalk.i64_in _ (by have := JX.out; omega)
      generalize opF l a b = p at *
      obtain ⟨pa, pb, pc, pr⟩ := p
      simp only [aggP] at KP K5
      obtain ⟨Q2, hQ2⟩ : ∃ Q2, Q2 = kepA (ptsT l (us.take i) bs ++ rowP l a (bs.take (j + 1))) := ⟨_, rfl⟩
      rw [← hQ2] at KP HLJ
      replace hQ2 := Lib.hid hQ2
      generalize kepA (ptsT l (us.take i) bs ++ rowP l a (bs.take j)) = Q1 at *
      have hm5 := HLJ.out
      clear hjl K4 HUB HRT HL HNX HLJ J3
      by_cases hi0 : i = 0
      · obtain rfl : x = -1 := by have := IX.out; omega
        obtain rfl := HAV.out.1 hi0
        by_cases hj0 : j = 0
        · obtain rfl : y = -1 := by have := JX.out; omega
          obtain rfl := HBV.out.1 hj0
          clear HAV HBV hi0 hj0
          as_aux_lemma =>
          go_wp2_with fail
          refine K5.out.mono ?_
          rintro e w4 ⟨rfl, hb4⟩
          have J4 := Lib.hid (J2.out.ext hb4)
          clear hb4 J2 K5
          go_wp2_with fail
          refine (KP.out _ J4.out).mono ?_
          rintro e w5 ⟨A5, c5, rfl, hO5⟩
          have J5 := Lib.hid hO5
          clear hO5 J4 KP
          go_wp2_with fail
          go_roundg (gk - 1)
          case measure => have := J1.out; omega
          case rel => exact ⟨j + 1, A5, Q2.length, c5, 0, ⟨by omega, hm5⟩, by go_num, rfl, by have := J1.out; omega, by have := JX.out; omega, by rw [hQ2.out], by rw [← hQ2.out]; exact J5.out⟩
        · obtain ⟨j0, hj0⟩ : ∃ j0, j = j0 + 1 := ⟨j - 1, by omega⟩
          obtain rfl : y = (j0 : Int) := by have := JX.out; omega
          obtain ⟨hjl, hb⟩ := HBV.out.2 j0 hj0
          obtain ⟨bb, off, rfl, hbs, c0, c1, c2⟩ := (HR.out.below J2.out.bel).dbl hjl
          rw [← hb] at c1
          clear HAV HBV hi0 hj0 hb hjl c0 c2
          as_aux_lemma =>
          go_wp2_with fail
          refine K5.out.mono ?_
          rintro e w4 ⟨rfl, hb4⟩
          have J4 := Lib.hid (J2.out.ext hb4)
          clear hb4 J2 K5
          go_wp2_with fail
          refine (KP.out _ J4.out).mono ?_
          rintro e w5 ⟨A5, c5, rfl, hO5⟩
          have J5 := Lib.hid hO5
          clear hO5 J4 KP
          go_wp2_with fail
          go_roundg (gk - 1)
          case measure => have := J1.out; omega
          case rel => exact ⟨j + 1, A5, Q2.length, c5, (j0 : Int) + 1, ⟨by omega, hm5⟩, by go_num, rfl, by have := J1.out; omega, by have := JX.out; omega, by rw [hQ2.out], by rw [← hQ2.out]; exact J5.out⟩
      · obtain ⟨i0, hi0⟩ : ∃ i0, i = i0 + 1 := ⟨i - 1, by omega⟩
        obtain rfl : x = (i0 : Int) := by have := IX.out; omega
        obtain ⟨hil, ha⟩ := HAV.out.2 i0 hi0
        obtain ⟨bb, off, rfl, hbs, c0, c1, c2⟩ := (HR.out.below J2.out.bel).dbl hil
        rw [← ha] at c0
        by_cases hj0 : j = 0
        · obtain rfl : y = -1 := by have := JX.out; omega
          obtain rfl := HBV.out.1 hj0
          clear HAV HBV hi0 hj0 ha hil c1 c2
          as_aux_lemma =>
          go_wp2_with fail
          refine K5.out.mono ?_
          rintro e w4 ⟨rfl, hb4⟩
          have J4 := Lib.hid (J2.out.ext hb4)
          clear hb4 J2 K5
          go_wp2_with fail
          refine (KP.out _ J4.out).mono ?_
          rintro e w5 ⟨A5, c5, rfl, hO5⟩
          have J5 := Lib.hid hO5
          clear hO5 J4 KP
          go_wp2_with fail
          go_roundg (gk - 1)
          case measure => have := J1.out; omega
          case rel => exact ⟨j + 1, A5, Q2.length, c5, 0, ⟨by omega, hm5⟩, by go_num, rfl, by have := J1.out; omega, by have := JX.out; omega, by rw [hQ2.out], by rw [← hQ2.out]; exact J5.out⟩
        · obtain ⟨j0, hj0⟩ : ∃ j0, j = j0 + 1 := ⟨j - 1, by omega⟩
          obtain rfl : y = (j0 : Int) := by have := JX.out; omega
          obtain ⟨hjl, hb⟩ := HBV.out.2 j0 hj0
          obtain ⟨bb', off', e1, hbs', c0', c1', c2'⟩ := (HR.out.below J2.out.bel).dbl hjl
          injection e1 with e1
          injection e1 with e1 e2
          subst e1 e2
          rw [← hb] at c1'
          clear HAV HBV hi0 hj0 ha hil c1 c2 hb hjl c0' c2' hbs'
          as_aux_lemma =>
          go_wp2_with fail
          refine K5.out.mono ?_
          rintro e w4 ⟨rfl, hb4⟩
          have J4 := Lib.hid (J2.out.ext hb4)
          clear hb4 J2 K5
          go_wp2_with fail
          refine (KP.out _ J4.out).mono ?_
          rintro e w5 ⟨A5, c5, rfl, hO5⟩
          have J5 := Lib.hid hO5
          clear hO5 J4 KP
          go_wp2_with fail
          go_roundg (gk - 1)
          case measure => have := J1.out; omega
          case rel => exact ⟨j + 1, A5, Q2.length, c5, (j0 : Int) + 1, ⟨by omega, hm5⟩, by go_num, rfl, by have := J1.out; omega, by have := JX.out; omega, by rw [hQ2.out], by rw [← hQ2.out]; exact J5.out⟩
end Go.Proofs.Ytnalbchggjepdaa
