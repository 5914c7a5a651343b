/- Sketch: the reference's search of a secret that fits. No condition. -/
import Derived.Test.YtnienfgaidccpaaPb
import Derived.Test.YtnienfgaidccpaaNb
import Derived.Test.YtnienfgaidccpaaVc
namespace Go.Proofs.Ytnienfgaidccpaa
open Go.RowKit Go.Shelf
attribute [local go_sem] Oper.semAt_some

def tup0 : Value → Value
  | .tuple cs => match cs.toList with
    | V :: _ => V
    | [] => undef
  | _ => undef
theorem lagS_in (V : Int → Int) : ∀ (ps done o : List Int), o.length = done.length + ps.length → In31 o → (lagS V done ps o).length = o.length ∧ In31 (lagS V done ps o)
  | [], _, o, _, h => ⟨rfl, h⟩
  | x :: ps, done, o, h1, h2 => by
    have hl : (lagP x [V x] (done ++ ps)).length ≤ o.length := by rw [lagP_len, h1]; simp; omega
    have := lagS_in V ps (done ++ [x]) (addL o (lagP x [V x] (done ++ ps))) (by rw [addL_len _ _ hl, h1]; simp; omega) (addL_in _ _ h2)
    rw [addL_len _ _ hl] at this
    exact this
theorem lag_in (V : Int → Int) (ps : List Int) : (lag V ps).length = ps.length ∧ In31 (lag V ps) := by
  have := lagS_in V ps [] (List.replicate ps.length 0) (by simp) (fun s hs => by have := (List.mem_replicate.1 hs).2; omega)
  simpa [lag] using this
theorem refNeed_any (m n : Nat) (hm : m ≤ 1000) (hn : n ≤ 1000) (w : World) : Calls Try.prog 34 #[.int .i64 (m : Nat), .int .i64 (n : Nat)] w fun e w' => e = .returned (.int .i64 (need m n : Nat)) ∧ w = w' := by
  have z1 : IntKind.i64.wrap ((m : Int) + (n : Int)) = (m : Int) + (n : Int) := IntWalk.i64_in _ (by omega)
  have z2 : IntKind.i64.wrap ((m : Int) + (n : Int) + 1) = (m : Int) + (n : Int) + 1 := IntWalk.i64_in _ (by omega)
  have z3 : ((m : Int) + (n : Int) + 1).tdiv 2 = ((need m n : Nat) : Int) := by
    rw [Int.tdiv_eq_ediv_of_nonneg (by omega)]
    unfold need; omega
  have z4 : IntKind.i64.wrap ((need m n : Nat) : Int) = ((need m n : Nat) : Int) := IntWalk.i64_in _ (by unfold need; omega)
  go_enter Try.func34, Try.ntmps34
  go_wp2_with fail
  go_ret
  trivial
/-- What a search returns. -/
def SPost (o : Option (List Int)) (n : Nat) (w : World) (e : Ending) (w' : World) : Prop := match o with
  | none => ∃ V, e = .returned (.tuple #[V, .bool false]) ∧ Below w.heap.size w w'
  | some r => ∃ A c, e = .returned (.tuple #[.slice A n c, .bool true]) ∧ Own w w' [row 3 1 (.slice A n c) n (i64s r)]
def SrSays (v pl : List Int) (n k : Nat) : Prop := ∀ (ch os : List Int) (Av As Ac Ao : Option Addr) (np lc no cv cs cc co : Nat) (w : World), Rd w Av (i64s v) → Rd w As (i64s pl) → Rd w Ac (i64s ch) → Rd w Ao (i64s os) →
  31 = v.length → np = pl.length → lc = ch.length → no = os.length → lc + k = n → In31 ch → In31 os → no ≤ 1000 → no ≤ co →
  Calls Try.prog 25 #[.slice Av 31 cv, .slice As np cs, .int .i64 (n : Nat), .slice Ac lc cc, .slice Ao no co] w (SPost (srch (tstL (vaV v) pl n) os k ch) n w)
theorem rd_tail {w : World} {b off : Nat} {l : List Int} (h : Rd w (some ⟨b, off, none⟩) (i64s l)) (k : Nat) : Rd w (some ⟨b, off + k, none⟩) (i64s (l.drop k)) := by
  rcases h with h | ⟨b', off', e, hb, hc⟩
  · have : l = [] := by simpa [i64s] using h
    exact .inl (by simp [this, i64s])
  · injection e with e
    injection e with e1 e2
    subst e1 e2
    refine .inr ⟨b, off + k, rfl, hb, fun j u hu => ?_⟩
    rw [Nat.add_assoc]
    refine hc _ _ ?_
    rw [i64s, List.map_drop, List.getElem?_drop] at hu
    exact hu
set_option maxRecDepth 100000 in
set_option maxHeartbeats 8000000 in
theorem search_any (v pl : List Int) (n : Nat) (vi : In31 v) (pi : In31 pl) (hpl : pl.length ≤ 1000) (h1 : 1 ≤ n) (h4 : n ≤ 4) : ∀ k, SrSays v pl n k
  | 0 => by
    intro ch os Av As Ac Ao np lc no cv cs cc co w rv rs rc ro e31 enp elc eno hk ci oi hno hco
    rw [srch_zero, tstL]
    obtain ⟨g1, g2⟩ := lag_in (vaV v) ch
    have KT := Lib.hid (fun W (h : Below w.heap.size w W) => refThrough_any v ch Av Ac 31 lc cv cc W (rv.below h) (rc.below h) e31 elc rfl (by omega) vi ci)
    have KA := Lib.hid (fun A' c' W (hf : Rd W A' (i64s (lag (vaV v) ch))) (h : Below w.heap.size w W) => refAgree_any (lag (vaV v) ch) v pl A' Av As lc 31 np c' cv cs W hf (rv.below h) (rs.below h) (by rw [g1, elc]) e31 enp (by omega) rfl (by omega) g2 pi)
    have KN := Lib.hid (fun W1 => refNeed_any np n (by omega) (by omega) W1)
    rw [← enp]
    unfold OneRow at KT
    generalize lag (vaV v) ch = LG at *
    generalize agr (vaV v) LG pl = ag at *
    generalize need np n = nd at *
    obtain rfl : lc = n := by omega
    clear rv rs rc ro e31 enp elc eno hk ci oi vi pi hpl g1 g2
    by_cases hag : nd ≤ ag
    · as_aux_lemma =>
      rw [if_pos hag]
      have hag' : (nd : Int) ≤ (ag : Int) := by omega
      go_enter Try.func25, Try.ntmps25
      go_wp2_with fail
      refine (KT.out _ (Below.refl _ _)).mono ?_
      rintro e w1 ⟨A1, c1, rfl, hO1⟩
      have S1 := Lib.hid hO1
      clear hO1
      go_wp2_with fail
      refine (KA.out A1 c1 _ (S1.out.rd 0 rfl) S1.out.bel).mono ?_
      rintro e w2 ⟨rfl, hb2⟩
      have S2 := Lib.hid (S1.out.ext hb2)
      clear hb2 S1
      go_wp2_with fail
      refine (KN.out _).mono ?_
      rintro e w3 ⟨rfl, rfl⟩
      go_wp2_with fail
      go_ret2
      exact ⟨A1, c1, rfl, S2.out⟩
    · as_aux_lemma =>
      rw [if_neg hag]
      have hag' : (ag : Int) < (nd : Int) := by omega
      go_enter Try.func25, Try.ntmps25
      go_wp2_with fail
      refine (KT.out _ (Below.refl _ _)).mono ?_
      rintro e w1 ⟨A1, c1, rfl, hO1⟩
      have S1 := Lib.hid hO1
      clear hO1
      go_wp2_with fail
      refine (KA.out A1 c1 _ (S1.out.rd 0 rfl) S1.out.bel).mono ?_
      rintro e w2 ⟨rfl, hb2⟩
      have S2 := Lib.hid (S1.out.ext hb2)
      clear hb2 S1
      go_wp2_with fail
      refine (KN.out _).mono ?_
      rintro e w3 ⟨rfl, rfl⟩
      go_wp2_with fail
      go_ret2
      exact ⟨_, rfl, S2.out.bel⟩
  | k + 1 => by
    have ih := search_any v pl n vi pi hpl h1 h4 k
    intro ch os Av As Ac Ao np lc no cv cs cc co w rv rs rc ro e31 enp elc eno hk ci oi hno hco
    have HRC := Lib.hid (fun (x : Int) (i : Nat) (hi : i < os.length) (hx : os[i] = x) Ao' A' c' W (h : Rd W A' (i64s (ch ++ [x]))) (hb : Below w.heap.size w W) (hr : Rd W Ao' (i64s (os.drop (i + 1)))) =>
      ih (ch ++ [x]) (os.drop (i + 1)) Av As A' Ao' np (lc + 1) (no - (i + 1)) cv cs c' (co - (i + 1)) W (rv.below hb) (rs.below hb) h hr e31 enp (by rw [List.length_append, elc]; rfl) (by rw [List.length_drop, eno]) (by omega)
        (fun s hs => by rcases List.mem_append.1 hs with hs | hs
                        · exact ci s hs
                        · have : s = x := by simpa using hs
                          rw [this, ← hx]; exact oi _ (List.getElem_mem hi)) (fun s hs => oi s (List.mem_of_mem_drop hs)) (by omega) (by omega))
    have HCH := Lib.hid (fun W (h : Below w.heap.size w W) => rc.below h)
    have HCL := Lib.hid (show (i64s ch).length = lc * 1 by rw [i64s_len, elc]; omega)
    have HOS := Lib.hid (fun W (h : Below w.heap.size w W) => ro.below h)
    have HNO := Lib.hid eno
    have hlc : lc ≤ 4 := by omega
    have hne : ((lc : Int) == (n : Int)) = false := by simp; omega
    obtain ⟨RR, hRR⟩ : ∃ RR, RR = srch (tstL (vaV v) pl n) os (k + 1) ch := ⟨_, rfl⟩
    rw [← hRR]
    have H0 := Lib.hid (show RR = srch (tstL (vaV v) pl n) (os.drop 0) (k + 1) ch by rw [List.drop_zero, hRR])
    clear ih rv rs rc ro e31 enp elc eno hk ci oi vi pi hpl h1 h4 hRR
    generalize hTS : tstL (vaV v) pl n = TS at *
    clear hTS
    go_enter Try.func25, Try.ntmps25
    go_wp2_with fail
    go_loopg [13] no (fun q u13 wr => ∃ i : Nat, i ≤ no ∧ u13 = .int .i64 (i : Nat) ∧ Hid (RR = srch TS (os.drop i) (k + 1) ch ∧ i + q = no ∧ Own w wr []))
    case atStart => exact ⟨0, by omega, rfl, H0.out, by omega, Own.start w⟩
    case round =>
      obtain ⟨i, hi, rfl, hI⟩ := hrel
      have I0 := Lib.hid hI.out.1
      have I1 := Lib.hid hI.out.2.1
      have I2 := Lib.hid hI.out.2.2
      clear hI H0
      by_cases hlt : i < no
      case neg => as_aux_lemma =>
        obtain rfl : i = no := by omega
        have hni : ¬ (i : Int) < (i : Int) := by omega
        have HE := Lib.hid (show RR = none by rw [I0.out, List.drop_of_length_le (by rw [← HNO.out]; exact Nat.le_refl _)]; rfl)
        go_wp2_with fail
        go_ret2
        rw [HE.out]
        exact ⟨_, rfl, I2.out.bel⟩
      have hil : i < os.length := by rw [← HNO.out]; exact hlt
      have hix : (i : Int) < (no : Int) := by omega
      obtain ⟨bo, oo, rfl, -, -⟩ := (HOS.out _ I2.out.bel).i64 hil
      have HCX := Lib.hid (fun W (h : Below w.heap.size w W) => (show W.cell? ⟨bo, oo + i, none⟩ = some (.int .i64 os[i]) ∧ bo < W.heap.size by
        obtain ⟨b, o, e, h1, h2⟩ := (HOS.out W h).i64 hil
        simp only [Option.some.injEq, Addr.mk.injEq] at e
        obtain ⟨rfl, rfl, _⟩ := e
        exact ⟨h1, h2⟩))
      have HSR := Lib.hid (show RR = match srch TS (os.drop (i + 1)) k (ch ++ [os[i]]) with
          | some r => some r
          | none => srch TS (os.drop (i + 1)) (k + 1) ch by rw [I0.out, List.drop_eq_getElem_cons hil]; rfl)
      have HREC := Lib.hid (fun A' c' W (h : Rd W A' (i64s (ch ++ [os[i]]))) (hb : Below w.heap.size w W) => HRC.out os[i] i hil rfl (if co = i + 1 then some ⟨bo, oo, none⟩ else some ⟨bo, oo + (i + 1), none⟩) A' c' W h hb (by
        by_cases hc : co = i + 1
        · rw [List.drop_of_length_le (by have := HNO.out; omega)]; exact Rd.nil _ _
        · rw [if_neg hc]; exact rd_tail (HOS.out W hb) (i + 1)))
      generalize os[i] = x at *
      generalize srch TS (os.drop (i + 1)) k (ch ++ [x]) = SR at *
      have y1 : IntKind.i64.wrap ((i : Int) + 1) = (i : Int) + 1 := IntWalk.i64_in _ (by omega)
      have y2 : (0 : Int) ≤ (i : Int) + 1 := by omega
      have y3 : ((i : Int) + 1).toNat = i + 1 := by omega
      have y4 : i + 1 ≤ no := by omega
      have y5 : i ≤ co := by omega
      have y6 : (i : Int) + 1 ≤ (no : Int) := by omega
      clear hil HRC I0
      go_upto_region 7 with fail
      rcases SR with _ | r
      · as_aux_lemma =>
        have HE := Lib.hid (show RR = srch TS (os.drop (i + 1)) (k + 1) ch from HSR.out)
        unfold SPost at HREC
        clear HSR
        refine wp_region_state 61 [(40, (.slice Av 31 cv)), (41, (.slice As np cs)), (42, (.int .i64 (n : Nat))), (44, (.slice Ac lc cc)), (46, (.slice (some ⟨bo, oo, none⟩) no co)), (47, (.int .i64 (i : Nat))), (48, (.pointer (some ⟨bo, oo + i, none⟩))), (49, (.int .i64 x)), (52, (.slice (some ⟨bo, oo, none⟩) no co)), (53, (.int .i64 (i : Nat))), (54, (.int .i64 ((i : Int) + 1))), (55, (.slice (if co = i + 1 then some ⟨bo, oo, none⟩ else some ⟨bo, oo + (i + 1), none⟩) (no - (i + 1)) (co - (i + 1)))), (58, (.bool false)), (15, (.bool false))] (fun L vs w' => Own w w' [cond (L 11) (row 3 1 (vs 51) (lc + 1) (i64s (ch ++ [x]))) (cond (L 5) (row 3 1 (vs 45) lc (i64s ch)) (cond (L 3) (row 3 1 (vs 43) 0 []) (row 3 1 (.slice none 0 0) 0 []))), cond (L 10) (row 3 1 (vs 50) 1 [.int .i64 x]) (row 3 1 (.slice none 0 0) 0 [])] ∧ (L 16 = true → vs 56 = .tuple #[tup0 (vs 56), .bool false]) ∧ (L 17 = true → vs 39 = vs 56) ∧ (L 18 = true → vs 57 = tup0 (vs 56)) ∧ (L 20 = true → vs 14 = tup0 (vs 56))) (by kernel_rfl) (by kernel_rfl) [40, 41, 42, 43, 44, 45, 46, 47, 48, 49, 50, 51, 52, 53, 54, 55, 56, 39, 57, 58, 14, 15] (by kernel_rfl) rfl (by kernel_rfl) 22 rfl ?_ ?_ ?_
        · exact fun L hL => ⟨(((I2.out.nil 3 1).nil 3 1).ext (Below.refl _ _).drew).cast (by simp [hL 11 (by decide), hL 5 (by decide), hL 3 (by decide), hL 10 (by decide)]), (fun h => absurd ((hL 16 (by decide)).symm.trans h) (by decide)), (fun h => absurd ((hL 17 (by decide)).symm.trans h) (by decide)), (fun h => absurd ((hL 18 (by decide)).symm.trans h) (by decide)), (fun h => absurd ((hL 20 (by decide)).symm.trans h) (by decide))⟩
        · refine ⟨StepS.of [] (by kernel_rfl) ?_, ?_⟩
          · intro L vs wq hL hA hC hJ
            unfold forAll
            exact StepV.val 40 (by kernel_rfl) (by kernel_rfl) rfl (by simp) rfl rfl hJ
          refine ⟨StepS.of [] (by kernel_rfl) ?_, ?_⟩
          · intro L vs wq hL hA hC hJ
            unfold forAll
            exact StepV.val 41 (by kernel_rfl) (by kernel_rfl) rfl (by simp) rfl rfl hJ
          refine ⟨StepS.of [] (by kernel_rfl) ?_, ?_⟩
          · intro L vs wq hL hA hC hJ
            unfold forAll
            exact StepV.val 42 (by kernel_rfl) (by kernel_rfl) rfl (by simp) rfl rfl hJ
          refine ⟨StepS.of [] (by kernel_rfl) ?_, ?_⟩
          · intro L vs wq hL hA hC hJ
            unfold forAll
            have h5 := hC.no (j := 5) (i := 3) (by kernel_rfl) hL
            have h11 := hC.no (j := 11) (i := 5) (by kernel_rfl) h5
            have h16 := hC.no (j := 16) (i := 11) (by kernel_rfl) h11
            have h17 := hC.no (j := 17) (i := 16) (by kernel_rfl) h16
            have h18 := hC.no (j := 18) (i := 17) (by kernel_rfl) h17
            have h20 := hC.no (j := 20) (i := 18) (by kernel_rfl) h18
            have K := Own.cast (qs := [row 3 1 (.slice none 0 0) 0 [], cond (L 10) (row 3 1 (vs 50) 1 [.int .i64 x]) (row 3 1 (.slice none 0 0) 0 [])]) hJ.1 (by simp [hL, h5, h11])
            have K2 := (K.new' 3 #[] (B := wq.heap.size) rfl).asRow (size := 1) (n := 0) 0 rfl rfl (by unfold maxLen; omega)
            have K3 := K2.sub [0, 2] (by decide) (qs := [row 3 1 (.slice (some ⟨wq.heap.size, 0, none⟩) 0 0) 0 [], cond (L 10) (row 3 1 (vs 50) 1 [.int .i64 x]) (row 3 1 (.slice none 0 0) 0 [])]) rfl
            exact StepV.val 43 (v := .slice (some ⟨wq.heap.size, 0, none⟩) 0 0) (w' := wq.alloc (.cells #[] 3)) (by kernel_rfl) (by go_simp) rfl (by simp) rfl trivial ⟨K3.cast (by simp [upd, updv, h5, h11]), (fun h => by simp [upd, h16] at h), (fun h => by simp [upd, h17] at h), (fun h => by simp [upd, h18] at h), (fun h => by simp [upd, h20] at h)⟩
          refine ⟨StepS.of [] (by kernel_rfl) ?_, ?_⟩
          · intro L vs wq hL hA hC hJ
            unfold forAll
            exact StepV.val 44 (by kernel_rfl) (by kernel_rfl) rfl (by simp) rfl rfl hJ
          refine ⟨StepS.of [43, 44] (by kernel_rfl) ?_, ?_⟩
          · intro L vs wq hL hA hC hJ h43 h44
            rw [(show vs 44 = (.slice Ac lc cc) from h44)]
            unfold forAll
            have h3 := afterS hA (i := 3) (by kernel_rfl)
            have h11 := hC.no (j := 11) (i := 5) (by kernel_rfl) hL
            have h16 := hC.no (j := 16) (i := 11) (by kernel_rfl) h11
            have h17 := hC.no (j := 17) (i := 16) (by kernel_rfl) h16
            have h18 := hC.no (j := 18) (i := 17) (by kernel_rfl) h17
            have h20 := hC.no (j := 20) (i := 18) (by kernel_rfl) h18
            have K := Own.cast (qs := [row 3 1 (vs 43) 0 [], cond (L 10) (row 3 1 (vs 50) 1 [.int .i64 x]) (row 3 1 (.slice none 0 0) 0 [])]) hJ.1 (by simp [hL, h3, h11])
            obtain ⟨A8, c8, e8, ho8⟩ := rd_of_own (K.get 0 rfl)
            rw [e8]
            refine StepV.app 45 rfl (.tmp 43) (.tmp 44) 22 rfl rfl (by simp [Act.put]) rfl stI 0 K rfl (by simp [Act.eval, Act.put, e8]) (by first | (simp [Act.eval, Act.put]; done) | (simp [Act.eval, Act.put]; rfl)) lc (i64s ch) (i64s ch) (by omega) rfl (HCH.out wq K.bel) HCL.out (i64s_one ch) (by unfold maxLen; omega) (by omega) ?_
            intro A9 c9 w9 hO9
            exact ⟨trivial, hO9.cast (by simp [upd, updv, h3, h11]), (fun h => by simp [upd, h16] at h), (fun h => by simp [upd, h17] at h), (fun h => by simp [upd, h18] at h), (fun h => by simp [upd, h20] at h)⟩
          refine ⟨StepS.of [] (by kernel_rfl) ?_, ?_⟩
          · intro L vs wq hL hA hC hJ
            unfold forAll
            exact StepV.val 46 (by kernel_rfl) (by kernel_rfl) rfl (by simp) rfl rfl hJ
          refine ⟨StepS.of [] (by kernel_rfl) ?_, ?_⟩
          · intro L vs wq hL hA hC hJ
            unfold forAll
            exact StepV.val 47 (by kernel_rfl) (by kernel_rfl) rfl (by simp) rfl rfl hJ
          refine ⟨StepS.of [46, 47] (by kernel_rfl) ?_, ?_⟩
          · intro L vs wq hL hA hC hJ h46 h47
            rw [(show vs 46 = (.slice (some ⟨bo, oo, none⟩) no co) from h46), (show vs 47 = (.int .i64 (i : Nat)) from h47)]
            unfold forAll
            exact StepV.val 48 (by kernel_rfl) (by go_simp) rfl (by simp [Act.put]) rfl rfl hJ
          refine ⟨StepS.of [48] (by kernel_rfl) ?_, ?_⟩
          · intro L vs wq hL hA hC hJ h48
            rw [(show vs 48 = (.pointer (some ⟨bo, oo + i, none⟩)) from h48)]
            unfold forAll
            obtain ⟨t0, tl⟩ := HCX.out wq hJ.1.bel
            exact StepV.val 49 (by kernel_rfl) (by go_simp) rfl (by simp [Act.put]) rfl rfl hJ
          refine ⟨StepS.of [49] (by kernel_rfl) ?_, ?_⟩
          · intro L vs wq hL hA hC hJ h49
            rw [(show vs 49 = (.int .i64 x) from h49)]
            unfold forAll
            have h11 := hC.no (j := 11) (i := 10) (by kernel_rfl) hL
            have h16 := hC.no (j := 16) (i := 11) (by kernel_rfl) h11
            have h17 := hC.no (j := 17) (i := 16) (by kernel_rfl) h16
            have h18 := hC.no (j := 18) (i := 17) (by kernel_rfl) h17
            have h20 := hC.no (j := 20) (i := 18) (by kernel_rfl) h18
            have K := Own.cast (qs := [cond (L 11) (row 3 1 (vs 51) (lc + 1) (i64s (ch ++ [x]))) (cond (L 5) (row 3 1 (vs 45) lc (i64s ch)) (cond (L 3) (row 3 1 (vs 43) 0 []) (row 3 1 (.slice none 0 0) 0 []))), row 3 1 (.slice none 0 0) 0 []]) hJ.1 (by simp [hL, h11])
            have K2 := (K.new' 3 #[.int .i64 x] (B := wq.heap.size) rfl).asRow (size := 1) (n := 1) 0 rfl rfl (by unfold maxLen; omega)
            have K3 := K2.sub [1, 0] (by decide) (qs := [cond (L 11) (row 3 1 (vs 51) (lc + 1) (i64s (ch ++ [x]))) (cond (L 5) (row 3 1 (vs 45) lc (i64s ch)) (cond (L 3) (row 3 1 (vs 43) 0 []) (row 3 1 (.slice none 0 0) 0 []))), row 3 1 (.slice (some ⟨wq.heap.size, 0, none⟩) 1 1) 1 [.int .i64 x]]) rfl
            exact StepV.val 50 (v := .slice (some ⟨wq.heap.size, 0, none⟩) 1 1) (w' := wq.alloc (.cells #[.int .i64 x] 3)) (by kernel_rfl) (by go_simp) rfl (by simp [Act.put]) rfl trivial ⟨K3.cast (by simp [upd, updv, h11]), (fun h => by simp [upd, h16] at h), (fun h => by simp [upd, h17] at h), (fun h => by simp [upd, h18] at h), (fun h => by simp [upd, h20] at h)⟩
          refine ⟨StepS.of [45, 50] (by kernel_rfl) ?_, ?_⟩
          · intro L vs wq hL hA hC hJ h45 h50
            unfold forAll
            have h5 := afterS hA (i := 5) (by kernel_rfl)
            have h10 := afterS hA (i := 10) (by kernel_rfl)
            have h16 := hC.no (j := 16) (i := 11) (by kernel_rfl) hL
            have h17 := hC.no (j := 17) (i := 16) (by kernel_rfl) h16
            have h18 := hC.no (j := 18) (i := 17) (by kernel_rfl) h17
            have h20 := hC.no (j := 20) (i := 18) (by kernel_rfl) h18
            have K := Own.cast (qs := [row 3 1 (vs 45) lc (i64s ch), row 3 1 (vs 50) 1 [.int .i64 x]]) hJ.1 (by simp [hL, h5, h10])
            obtain ⟨A8, c8, e8, ho8⟩ := rd_of_own (K.get 0 rfl)
            obtain ⟨A7, c7, e7, ho7⟩ := rd_of_own (K.get 1 rfl)
            rw [e8, e7]
            refine StepV.app 51 rfl (.tmp 45) (.tmp 50) 22 rfl rfl (by simp [Act.put]) rfl stI 0 K rfl (by simp [Act.eval, Act.put, e8]) (by first | (simp [Act.eval, Act.put]; done) | (simp [Act.eval, Act.put]; rfl)) (lc + 1) (i64s (ch ++ [x])) [.int .i64 x] rfl (i64s_app ch x) ho7.rd rfl (by simp [Value.oneCell']) (by unfold maxLen; omega) (by omega) ?_
            intro A9 c9 w9 hO9
            exact ⟨trivial, hO9.cast (by simp [upd, updv, h5, h10]), (fun h => by simp [upd, h16] at h), (fun h => by simp [upd, h17] at h), (fun h => by simp [upd, h18] at h), (fun h => by simp [upd, h20] at h)⟩
          refine ⟨StepS.of [] (by kernel_rfl) ?_, ?_⟩
          · intro L vs wq hL hA hC hJ
            unfold forAll
            exact StepV.val 52 (by kernel_rfl) (by kernel_rfl) rfl (by simp) rfl rfl hJ
          refine ⟨StepS.of [] (by kernel_rfl) ?_, ?_⟩
          · intro L vs wq hL hA hC hJ
            unfold forAll
            exact StepV.val 53 (by kernel_rfl) (by kernel_rfl) rfl (by simp) rfl rfl hJ
          refine ⟨StepS.of [53] (by kernel_rfl) ?_, ?_⟩
          · intro L vs wq hL hA hC hJ h53
            rw [(show vs 53 = (.int .i64 (i : Nat)) from h53)]
            unfold forAll
            exact StepV.val 54 (by kernel_rfl) (by go_simp) rfl (by simp [Act.put]) rfl rfl hJ
          refine ⟨StepS.of [52, 54] (by kernel_rfl) ?_, ?_⟩
          · intro L vs wq hL hA hC hJ h52 h54
            rw [(show vs 52 = (.slice (some ⟨bo, oo, none⟩) no co) from h52), (show vs 54 = (.int .i64 ((i : Int) + 1)) from h54)]
            unfold forAll
            exact StepV.val 55 (by kernel_rfl) (by go_simp) rfl (by simp [Act.put]) rfl rfl hJ
          refine ⟨StepS.of [40, 41, 42, 51, 55] (by kernel_rfl) ?_, ?_⟩
          · intro L vs wq hL hA hC hJ h40 h41 h42 h51 h55
            rw [(show vs 40 = (.slice Av 31 cv) from h40), (show vs 41 = (.slice As np cs) from h41), (show vs 42 = (.int .i64 (n : Nat)) from h42), (show vs 55 = (.slice (if co = i + 1 then some ⟨bo, oo, none⟩ else some ⟨bo, oo + (i + 1), none⟩) (no - (i + 1)) (co - (i + 1))) from h55)]
            unfold forAll
            have h11 := afterS hA (i := 11) (by kernel_rfl)
            have h10 := hC.yes (j := 11) (i := 10) (by kernel_rfl) h11
            have h17 := hC.no (j := 17) (i := 16) (by kernel_rfl) hL
            have h18 := hC.no (j := 18) (i := 17) (by kernel_rfl) h17
            have h20 := hC.no (j := 20) (i := 18) (by kernel_rfl) h18
            have K := Own.cast (qs := [row 3 1 (vs 51) (lc + 1) (i64s (ch ++ [x])), row 3 1 (vs 50) 1 [.int .i64 x]]) hJ.1 (by simp [h11, h10])
            obtain ⟨A8, c8, e8, ho8⟩ := rd_of_own (K.get 0 rfl)
            rw [e8]
            refine StepV.call (f := 25) (w1 := wq) (args := #[.slice Av 31 cv, .slice As np cs, .int .i64 (n : Nat), .slice A8 (lc + 1) c8, .slice (if co = i + 1 then some ⟨bo, oo, none⟩ else some ⟨bo, oo + (i + 1), none⟩) (no - (i + 1)) (co - (i + 1))]) 56 (by kernel_rfl) (by kernel_rfl) rfl (by simp [Act.put]) rfl ?_
            refine (HREC.out A8 c8 wq ho8.rd K.bel).mono ?_
            rintro e w8 ⟨V, rfl, hb8⟩
            exact ⟨_, rfl, trivial, (K.ext hb8).cast (by simp [upd, updv, h11, h10]), (fun _ => rfl), (fun h => by simp [upd, h17] at h), (fun h => by simp [upd, h18] at h), (fun h => by simp [upd, h20] at h)⟩
          refine ⟨StepS.of [56] (by kernel_rfl) ?_, ?_⟩
          · intro L vs wq hL hA hC hJ h56
            unfold forAll
            have h16 := afterS hA (i := 16) (by kernel_rfl)
            exact StepV.val 39 (v := vs 56) (by kernel_rfl) (by kernel_rfl) rfl (by simp [Act.put]) rfl trivial ⟨hJ.1, hJ.2.1, (fun _ => rfl), hJ.2.2.2.1, hJ.2.2.2.2⟩
          refine ⟨StepS.of [39] (by kernel_rfl) ?_, ?_⟩
          · intro L vs wq hL hA hC hJ h39
            unfold forAll
            have h17 := afterS hA (i := 17) (by kernel_rfl)
            have h16 := hC.yes (j := 17) (i := 16) (by kernel_rfl) h17
            have e9 := (hJ.2.2.1 h17).trans (hJ.2.1 h16)
            obtain ⟨q, hq⟩ : ∃ q, q = tup0 (vs 56) := ⟨_, rfl⟩
            rw [← hq] at e9
            rw [e9]
            exact StepV.val 57 (v := q) (by kernel_rfl) (by kernel_rfl) rfl (by simp [Act.put]) rfl trivial ⟨hJ.1, hJ.2.1, hJ.2.2.1, (fun _ => hq), hJ.2.2.2.2⟩
          refine ⟨StepS.of [39] (by kernel_rfl) ?_, ?_⟩
          · intro L vs wq hL hA hC hJ h39
            unfold forAll
            have h17 := afterS hA (i := 17) (by kernel_rfl)
            have h16 := hC.yes (j := 17) (i := 16) (by kernel_rfl) h17
            have e9 := (hJ.2.2.1 h17).trans (hJ.2.1 h16)
            obtain ⟨q, hq⟩ : ∃ q, q = tup0 (vs 56) := ⟨_, rfl⟩
            rw [← hq] at e9
            rw [e9]
            exact StepV.val 58 (v := .bool false) (by kernel_rfl) (by kernel_rfl) rfl (by simp [Act.put]) rfl rfl hJ
          refine ⟨StepS.of [57] (by kernel_rfl) ?_, ?_⟩
          · intro L vs wq hL hA hC hJ h57
            unfold forAll
            have h18 := afterS hA (i := 18) (by kernel_rfl)
            have e57 := hJ.2.2.2.1 h18
            exact StepV.val 14 (v := vs 57) (by kernel_rfl) (by kernel_rfl) rfl (by simp [Act.put]) rfl trivial ⟨hJ.1, hJ.2.1, hJ.2.2.1, hJ.2.2.2.1, (fun _ => e57)⟩
          refine ⟨StepS.of [58] (by kernel_rfl) ?_, ?_⟩
          · intro L vs wq hL hA hC hJ h58
            rw [(show vs 58 = (.bool false) from h58)]
            unfold forAll
            exact StepV.val 15 (by kernel_rfl) (by kernel_rfl) rfl (by simp [Act.put]) rfl rfl hJ
          exact trivial
        · intro vs w9 hJ h40 h41 h42 h43 h44 h45 h46 h47 h48 h49 h50 h51 h52 h53 h54 h55 h56 h39 h57 h58 h14 h15
          rw [(show vs 40 = (.slice Av 31 cv) from h40), (show vs 41 = (.slice As np cs) from h41), (show vs 42 = (.int .i64 (n : Nat)) from h42), (show vs 44 = (.slice Ac lc cc) from h44), (show vs 46 = (.slice (some ⟨bo, oo, none⟩) no co) from h46), (show vs 47 = (.int .i64 (i : Nat)) from h47), (show vs 48 = (.pointer (some ⟨bo, oo + i, none⟩)) from h48), (show vs 49 = (.int .i64 x) from h49), (show vs 52 = (.slice (some ⟨bo, oo, none⟩) no co) from h52), (show vs 53 = (.int .i64 (i : Nat)) from h53), (show vs 54 = (.int .i64 ((i : Int) + 1)) from h54), (show vs 55 = (.slice (if co = i + 1 then some ⟨bo, oo, none⟩ else some ⟨bo, oo + (i + 1), none⟩) (no - (i + 1)) (co - (i + 1))) from h55), (show vs 58 = (.bool false) from h58), (show vs 15 = (.bool false) from h15)]
          clear h40 h41 h42 h43 h44 h45 h46 h47 h48 h49 h50 h51 h52 h53 h54 h55 h56 h39 h57 h58 h14 h15
          obtain ⟨K, q1, q2, q3, q4⟩ := hJ
          have S9 := Lib.hid (K.sub [] (by decide) (qs := []) rfl)
          clear K q1 q2 q3 q4
          unfold forAll
          simp only [Act.put, List.setIfInBounds_toArray, List.set_cons_zero, List.set_cons_succ]
          clear I2 HREC HCX y1 y2 y3 y4 y5 y6
          have z1 : IntKind.i64.wrap ((i : Int) + 1) = ((i + 1 : Nat) : Int) := by rw [show (i : Int) + 1 = ((i + 1 : Nat) : Int) by omega]; exact IntWalk.i64_in _ (by omega)
          generalize (if co = i + 1 then some (⟨bo, oo, none⟩ : Addr) else some ⟨bo, oo + (i + 1), none⟩) = pz
          go_wp2_with fail
          go_roundg (gk - 1)
          case measure => have := I1.out; omega
          case rel => exact ⟨i + 1, by omega, by go_num, HE.out, by have := I1.out; omega, S9.out⟩
      · as_aux_lemma =>
        have HE := Lib.hid (show RR = some r from HSR.out)
        unfold SPost at HREC
        clear HSR
        refine wp_region_state 61 [(40, (.slice Av 31 cv)), (41, (.slice As np cs)), (42, (.int .i64 (n : Nat))), (44, (.slice Ac lc cc)), (46, (.slice (some ⟨bo, oo, none⟩) no co)), (47, (.int .i64 (i : Nat))), (48, (.pointer (some ⟨bo, oo + i, none⟩))), (49, (.int .i64 x)), (52, (.slice (some ⟨bo, oo, none⟩) no co)), (53, (.int .i64 (i : Nat))), (54, (.int .i64 ((i : Int) + 1))), (55, (.slice (if co = i + 1 then some ⟨bo, oo, none⟩ else some ⟨bo, oo + (i + 1), none⟩) (no - (i + 1)) (co - (i + 1)))), (58, (.bool true)), (15, (.bool true))] (fun L vs w' => Own w w' [cond (L 11) (row 3 1 (vs 51) (lc + 1) (i64s (ch ++ [x]))) (cond (L 5) (row 3 1 (vs 45) lc (i64s ch)) (cond (L 3) (row 3 1 (vs 43) 0 []) (row 3 1 (.slice none 0 0) 0 []))), cond (L 10) (row 3 1 (vs 50) 1 [.int .i64 x]) (row 3 1 (.slice none 0 0) 0 []), cond (L 16) (row 3 1 (tup0 (vs 56)) n (i64s r)) (row 3 1 (.slice none 0 0) 0 [])] ∧ (L 16 = true → vs 56 = .tuple #[tup0 (vs 56), .bool true]) ∧ (L 17 = true → vs 39 = vs 56) ∧ (L 18 = true → vs 57 = tup0 (vs 56)) ∧ (L 20 = true → vs 14 = tup0 (vs 56))) (by kernel_rfl) (by kernel_rfl) [40, 41, 42, 43, 44, 45, 46, 47, 48, 49, 50, 51, 52, 53, 54, 55, 56, 39, 57, 58, 14, 15] (by kernel_rfl) rfl (by kernel_rfl) 22 rfl ?_ ?_ ?_
        · exact fun L hL => ⟨((((I2.out.nil 3 1).nil 3 1).nil 3 1).ext (Below.refl _ _).drew).cast (by simp [hL 11 (by decide), hL 5 (by decide), hL 3 (by decide), hL 10 (by decide), hL 16 (by decide)]), (fun h => absurd ((hL 16 (by decide)).symm.trans h) (by decide)), (fun h => absurd ((hL 17 (by decide)).symm.trans h) (by decide)), (fun h => absurd ((hL 18 (by decide)).symm.trans h) (by decide)), (fun h => absurd ((hL 20 (by decide)).symm.trans h) (by decide))⟩
        · refine ⟨StepS.of [] (by kernel_rfl) ?_, ?_⟩
          · intro L vs wq hL hA hC hJ
            unfold forAll
            exact StepV.val 40 (by kernel_rfl) (by kernel_rfl) rfl (by simp) rfl rfl hJ
          refine ⟨StepS.of [] (by kernel_rfl) ?_, ?_⟩
          · intro L vs wq hL hA hC hJ
            unfold forAll
            exact StepV.val 41 (by kernel_rfl) (by kernel_rfl) rfl (by simp) rfl rfl hJ
          refine ⟨StepS.of [] (by kernel_rfl) ?_, ?_⟩
          · intro L vs wq hL hA hC hJ
            unfold forAll
            exact StepV.val 42 (by kernel_rfl) (by kernel_rfl) rfl (by simp) rfl rfl hJ
          refine ⟨StepS.of [] (by kernel_rfl) ?_, ?_⟩
          · intro L vs wq hL hA hC hJ
            unfold forAll
            have h5 := hC.no (j := 5) (i := 3) (by kernel_rfl) hL
            have h11 := hC.no (j := 11) (i := 5) (by kernel_rfl) h5
            have h16 := hC.no (j := 16) (i := 11) (by kernel_rfl) h11
            have h17 := hC.no (j := 17) (i := 16) (by kernel_rfl) h16
            have h18 := hC.no (j := 18) (i := 17) (by kernel_rfl) h17
            have h20 := hC.no (j := 20) (i := 18) (by kernel_rfl) h18
            have K := Own.cast (qs := [row 3 1 (.slice none 0 0) 0 [], cond (L 10) (row 3 1 (vs 50) 1 [.int .i64 x]) (row 3 1 (.slice none 0 0) 0 []), row 3 1 (.slice none 0 0) 0 []]) hJ.1 (by simp [hL, h5, h11, h16])
            have K2 := (K.new' 3 #[] (B := wq.heap.size) rfl).asRow (size := 1) (n := 0) 0 rfl rfl (by unfold maxLen; omega)
            have K3 := K2.sub [0, 2, 3] (by decide) (qs := [row 3 1 (.slice (some ⟨wq.heap.size, 0, none⟩) 0 0) 0 [], cond (L 10) (row 3 1 (vs 50) 1 [.int .i64 x]) (row 3 1 (.slice none 0 0) 0 []), row 3 1 (.slice none 0 0) 0 []]) rfl
            exact StepV.val 43 (v := .slice (some ⟨wq.heap.size, 0, none⟩) 0 0) (w' := wq.alloc (.cells #[] 3)) (by kernel_rfl) (by go_simp) rfl (by simp) rfl trivial ⟨K3.cast (by simp [upd, updv, h5, h11, h16]), (fun h => by simp [upd, h16] at h), (fun h => by simp [upd, h17] at h), (fun h => by simp [upd, h18] at h), (fun h => by simp [upd, h20] at h)⟩
          refine ⟨StepS.of [] (by kernel_rfl) ?_, ?_⟩
          · intro L vs wq hL hA hC hJ
            unfold forAll
            exact StepV.val 44 (by kernel_rfl) (by kernel_rfl) rfl (by simp) rfl rfl hJ
          refine ⟨StepS.of [43, 44] (by kernel_rfl) ?_, ?_⟩
          · intro L vs wq hL hA hC hJ h43 h44
            rw [(show vs 44 = (.slice Ac lc cc) from h44)]
            unfold forAll
            have h3 := afterS hA (i := 3) (by kernel_rfl)
            have h11 := hC.no (j := 11) (i := 5) (by kernel_rfl) hL
            have h16 := hC.no (j := 16) (i := 11) (by kernel_rfl) h11
            have h17 := hC.no (j := 17) (i := 16) (by kernel_rfl) h16
            have h18 := hC.no (j := 18) (i := 17) (by kernel_rfl) h17
            have h20 := hC.no (j := 20) (i := 18) (by kernel_rfl) h18
            have K := Own.cast (qs := [row 3 1 (vs 43) 0 [], cond (L 10) (row 3 1 (vs 50) 1 [.int .i64 x]) (row 3 1 (.slice none 0 0) 0 []), row 3 1 (.slice none 0 0) 0 []]) hJ.1 (by simp [hL, h3, h11, h16])
            obtain ⟨A8, c8, e8, ho8⟩ := rd_of_own (K.get 0 rfl)
            rw [e8]
            refine StepV.app 45 rfl (.tmp 43) (.tmp 44) 22 rfl rfl (by simp [Act.put]) rfl stI 0 K rfl (by simp [Act.eval, Act.put, e8]) (by first | (simp [Act.eval, Act.put]; done) | (simp [Act.eval, Act.put]; rfl)) lc (i64s ch) (i64s ch) (by omega) rfl (HCH.out wq K.bel) HCL.out (i64s_one ch) (by unfold maxLen; omega) (by omega) ?_
            intro A9 c9 w9 hO9
            exact ⟨trivial, hO9.cast (by simp [upd, updv, h3, h11, h16]), (fun h => by simp [upd, h16] at h), (fun h => by simp [upd, h17] at h), (fun h => by simp [upd, h18] at h), (fun h => by simp [upd, h20] at h)⟩
          refine ⟨StepS.of [] (by kernel_rfl) ?_, ?_⟩
          · intro L vs wq hL hA hC hJ
            unfold forAll
            exact StepV.val 46 (by kernel_rfl) (by kernel_rfl) rfl (by simp) rfl rfl hJ
          refine ⟨StepS.of [] (by kernel_rfl) ?_, ?_⟩
          · intro L vs wq hL hA hC hJ
            unfold forAll
            exact StepV.val 47 (by kernel_rfl) (by kernel_rfl) rfl (by simp) rfl rfl hJ
          refine ⟨StepS.of [46, 47] (by kernel_rfl) ?_, ?_⟩
          · intro L vs wq hL hA hC hJ h46 h47
            rw [(show vs 46 = (.slice (some ⟨bo, oo, none⟩) no co) from h46), (show vs 47 = (.int .i64 (i : Nat)) from h47)]
            unfold forAll
            exact StepV.val 48 (by kernel_rfl) (by go_simp) rfl (by simp [Act.put]) rfl rfl hJ
          refine ⟨StepS.of [48] (by kernel_rfl) ?_, ?_⟩
          · intro L vs wq hL hA hC hJ h48
            rw [(show vs 48 = (.pointer (some ⟨bo, oo + i, none⟩)) from h48)]
            unfold forAll
            obtain ⟨t0, tl⟩ := HCX.out wq hJ.1.bel
            exact StepV.val 49 (by kernel_rfl) (by go_simp) rfl (by simp [Act.put]) rfl rfl hJ
          refine ⟨StepS.of [49] (by kernel_rfl) ?_, ?_⟩
          · intro L vs wq hL hA hC hJ h49
            rw [(show vs 49 = (.int .i64 x) from h49)]
            unfold forAll
            have h11 := hC.no (j := 11) (i := 10) (by kernel_rfl) hL
            have h16 := hC.no (j := 16) (i := 11) (by kernel_rfl) h11
            have h17 := hC.no (j := 17) (i := 16) (by kernel_rfl) h16
            have h18 := hC.no (j := 18) (i := 17) (by kernel_rfl) h17
            have h20 := hC.no (j := 20) (i := 18) (by kernel_rfl) h18
            have K := Own.cast (qs := [cond (L 11) (row 3 1 (vs 51) (lc + 1) (i64s (ch ++ [x]))) (cond (L 5) (row 3 1 (vs 45) lc (i64s ch)) (cond (L 3) (row 3 1 (vs 43) 0 []) (row 3 1 (.slice none 0 0) 0 []))), row 3 1 (.slice none 0 0) 0 [], row 3 1 (.slice none 0 0) 0 []]) hJ.1 (by simp [hL, h11, h16])
            have K2 := (K.new' 3 #[.int .i64 x] (B := wq.heap.size) rfl).asRow (size := 1) (n := 1) 0 rfl rfl (by unfold maxLen; omega)
            have K3 := K2.sub [1, 0, 3] (by decide) (qs := [cond (L 11) (row 3 1 (vs 51) (lc + 1) (i64s (ch ++ [x]))) (cond (L 5) (row 3 1 (vs 45) lc (i64s ch)) (cond (L 3) (row 3 1 (vs 43) 0 []) (row 3 1 (.slice none 0 0) 0 []))), row 3 1 (.slice (some ⟨wq.heap.size, 0, none⟩) 1 1) 1 [.int .i64 x], row 3 1 (.slice none 0 0) 0 []]) rfl
            exact StepV.val 50 (v := .slice (some ⟨wq.heap.size, 0, none⟩) 1 1) (w' := wq.alloc (.cells #[.int .i64 x] 3)) (by kernel_rfl) (by go_simp) rfl (by simp [Act.put]) rfl trivial ⟨K3.cast (by simp [upd, updv, h11, h16]), (fun h => by simp [upd, h16] at h), (fun h => by simp [upd, h17] at h), (fun h => by simp [upd, h18] at h), (fun h => by simp [upd, h20] at h)⟩
          refine ⟨StepS.of [45, 50] (by kernel_rfl) ?_, ?_⟩
          · intro L vs wq hL hA hC hJ h45 h50
            unfold forAll
            have h5 := afterS hA (i := 5) (by kernel_rfl)
            have h10 := afterS hA (i := 10) (by kernel_rfl)
            have h16 := hC.no (j := 16) (i := 11) (by kernel_rfl) hL
            have h17 := hC.no (j := 17) (i := 16) (by kernel_rfl) h16
            have h18 := hC.no (j := 18) (i := 17) (by kernel_rfl) h17
            have h20 := hC.no (j := 20) (i := 18) (by kernel_rfl) h18
            have K := Own.cast (qs := [row 3 1 (vs 45) lc (i64s ch), row 3 1 (vs 50) 1 [.int .i64 x], row 3 1 (.slice none 0 0) 0 []]) hJ.1 (by simp [hL, h5, h10, h16])
            obtain ⟨A8, c8, e8, ho8⟩ := rd_of_own (K.get 0 rfl)
            obtain ⟨A7, c7, e7, ho7⟩ := rd_of_own (K.get 1 rfl)
            rw [e8, e7]
            refine StepV.app 51 rfl (.tmp 45) (.tmp 50) 22 rfl rfl (by simp [Act.put]) rfl stI 0 K rfl (by simp [Act.eval, Act.put, e8]) (by first | (simp [Act.eval, Act.put]; done) | (simp [Act.eval, Act.put]; rfl)) (lc + 1) (i64s (ch ++ [x])) [.int .i64 x] rfl (i64s_app ch x) ho7.rd rfl (by simp [Value.oneCell']) (by unfold maxLen; omega) (by omega) ?_
            intro A9 c9 w9 hO9
            exact ⟨trivial, hO9.cast (by simp [upd, updv, h5, h10, h16]), (fun h => by simp [upd, h16] at h), (fun h => by simp [upd, h17] at h), (fun h => by simp [upd, h18] at h), (fun h => by simp [upd, h20] at h)⟩
          refine ⟨StepS.of [] (by kernel_rfl) ?_, ?_⟩
          · intro L vs wq hL hA hC hJ
            unfold forAll
            exact StepV.val 52 (by kernel_rfl) (by kernel_rfl) rfl (by simp) rfl rfl hJ
          refine ⟨StepS.of [] (by kernel_rfl) ?_, ?_⟩
          · intro L vs wq hL hA hC hJ
            unfold forAll
            exact StepV.val 53 (by kernel_rfl) (by kernel_rfl) rfl (by simp) rfl rfl hJ
          refine ⟨StepS.of [53] (by kernel_rfl) ?_, ?_⟩
          · intro L vs wq hL hA hC hJ h53
            rw [(show vs 53 = (.int .i64 (i : Nat)) from h53)]
            unfold forAll
            exact StepV.val 54 (by kernel_rfl) (by go_simp) rfl (by simp [Act.put]) rfl rfl hJ
          refine ⟨StepS.of [52, 54] (by kernel_rfl) ?_, ?_⟩
          · intro L vs wq hL hA hC hJ h52 h54
            rw [(show vs 52 = (.slice (some ⟨bo, oo, none⟩) no co) from h52), (show vs 54 = (.int .i64 ((i : Int) + 1)) from h54)]
            unfold forAll
            exact StepV.val 55 (by kernel_rfl) (by go_simp) rfl (by simp [Act.put]) rfl rfl hJ
          refine ⟨StepS.of [40, 41, 42, 51, 55] (by kernel_rfl) ?_, ?_⟩
          · intro L vs wq hL hA hC hJ h40 h41 h42 h51 h55
            rw [(show vs 40 = (.slice Av 31 cv) from h40), (show vs 41 = (.slice As np cs) from h41), (show vs 42 = (.int .i64 (n : Nat)) from h42), (show vs 55 = (.slice (if co = i + 1 then some ⟨bo, oo, none⟩ else some ⟨bo, oo + (i + 1), none⟩) (no - (i + 1)) (co - (i + 1))) from h55)]
            unfold forAll
            have h11 := afterS hA (i := 11) (by kernel_rfl)
            have h10 := hC.yes (j := 11) (i := 10) (by kernel_rfl) h11
            have h17 := hC.no (j := 17) (i := 16) (by kernel_rfl) hL
            have h18 := hC.no (j := 18) (i := 17) (by kernel_rfl) h17
            have h20 := hC.no (j := 20) (i := 18) (by kernel_rfl) h18
            have K := Own.cast (qs := [row 3 1 (vs 51) (lc + 1) (i64s (ch ++ [x])), row 3 1 (vs 50) 1 [.int .i64 x], row 3 1 (.slice none 0 0) 0 []]) hJ.1 (by simp [hL, h11, h10])
            obtain ⟨A8, c8, e8, ho8⟩ := rd_of_own (K.get 0 rfl)
            rw [e8]
            refine StepV.call (f := 25) (w1 := wq) (args := #[.slice Av 31 cv, .slice As np cs, .int .i64 (n : Nat), .slice A8 (lc + 1) c8, .slice (if co = i + 1 then some ⟨bo, oo, none⟩ else some ⟨bo, oo + (i + 1), none⟩) (no - (i + 1)) (co - (i + 1))]) 56 (by kernel_rfl) (by kernel_rfl) rfl (by simp [Act.put]) rfl ?_
            refine (HREC.out A8 c8 wq ho8.rd K.bel).mono ?_
            rintro e w8 ⟨A9, c9, rfl, hO9⟩
            exact ⟨_, rfl, trivial, ((K.call hO9).sub [1, 2, 0] (by decide) (qs := [row 3 1 (vs 51) (lc + 1) (i64s (ch ++ [x])), row 3 1 (vs 50) 1 [.int .i64 x], row 3 1 (.slice A9 n c9) n (i64s r)]) rfl).cast (by simp [upd, updv, h11, h10, tup0]), (fun _ => rfl), (fun h => by simp [upd, h17] at h), (fun h => by simp [upd, h18] at h), (fun h => by simp [upd, h20] at h)⟩
          refine ⟨StepS.of [56] (by kernel_rfl) ?_, ?_⟩
          · intro L vs wq hL hA hC hJ h56
            unfold forAll
            have h16 := afterS hA (i := 16) (by kernel_rfl)
            exact StepV.val 39 (v := vs 56) (by kernel_rfl) (by kernel_rfl) rfl (by simp [Act.put]) rfl trivial ⟨hJ.1, hJ.2.1, (fun _ => rfl), hJ.2.2.2.1, hJ.2.2.2.2⟩
          refine ⟨StepS.of [39] (by kernel_rfl) ?_, ?_⟩
          · intro L vs wq hL hA hC hJ h39
            unfold forAll
            have h17 := afterS hA (i := 17) (by kernel_rfl)
            have h16 := hC.yes (j := 17) (i := 16) (by kernel_rfl) h17
            have e9 := (hJ.2.2.1 h17).trans (hJ.2.1 h16)
            obtain ⟨q, hq⟩ : ∃ q, q = tup0 (vs 56) := ⟨_, rfl⟩
            rw [← hq] at e9
            rw [e9]
            exact StepV.val 57 (v := q) (by kernel_rfl) (by kernel_rfl) rfl (by simp [Act.put]) rfl trivial ⟨hJ.1, hJ.2.1, hJ.2.2.1, (fun _ => hq), hJ.2.2.2.2⟩
          refine ⟨StepS.of [39] (by kernel_rfl) ?_, ?_⟩
          · intro L vs wq hL hA hC hJ h39
            unfold forAll
            have h17 := afterS hA (i := 17) (by kernel_rfl)
            have h16 := hC.yes (j := 17) (i := 16) (by kernel_rfl) h17
            have e9 := (hJ.2.2.1 h17).trans (hJ.2.1 h16)
            obtain ⟨q, hq⟩ : ∃ q, q = tup0 (vs 56) := ⟨_, rfl⟩
            rw [← hq] at e9
            rw [e9]
            exact StepV.val 58 (v := .bool true) (by kernel_rfl) (by kernel_rfl) rfl (by simp [Act.put]) rfl rfl hJ
          refine ⟨StepS.of [57] (by kernel_rfl) ?_, ?_⟩
          · intro L vs wq hL hA hC hJ h57
            unfold forAll
            have h18 := afterS hA (i := 18) (by kernel_rfl)
            have e57 := hJ.2.2.2.1 h18
            exact StepV.val 14 (v := vs 57) (by kernel_rfl) (by kernel_rfl) rfl (by simp [Act.put]) rfl trivial ⟨hJ.1, hJ.2.1, hJ.2.2.1, hJ.2.2.2.1, (fun _ => e57)⟩
          refine ⟨StepS.of [58] (by kernel_rfl) ?_, ?_⟩
          · intro L vs wq hL hA hC hJ h58
            rw [(show vs 58 = (.bool true) from h58)]
            unfold forAll
            exact StepV.val 15 (by kernel_rfl) (by kernel_rfl) rfl (by simp [Act.put]) rfl rfl hJ
          exact trivial
        · intro vs w9 hJ h40 h41 h42 h43 h44 h45 h46 h47 h48 h49 h50 h51 h52 h53 h54 h55 h56 h39 h57 h58 h14 h15
          rw [(show vs 40 = (.slice Av 31 cv) from h40), (show vs 41 = (.slice As np cs) from h41), (show vs 42 = (.int .i64 (n : Nat)) from h42), (show vs 44 = (.slice Ac lc cc) from h44), (show vs 46 = (.slice (some ⟨bo, oo, none⟩) no co) from h46), (show vs 47 = (.int .i64 (i : Nat)) from h47), (show vs 48 = (.pointer (some ⟨bo, oo + i, none⟩)) from h48), (show vs 49 = (.int .i64 x) from h49), (show vs 52 = (.slice (some ⟨bo, oo, none⟩) no co) from h52), (show vs 53 = (.int .i64 (i : Nat)) from h53), (show vs 54 = (.int .i64 ((i : Int) + 1)) from h54), (show vs 55 = (.slice (if co = i + 1 then some ⟨bo, oo, none⟩ else some ⟨bo, oo + (i + 1), none⟩) (no - (i + 1)) (co - (i + 1))) from h55), (show vs 58 = (.bool true) from h58), (show vs 15 = (.bool true) from h15)]
          clear h40 h41 h42 h43 h44 h45 h46 h47 h48 h49 h50 h51 h52 h53 h54 h55 h56 h39 h57 h58 h14 h15
          obtain ⟨K, q1, q2, q3, q4⟩ := hJ
          have e14 := q4 rfl
          obtain ⟨A9, c9, e9, _⟩ := rd_of_own (K.get 2 (p := row 3 1 (tup0 (vs 56)) n (i64s r)) rfl)
          rw [e9] at e14
          rw [e14]
          have S9 := Lib.hid ((K.sub [2] (by decide) (qs := [row 3 1 (tup0 (vs 56)) n (i64s r)]) rfl).cast (qs := [row 3 1 (.slice A9 n c9) n (i64s r)]) (by rw [e9]))
          clear K q1 q2 q3 q4 e14 e9
          unfold forAll
          simp only [Act.put, List.setIfInBounds_toArray, List.set_cons_zero, List.set_cons_succ]
          clear I2 HREC HCX y1 y2 y3 y4 y5 y6
          generalize (if co = i + 1 then some (⟨bo, oo, none⟩ : Addr) else some ⟨bo, oo + (i + 1), none⟩) = pz
          go_wp2_with fail
          go_ret2
          rw [HE.out]
          exact ⟨A9, c9, rfl, S9.out⟩
end Go.Proofs.Ytnienfgaidccpaa
