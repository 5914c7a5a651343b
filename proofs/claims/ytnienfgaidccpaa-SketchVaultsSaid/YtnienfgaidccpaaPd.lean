/- Sketch: Lock, Unlock and Rivals of the reference. No condition. -/
import Derived.Test.YtnienfgaidccpaaPc
import Derived.Test.YtnienfgaidccpaaOa
namespace Go.Proofs.Ytnienfgaidccpaa
open Go.RowKit Go.Shelf
attribute [local go_sem] Oper.semAt_some

set_option maxRecDepth 100000 in
set_option maxHeartbeats 4000000 in
theorem sameInts_any (l l' : List Int) (A A' : Option Addr) (n n' cp cp' : Nat) (w : World) (hr : Rd w A (i64s l)) (hr' : Rd w A' (i64s l')) (hn : n = l.length) (hn' : n' = l'.length) (hbig : n ≤ 4611686018427387904) :
    Calls Try.prog 6 #[.slice A n cp, .slice A' n' cp'] w fun e w' => e = .returned (.bool (decide (l = l'))) ∧ Below w.heap.size w w' := by
  by_cases hnn : n = n'
  case neg => as_aux_lemma =>
    have HF := Lib.hid (show decide (l = l') = false by
      rw [decide_eq_false_iff_not]
      rintro rfl
      omega)
    generalize decide (l = l') = v at *
    have g : ¬ (n : Int) = (n' : Int) := by omega
    clear hr hr' hn hn'
    go_enter Try.func6, Try.ntmps6
    go_wp2_with fail
    go_ret
    exact ⟨by rw [HF.out]; rfl, Below.refl _ _⟩
  obtain rfl : n = n' := hnn
  have HR := Lib.hid hr
  have HR' := Lib.hid hr'
  have HN := Lib.hid (show n = l.length ∧ n = l'.length from ⟨hn, hn'⟩)
  have HV := Lib.hid (show decide (l = l') = decide (l.drop 0 = l'.drop 0) by rw [List.drop_zero, List.drop_zero])
  generalize decide (l = l') = v at *
  clear hr hr' hn hn'
  go_enter Try.func6, Try.ntmps6
  go_wp2_with fail
  go_loopg [5] n (fun q u5 wr => ∃ i : Nat, i ≤ n ∧ u5 = .int .i64 (i : Nat) ∧ Hid (v = decide (l.drop i = l'.drop i) ∧ i + q = n ∧ Own w wr []))
  case atStart => exact ⟨0, by omega, rfl, HV.out, by omega, Own.start w⟩
  case round =>
    obtain ⟨i, hi, rfl, hI⟩ := hrel
    have I1 := Lib.hid hI.out.1
    have I2 := Lib.hid hI.out.2.1
    have I3 := Lib.hid hI.out.2.2
    clear hI
    by_cases hlt : i < n
    case neg => as_aux_lemma =>
      have HE := Lib.hid (show v = true by
        rw [I1.out, List.drop_eq_nil_of_le (by have := HN.out.1; omega), List.drop_eq_nil_of_le (by have := HN.out.2; omega)]; rfl)
      have hni : ¬ (i : Int) < (n : Int) := by omega
      go_wp2_with fail
      go_ret
      exact ⟨by rw [HE.out]; rfl, I3.out.bel⟩
    have hil : i < l.length := by have := HN.out.1; omega
    have hil' : i < l'.length := by have := HN.out.2; omega
    have hix : (i : Int) < (n : Int) := by omega
    obtain ⟨b0, off, rfl, k0, l0⟩ := HR.out.i64 hil
    obtain ⟨b1, off1, rfl, k1, l1⟩ := HR'.out.i64 hil'
    have HD := Lib.hid (show v = (decide (l[i] = l'[i]) && decide (l.drop (i + 1) = l'.drop (i + 1))) by
      rw [I1.out, List.drop_eq_getElem_cons hil, List.drop_eq_getElem_cons hil', Bool.eq_iff_iff]
      simp only [decide_eq_true_eq, Bool.and_eq_true, List.cons.injEq])
    generalize l[i] = x at *
    generalize l'[i] = y at *
    have fx0 := fun x : OwnOf w [] => x.out l0 k0
    have fx1 := fun x : OwnOf w [] => x.out l1 k1
    by_cases hx : x = y
    · as_aux_lemma =>
      have HE := Lib.hid (show v = decide (l.drop (i + 1) = l'.drop (i + 1)) by rw [HD.out]; simp [hx])
      subst hx
      go_wp2_with fail
      have hne : Nonempty (OwnOf w []) := ⟨⟨_, I3.out⟩⟩
      refine wp_region_own I3.out (by kernel_rfl) (by kernel_rfl) ?_
      iterate 9 (go_big_quiet_step (fail))
      refine wpQuiet_nil ?_
      rintro w3 ⟨z, hz⟩
      have S3 := Lib.hid (show Own w w3 [] by rw [hz]; exact z.own)
      clear hz z hne fx0 fx1
      go_wp2_with fail
      go_roundg (gk - 1)
      case measure => have := I2.out; omega
      case rel => exact ⟨i + 1, by omega, by go_num, HE.out, by have := I2.out; omega, S3.out⟩
    · as_aux_lemma =>
      have HE := Lib.hid (show v = false by rw [HD.out]; simp [hx])
      have hx2 : ¬ x = y := hx
      go_wp2_with fail
      have hne : Nonempty (OwnOf w []) := ⟨⟨_, I3.out⟩⟩
      refine wp_region_own I3.out (by kernel_rfl) (by kernel_rfl) ?_
      iterate 9 (go_big_quiet_step (fail))
      refine wpQuiet_nil ?_
      rintro w3 ⟨z, hz⟩
      have S3 := Lib.hid (show Own w w3 [] by rw [hz]; exact z.own)
      clear hz z hne fx0 fx1
      go_wp2_with fail
      go_ret
      exact ⟨by rw [HE.out]; rfl, S3.out.bel⟩
theorem tab_snoc (k : Nat) (f : Nat → Int) : tab (k + 1) f = tab k f ++ [f k] := by
  unfold tab
  rw [List.range_succ, List.map_append]
  rfl
set_option maxRecDepth 100000 in
set_option maxHeartbeats 8000000 in
theorem refLock_any (l pl : List Int) (s : Int) (Al Ap : Option Addr) (nl np cl cp : Nat) (w : World) (hl : Rd w Al (i64s l)) (hp : Rd w Ap (i64s pl)) (hnl : nl = l.length) (hnp : np = pl.length) (hnl2 : nl ≤ 1000) (hnp2 : np ≤ 1000) :
    Calls Try.prog 5 #[.slice Al nl cl, .slice Ap np cp, .int .i64 s] w (IntsPost (lokR l pl s) w) := by
  have K1 := refSecret_any l Al nl cl w hl hnl
  have K2 := refSet_any pl Ap np cp w hp hnp (by omega)
  have K3 := Lib.hid (fun W1 => within_any s 0 1000000 W1)
  cases h1 : secB l
  · as_aux_lemma =>
    have HL := Lib.hid (show lokR l pl s = ([], 2) by
      unfold lokR
      rw [if_neg]
      intro h
      simp only [lokB, Bool.and_eq_true] at h
      have : secB l = true := by simp only [secB, Bool.and_eq_true]; exact ⟨h.1, h.2.1, h.2.2.1⟩
      rw [h1] at this; cases this)
    rw [h1] at K1
    replace K1 := Lib.hid K1
    clear hl hp hnl hnp hnl2 hnp2 K2 h1
    go_enter Try.func5, Try.ntmps5
    go_wp2_with fail
    refine K1.out.mono ?_
    rintro e w1 ⟨rfl, rfl⟩
    go_wp2_with fail
    go_ret2
    exact ⟨none, 0, by rw [HL.out]; rfl, by rw [HL.out]; exact ((Own.start w).nil 3 1)⟩
  rw [h1] at K1
  replace K1 := Lib.hid K1
  cases h2 : setB pl
  · as_aux_lemma =>
    have HL := Lib.hid (show lokR l pl s = ([], 2) by unfold lokR; rw [if_neg]; simp [lokB, h2])
    rw [h2] at K2
    replace K2 := Lib.hid K2
    clear hl hp hnl hnp hnl2 hnp2 h1 h2
    go_enter Try.func5, Try.ntmps5
    go_wp2_with fail
    refine K1.out.mono ?_
    rintro e w1 ⟨rfl, rfl⟩
    go_wp2_with fail
    refine K2.out.mono ?_
    rintro e w2 ⟨rfl, hb2⟩
    have S2 := Lib.hid (((Own.start w).ext hb2).nil 3 1)
    clear hb2
    go_wp2_with fail
    go_ret2
    exact ⟨none, 0, by rw [HL.out]; rfl, by rw [HL.out]; exact S2.out⟩
  rw [h2] at K2
  replace K2 := Lib.hid K2
  by_cases h3 : 0 ≤ s ∧ s ≤ 1000000
  case neg => as_aux_lemma =>
    have HL := Lib.hid (show lokR l pl s = ([], 2) by unfold lokR; rw [if_neg]; simp [lokB]; omega)
    rw [decide_eq_false h3] at K3
    clear hl hp hnl hnp hnl2 hnp2 h1 h2 h3
    go_enter Try.func5, Try.ntmps5
    go_wp2_with fail
    refine K1.out.mono ?_
    rintro e w1 ⟨rfl, rfl⟩
    go_wp2_with fail
    refine K2.out.mono ?_
    rintro e w2 ⟨rfl, hb2⟩
    have S2 := Lib.hid (((Own.start w).ext hb2).nil 3 1)
    clear hb2
    go_wp2_with fail
    refine (K3.out _).mono ?_
    rintro e w3 ⟨rfl, rfl⟩
    go_wp2_with fail
    go_ret2
    exact ⟨none, 0, by rw [HL.out]; rfl, by rw [HL.out]; exact S2.out⟩
  have HL := Lib.hid (show lokR l pl s = (tab 31 (lokF l pl s), 0) by
    unfold lokR
    rw [if_pos]
    simp only [secB, Bool.and_eq_true] at h1
    simp only [lokB, Bool.and_eq_true]
    exact ⟨h1.1, h1.2.1, h1.2.2, h2, decide_eq_true h3.1, decide_eq_true h3.2⟩)
  rw [decide_eq_true h3] at K3
  rw [HL.out]
  have li : In31 l := by simp only [secB, Bool.and_eq_true] at h1; exact numB_in h1.2.2
  have KV := Lib.hid (fun (x : Nat) W (h : Below w.heap.size w W) (hx : x < 31) => refValueAt_any l (x : Int) Al nl cl W (hl.below h) hnl hnl2 li (by omega))
  have KI := Lib.hid (fun (x : Nat) W (h : Below w.heap.size w W) => refIn_any pl (x : Int) Ap np cp W (hp.below h) hnp (by omega))
  have HF := Lib.hid (fun (x : Nat) => (show lokF l pl s x = (valF l (x : Int) + if (x : Int) ∈ pl then 0 else 1 + (s + 7 * (x : Int) * x * x + 3 * (x : Int)) % 30) % 31 from rfl))
  have HVR := Lib.hid (fun (x : Nat) => valF_range l (x : Int))
  generalize lokF l pl s = F at *
  clear hl hp hnl hnp hnl2 hnp2 h1 h2 HL li
  go_enter Try.func5, Try.ntmps5
  go_wp2_with fail
  refine K1.out.mono ?_
  rintro e w1 ⟨rfl, rfl⟩
  go_wp2_with fail
  refine K2.out.mono ?_
  rintro e w2 ⟨rfl, hb2⟩
  have S2 := Lib.hid (((Own.start w).ext hb2).nil 3 1)
  clear hb2 K1 K2
  go_wp2_with fail
  refine (K3.out _).mono ?_
  rintro e w3 ⟨rfl, rfl⟩
  clear K3
  go_wp2_with fail
  go_loopg [8, 9] 31 (fun q u8 u9 wr => ∃ x : Nat, ∃ A8 c8, x ≤ 31 ∧ u9 = .int .i64 (x : Nat) ∧ u8 = .slice A8 x c8 ∧ Hid (x + q = 31 ∧ Own w wr [row 3 1 (.slice A8 x c8) x (i64s (tab x F))]))
  case atStart => exact ⟨0, none, 0, by omega, rfl, rfl, by omega, S2.out⟩
  case round =>
    obtain ⟨x, A8, c8, hx, rfl, rfl, hI⟩ := hrel
    have I1 := Lib.hid hI.out.1
    have I2 := Lib.hid hI.out.2
    clear hI S2
    by_cases hlt : x < 31
    case neg => as_aux_lemma =>
      obtain rfl : x = 31 := by omega
      go_wp2_with fail
      go_ret2
      exact ⟨A8, c8, by rw [tab_len]; rfl, by rw [tab_len]; exact I2.out⟩
    have hxi : (x : Int) < 31 := by omega
    have zx : IntKind.i64.wrap ((x : Int) + 1) = ((x + 1 : Nat) : Int) := by rw [show (x : Int) + 1 = ((x + 1 : Nat) : Int) by omega]; exact IntWalk.i64_in _ (by omega)
    have hF := HF.out x
    have hr := HVR.out x
    have K4 := Lib.hid (fun W h => KV.out x W h hlt)
    have K5 := Lib.hid (fun W h => KI.out x W h)
    generalize hV : valF l (x : Int) = a at *
    have HX := Lib.hid (show i64s (tab x F) ++ [.int .i64 (F x)] = i64s (tab (x + 1) F) by rw [tab_snoc, i64s_app])
    clear HF HVR KV KI hV
    by_cases hm : (x : Int) ∈ pl
    · as_aux_lemma =>
      rw [if_pos hm] at hF
      rw [decide_eq_true hm] at K5
      have hFa : F x = a := by omega
      rw [hFa] at HX
      clear hF hm hFa
      go_wp2_with fail
      refine (K4.out _ I2.out.bel).mono ?_
      rintro e w4 ⟨rfl, rfl⟩
      go_wp2_with fail
      refine (K5.out _ I2.out.bel).mono ?_
      rintro e w5 ⟨rfl, rfl⟩
      have S7 := Lib.hid (I2.out.ext (below_alloc wr (.cells #[.int .i64 a] 3)))
      have HN7 := Lib.hid (Rd.new wr #[.int .i64 a] 3)
      clear I2 K4 K5
      go_wp2_with (at_builtin; (refine wpList_appP rfl (.tmp 51) (.tmp 53) 22 rfl stI 0 S7.out rfl rfl rfl (x + 1) (i64s (tab (x + 1) F)) ?_ [.int .i64 a] rfl HX.out HN7.out rfl (by simp [Value.oneCell']) (by unfold maxLen; omega) (by omega); intro A9 c9 w9 hS9); have S9 := Lib.hid (hS9.cast (qs := [row 3 1 (.slice A9 (x + 1) c9) (x + 1) (i64s (tab (x + 1) F))]) rfl); clear hS9 S7 HN7)
      go_roundg (gk - 1)
      case measure => have := I1.out; omega
      case rel => exact ⟨x + 1, A9, c9, by omega, by go_num, rfl, by have := I1.out; omega, S9.out⟩
    · as_aux_lemma =>
      rw [if_neg hm] at hF
      rw [decide_eq_false hm] at K5
      have m1 := mulB (show (0 : Int) ≤ 7 ∧ (7 : Int) ≤ 7 by omega) (show (0 : Int) ≤ (x : Int) ∧ (x : Int) ≤ 30 by omega)
      have m2 := mulB m1 (show (0 : Int) ≤ (x : Int) ∧ (x : Int) ≤ 30 by omega)
      have m3 := mulB m2 (show (0 : Int) ≤ (x : Int) ∧ (x : Int) ≤ 30 by omega)
      have y1 : IntKind.i64.wrap (a + 1) = a + 1 := IntWalk.i64_in _ (by omega)
      have y2 : IntKind.i64.wrap (7 * (x : Int)) = 7 * (x : Int) := IntWalk.i64_in _ (by omega)
      have y3 : IntKind.i64.wrap (7 * (x : Int) * (x : Int)) = 7 * (x : Int) * (x : Int) := IntWalk.i64_in _ (by omega)
      have y4 : IntKind.i64.wrap (7 * (x : Int) * (x : Int) * (x : Int)) = 7 * (x : Int) * (x : Int) * (x : Int) := IntWalk.i64_in _ (by omega)
      have y5 : IntKind.i64.wrap (s + 7 * (x : Int) * (x : Int) * (x : Int)) = s + 7 * (x : Int) * (x : Int) * (x : Int) := IntWalk.i64_in _ (by omega)
      have y6 : IntKind.i64.wrap (3 * (x : Int)) = 3 * (x : Int) := IntWalk.i64_in _ (by omega)
      have y7 : IntKind.i64.wrap (s + 7 * (x : Int) * (x : Int) * (x : Int) + 3 * (x : Int)) = s + 7 * (x : Int) * (x : Int) * (x : Int) + 3 * (x : Int) := IntWalk.i64_in _ (by omega)
      have y8 : (s + 7 * (x : Int) * (x : Int) * (x : Int) + 3 * (x : Int)).tmod 30 = (s + 7 * (x : Int) * (x : Int) * (x : Int) + 3 * (x : Int)) % 30 := Int.tmod_eq_emod_of_nonneg (by omega)
      have y9 : IntKind.i64.wrap ((s + 7 * (x : Int) * (x : Int) * (x : Int) + 3 * (x : Int)) % 30) = (s + 7 * (x : Int) * (x : Int) * (x : Int) + 3 * (x : Int)) % 30 := IntWalk.i64_in _ (by omega)
      have ya : IntKind.i64.wrap (a + 1 + (s + 7 * (x : Int) * (x : Int) * (x : Int) + 3 * (x : Int)) % 30) = a + 1 + (s + 7 * (x : Int) * (x : Int) * (x : Int) + 3 * (x : Int)) % 30 := IntWalk.i64_in _ (by omega)
      have yb : (a + 1 + (s + 7 * (x : Int) * (x : Int) * (x : Int) + 3 * (x : Int)) % 30).tmod 31 = F x := by
        rw [Int.tmod_eq_emod_of_nonneg (by omega), hF]
        congr 1
        omega
      have yc : IntKind.i64.wrap (F x) = F x := IntWalk.i64_in _ (by omega)
      generalize F x = fx at *
      clear hF hm m1 m2 m3
      go_wp2_with fail
      refine (K4.out _ I2.out.bel).mono ?_
      rintro e w4 ⟨rfl, rfl⟩
      go_wp2_with fail
      refine (K5.out _ I2.out.bel).mono ?_
      rintro e w5 ⟨rfl, rfl⟩
      have S7 := Lib.hid (I2.out.ext (below_alloc wr (.cells #[.int .i64 fx] 3)))
      have HN7 := Lib.hid (Rd.new wr #[.int .i64 fx] 3)
      clear I2 K4 K5
      go_wp2_with (at_builtin; (refine wpList_appP rfl (.tmp 51) (.tmp 53) 22 rfl stI 0 S7.out rfl rfl rfl (x + 1) (i64s (tab (x + 1) F)) ?_ [.int .i64 fx] rfl HX.out HN7.out rfl (by simp [Value.oneCell']) (by unfold maxLen; omega) (by omega); intro A9 c9 w9 hS9); have S9 := Lib.hid (hS9.cast (qs := [row 3 1 (.slice A9 (x + 1) c9) (x + 1) (i64s (tab (x + 1) F))]) rfl); clear hS9 S7 HN7)
      go_roundg (gk - 1)
      case measure => have := I1.out; omega
      case rel => exact ⟨x + 1, A9, c9, by omega, by go_num, rfl, by have := I1.out; omega, S9.out⟩
set_option maxRecDepth 100000 in
set_option maxHeartbeats 8000000 in
theorem refUnlock_any (v pl : List Int) (n : Int) (Av Ap : Option Addr) (nv np cv cp : Nat) (w : World) (hv : Rd w Av (i64s v)) (hp : Rd w Ap (i64s pl)) (hnv : nv = v.length) (hnp : np = pl.length) (hnv2 : nv ≤ 1000) (hnp2 : np ≤ 1000) (hcp : np ≤ cp) :
    Calls Try.prog 8 #[.slice Av nv cv, .slice Ap np cp, .int .i64 n] w (IntsPost (unlR v pl n) w) := by
  have K1 := refVault_any v Av nv cv w hv hnv (by omega)
  have K2 := refSet_any pl Ap np cp w hp hnp (by omega)
  have K3 := Lib.hid (fun W1 => within_any n 1 4 W1)
  cases h1 : vauB v
  · as_aux_lemma =>
    have HL := Lib.hid (show unlR v pl n = ([], 2) by
      unfold unlR
      rw [if_neg]
      intro h
      simp only [unlB, Bool.and_eq_true] at h
      have : vauB v = true := by simp only [vauB, Bool.and_eq_true]; exact ⟨h.1, h.2.1⟩
      rw [h1] at this; cases this)
    rw [h1] at K1
    replace K1 := Lib.hid K1
    clear hv hp hnv hnp hnv2 hnp2 K2 h1
    go_enter Try.func8, Try.ntmps8
    go_wp2_with fail
    refine K1.out.mono ?_
    rintro e w1 ⟨rfl, rfl⟩
    go_wp2_with fail
    go_ret2
    exact ⟨none, 0, by rw [HL.out]; rfl, by rw [HL.out]; exact ((Own.start w).nil 3 1)⟩
  rw [h1] at K1
  replace K1 := Lib.hid K1
  cases h2 : setB pl
  · as_aux_lemma =>
    have HL := Lib.hid (show unlR v pl n = ([], 2) by unfold unlR; rw [if_neg]; simp [unlB, h2])
    rw [h2] at K2
    replace K2 := Lib.hid K2
    clear hv hp hnv hnp hnv2 hnp2 h1 h2
    go_enter Try.func8, Try.ntmps8
    go_wp2_with fail
    refine K1.out.mono ?_
    rintro e w1 ⟨rfl, rfl⟩
    go_wp2_with fail
    refine K2.out.mono ?_
    rintro e w2 ⟨rfl, hb2⟩
    have S2 := Lib.hid (((Own.start w).ext hb2).nil 3 1)
    clear hb2
    go_wp2_with fail
    go_ret2
    exact ⟨none, 0, by rw [HL.out]; rfl, by rw [HL.out]; exact S2.out⟩
  rw [h2] at K2
  replace K2 := Lib.hid K2
  by_cases h3 : 1 ≤ n ∧ n ≤ 4
  case neg => as_aux_lemma =>
    have HL := Lib.hid (show unlR v pl n = ([], 2) by unfold unlR; rw [if_neg]; simp [unlB]; omega)
    rw [decide_eq_false h3] at K3
    clear hv hp hnv hnp hnv2 hnp2 h1 h2 h3
    go_enter Try.func8, Try.ntmps8
    go_wp2_with fail
    refine K1.out.mono ?_
    rintro e w1 ⟨rfl, rfl⟩
    go_wp2_with fail
    refine K2.out.mono ?_
    rintro e w2 ⟨rfl, hb2⟩
    have S2 := Lib.hid (((Own.start w).ext hb2).nil 3 1)
    clear hb2
    go_wp2_with fail
    refine (K3.out _).mono ?_
    rintro e w3 ⟨rfl, rfl⟩
    go_wp2_with fail
    go_ret2
    exact ⟨none, 0, by rw [HL.out]; rfl, by rw [HL.out]; exact S2.out⟩
  rw [decide_eq_true h3] at K3
  obtain ⟨k, rfl⟩ := Int.eq_ofNat_of_zero_le (show 0 ≤ n by omega)
  have hvb := h1
  simp only [vauB, Bool.and_eq_true, decide_eq_true_eq] at hvb
  have vi := numB_in hvb.2
  have hIR : InR (vaV v) pl := fun x _ => getD_in vi _
  have HL := Lib.hid (show unlR v pl (k : Int) = unlO (unlL (vaV v) pl k) by
    unfold unlR
    rw [if_pos, show ((k : Nat) : Int).toNat = k by omega, unl_eq hIR (setB_apart h2)]
    simp only [unlB, Bool.and_eq_true]
    exact ⟨decide_eq_true hvb.1, hvb.2, h2, decide_eq_true h3.1, decide_eq_true h3.2⟩)
  have HSM := Lib.hid (fun f => unlL_some (f := f) (n := k) hIR (setB_apart h2))
  obtain rfl : nv = 31 := by rw [hnv]; exact hvb.1
  have K4 := fun W (h : Below w.heap.size w W) => search_any v pl k vi (setB_num h2) (by omega) (by omega) (by omega) k [] pl Av Ap none Ap np 0 np cv cp 0 cp W (hv.below h) (hp.below h) (Rd.nil _ _) (hp.below h) hnv hnp rfl hnp (by omega) (fun s hs => by cases hs) (setB_num h2) hnp2 hcp
  change ∀ W (h : Below w.heap.size w W), Calls Try.prog 25 #[.slice Av 31 cv, .slice Ap np cp, .int .i64 (k : Nat), .slice none 0 0, .slice Ap np cp] W (SPost (unlL (vaV v) pl k) k W) at K4
  rw [HL.out]
  replace K4 := Lib.hid K4
  generalize unlL (vaV v) pl k = U at *
  clear hv hp hnv hnp hnv2 hnp2 h1 h2 h3 hvb vi hIR HL hcp
  unfold SPost at K4
  rcases U with _ | r
  · as_aux_lemma =>
    go_enter Try.func8, Try.ntmps8
    go_wp2_with fail
    refine K1.out.mono ?_
    rintro e w1 ⟨rfl, rfl⟩
    go_wp2_with fail
    refine K2.out.mono ?_
    rintro e w2 ⟨rfl, hb2⟩
    have S2 := Lib.hid ((Own.start w).ext hb2)
    clear hb2
    go_wp2_with fail
    refine (K3.out _).mono ?_
    rintro e w3 ⟨rfl, rfl⟩
    go_wp2_with fail
    refine (K4.out _ S2.out.bel).mono ?_
    rintro e w4 ⟨V, rfl, hb4⟩
    have S4 := Lib.hid ((S2.out.ext hb4).nil 3 1)
    clear hb4 S2
    go_wp2_with fail
    go_ret2
    exact ⟨none, 0, rfl, S4.out⟩
  · as_aux_lemma =>
    have hrl := (HSM.out r rfl).1
    clear HSM
    go_enter Try.func8, Try.ntmps8
    go_wp2_with fail
    refine K1.out.mono ?_
    rintro e w1 ⟨rfl, rfl⟩
    go_wp2_with fail
    refine K2.out.mono ?_
    rintro e w2 ⟨rfl, hb2⟩
    have S2 := Lib.hid ((Own.start w).ext hb2)
    clear hb2
    go_wp2_with fail
    refine (K3.out _).mono ?_
    rintro e w3 ⟨rfl, rfl⟩
    go_wp2_with fail
    refine (K4.out _ S2.out.bel).mono ?_
    rintro e w4 ⟨A4, c4, rfl, hO4⟩
    have S4 := Lib.hid ((S2.out.call hO4).cast (qs := [row 3 1 (.slice A4 k c4) k (i64s r)]) rfl)
    clear hO4 S2
    replace hrl := Lib.hid hrl
    go_wp2_with fail
    go_ret2
    exact ⟨A4, c4, by rw [show (unlO (some r)).1.length = k from hrl.out]; rfl, by rw [show (unlO (some r)).1.length = k from hrl.out]; exact S4.out⟩
end Go.Proofs.Ytnienfgaidccpaa
