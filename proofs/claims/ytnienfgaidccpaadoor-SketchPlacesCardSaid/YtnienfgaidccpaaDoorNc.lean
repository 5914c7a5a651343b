/- Sketch: the walks of SketchOne and SketchVault. No condition. -/
import Derived.Test.YtnienfgaidccpaaDoorNb
import Derived.Test.YtnienfgaidccpaaDoorMb
namespace Go.Proofs.YtnienfgaidccpaaDoor
open Go.RowKit Go.Shelf
attribute [local go_sem] Oper.semAt_some

theorem vaV_in {v : List Int} (h : In31 v) (pl : List Int) : InR (vaV v) pl := fun _ _ => getD_in h _
theorem unlR_of {v pl : List Int} {n : Nat} (h1 : vauB v = true) (h2 : setB pl = true) (h3 : 1 ≤ n) (h4 : n ≤ 4) : unlR v pl n = unlO (unlN (vaV v) pl n) := by
  simp only [vauB, Bool.and_eq_true, decide_eq_true_eq] at h1
  unfold unlR unlB
  rw [decide_eq_true h1.1, h1.2, h2, decide_eq_true (show (1 : Int) ≤ n by omega), decide_eq_true (show (n : Int) ≤ 4 by omega)]
  rfl
theorem unlR_bad {v pl : List Int} {n : Int} (h : vauB v = false ∨ setB pl = false) : unlR v pl n = ([], 2) := by
  unfold unlR unlB
  rw [if_neg]
  intro hh
  simp only [Bool.and_eq_true, decide_eq_true_eq] at hh
  rcases h with h | h
  · rw [vauB, decide_eq_true hh.1, hh.2.1] at h; cases h
  · rw [h] at hh; simp at hh
theorem need_iff (a m n : Nat) : need m n ≤ a ↔ m + n ≤ 2 * a := by unfold need; omega
theorem secB_bd {l : List Int} (h : secB l = true) : 1 ≤ l.length ∧ l.length ≤ 4 ∧ In31 l := by
  simp only [secB, Bool.and_eq_true, decide_eq_true_eq] at h
  exact ⟨h.1, h.2.1, numB_in h.2.2⟩
theorem one_plain {v pl sc : List Int} (h1 : vauB v = true) (h2 : setB pl = true) (h3 : secB sc = true) (hf : pl.length + sc.length ≤ 2 * agr (vaV v) sc pl) : unlN (vaV v) pl sc.length = some sc := by
  obtain ⟨a1, a2, a3⟩ := secB_bd h3
  simp only [vauB, Bool.and_eq_true, decide_eq_true_eq] at h1
  exact unlN_finds (vaV_in (numB_in h1.2) pl) (setB_apart h2) rfl a3 ((need_iff _ _ _).2 hf)
set_option maxRecDepth 100000 in
set_option maxHeartbeats 4000000 in
theorem oneLaw_any (v pl sc : List Int) (A1 A2 A3 : Option Addr) (n1 n2 n3 c1 c2 c3 : Nat) (w : World) (hc : Cod w) (r1 : Rd w A1 (i64s v)) (r2 : Rd w A2 (i64s pl)) (r3 : Rd w A3 (i64s sc)) (e1 : n1 = v.length) (e2 : n2 = pl.length) (e3 : n3 = sc.length) :
    Calls Tryd.prog 8 #[.slice A1 n1 c1, .slice A2 n2 c2, .slice A3 n3 c3] w fun e w' => e = .returned (.bool true) ∧ Below w.heap.size w w' := by
  have HC := Lib.hid (fun W (h : Below w.heap.size w W) => hc.below h)
  have K27 := Lib.hid (fun W (h : Below w.heap.size w W) => alive_any W (HC.out W h))
  have S := Lib.hid (Own.start w)
  by_cases d1 : n1 ≤ 100
  case neg => as_aux_lemma =>
    have g1 : (100 : Int) < (n1 : Int) := by omega
    clear hc r1 r2 r3 e1 e2 e3 d1
    go_enter Tryd.func8, Tryd.ntmps8
    go_wp2_with fail
    refine (K27.out _ S.out.bel).mono ?_
    rintro e w1 ⟨rfl, hb1⟩
    replace S := Lib.hid (S.out.ext hb1)
    clear hb1
    go_wp2_with fail
    go_ret
    exact ⟨rfl, S.out.bel⟩
  have g1 : ¬ (100 : Int) < (n1 : Int) := by omega
  by_cases d2 : n2 ≤ 100
  case neg => as_aux_lemma =>
    have g2 : (100 : Int) < (n2 : Int) := by omega
    clear hc r1 r2 r3 e1 e2 e3 d2
    go_enter Tryd.func8, Tryd.ntmps8
    go_wp2_with fail
    refine (K27.out _ S.out.bel).mono ?_
    rintro e w1 ⟨rfl, hb1⟩
    replace S := Lib.hid (S.out.ext hb1)
    clear hb1
    go_wp2_with fail
    go_ret
    exact ⟨rfl, S.out.bel⟩
  have g2 : ¬ (100 : Int) < (n2 : Int) := by omega
  have K43 := fun W (h : Below w.heap.size w W) => refSecret_any sc A3 n3 c3 W (r3.below h) e3
  cases hsc : secB sc
  case false => as_aux_lemma =>
    rw [hsc] at K43
    replace K43 := Lib.hid K43
    clear hc r1 r2 r3 e1 e2 e3 d1 d2 hsc
    go_enter Tryd.func8, Tryd.ntmps8
    go_wp2_with fail
    refine (K27.out _ S.out.bel).mono ?_
    rintro e w1 ⟨rfl, hb1⟩
    replace S := Lib.hid (S.out.ext hb1)
    clear hb1
    go_wp2_with fail
    refine (K43.out _ S.out.bel).mono ?_
    rintro e w2 ⟨rfl, rfl⟩
    go_wp2_with fail
    go_ret
    exact ⟨rfl, S.out.bel⟩
  rw [hsc] at K43
  replace K43 := Lib.hid K43
  obtain ⟨s1, s4, s31⟩ := secB_bd hsc
  have KU := fun W (h : Below w.heap.size w W) => unlock_any v pl n3 A1 A2 n1 n2 c1 c2 W (r1.below h) (r2.below h) e1 e2 (by omega) (by omega)
  have K45 := fun W (h : Below w.heap.size w W) => refVault_any v A1 n1 c1 W (r1.below h) e1 (by omega)
  have K39 := fun W (h : Below w.heap.size w W) => refSet_any pl A2 n2 c2 W (r2.below h) e2 (by omega)
  unfold IntsPost at KU
  cases hva : vauB v
  case false => as_aux_lemma =>
    rw [hva] at K45
    rw [unlR_bad (.inl hva)] at KU
    dsimp only at KU
    replace K45 := Lib.hid K45
    replace KU := Lib.hid KU
    clear hc r1 r2 r3 e1 e2 e3 d1 d2 hsc hva s1 s4 s31 K39
    go_enter Tryd.func8, Tryd.ntmps8
    go_wp2_with fail
    refine (K27.out _ S.out.bel).mono ?_
    rintro e w1 ⟨rfl, hb1⟩
    replace S := Lib.hid (S.out.ext hb1)
    clear hb1
    go_wp2_with fail
    refine (K43.out _ S.out.bel).mono ?_
    rintro e w2 ⟨rfl, rfl⟩
    go_wp2_with fail
    refine (KU.out _ S.out.bel).mono ?_
    rintro e v1 ⟨A4, c4, rfl, hO⟩
    replace S := Lib.hid (S.out.call hO)
    clear hO
    go_wp2_with fail
    refine (K45.out _ S.out.bel).mono ?_
    rintro e w3 ⟨rfl, rfl⟩
    go_wp2_with fail
    go_ret
    exact ⟨rfl, S.out.bel⟩
  rw [hva] at K45
  replace K45 := Lib.hid K45
  cases hse : setB pl
  case false => as_aux_lemma =>
    rw [hse] at K39
    rw [unlR_bad (.inr hse)] at KU
    dsimp only at KU
    replace K39 := Lib.hid K39
    replace KU := Lib.hid KU
    clear hc r1 r2 r3 e1 e2 e3 d1 d2 hsc hva s1 s4 s31 hse
    go_enter Tryd.func8, Tryd.ntmps8
    go_wp2_with fail
    refine (K27.out _ S.out.bel).mono ?_
    rintro e w1 ⟨rfl, hb1⟩
    replace S := Lib.hid (S.out.ext hb1)
    clear hb1
    go_wp2_with fail
    refine (K43.out _ S.out.bel).mono ?_
    rintro e w2 ⟨rfl, rfl⟩
    go_wp2_with fail
    refine (KU.out _ S.out.bel).mono ?_
    rintro e v1 ⟨A4, c4, rfl, hO⟩
    replace S := Lib.hid (S.out.call hO)
    clear hO
    go_wp2_with fail
    refine (K45.out _ S.out.bel).mono ?_
    rintro e w3 ⟨rfl, rfl⟩
    go_wp2_with fail
    refine (K39.out _ S.out.bel).mono ?_
    rintro e w4 ⟨rfl, hb4⟩
    replace S := Lib.hid (S.out.ext hb4)
    clear hb4
    go_wp2_with fail
    go_ret
    exact ⟨rfl, S.out.bel⟩
  rw [hse] at K39
  replace K39 := Lib.hid K39
  have hn31 : n1 = 31 := by
    simp only [vauB, Bool.and_eq_true, decide_eq_true_eq] at hva
    omega
  have KG := Lib.hid (fun W (h : Below w.heap.size w W) => refAgree_any sc v pl A3 A1 A2 n3 n1 n2 c3 c1 c2 W (r3.below h) (r1.below h) (r2.below h) e3 e1 e2 (by omega) hn31 (by omega) s31 (setB_num hse))
  have KI := Lib.hid (fun A c W (h : Below w.heap.size w W) (hr : Rd W A (i64s sc)) => sameInts_true sc A A3 n3 n3 c c3 W hr (r3.below h) e3 e3 (by omega))
  have hu := unlR_of (v := v) (pl := pl) (n := n3) hva hse (by omega) (by omega)
  have HONE := Lib.hid (fun (hf : n2 + n3 ≤ 2 * agr (vaV v) sc pl) => (show unlN (vaV v) pl n3 = some sc by rw [e3]; exact one_plain hva hse hsc (by omega)))
  have hag := agr_le (vaV v) sc pl
  rw [hu] at KU
  have hL : ∀ r, unlN (vaV v) pl n3 = some r → r.length = n3 := fun r hr => (unlN_some (setB_apart hse) hr).1
  have hn3 : 1 ≤ n3 ∧ n3 ≤ 4 := by omega
  have hb2 : agr (vaV v) sc pl ≤ 100 := by omega
  generalize agr (vaV v) sc pl = ag at *
  have w1 : IntKind.i64.wrap (2 * (ag : Int)) = 2 * (ag : Int) := IntWalk.i64_in _ (by omega)
  have w2 : IntKind.i64.wrap ((n2 : Int) + (n3 : Int)) = (n2 : Int) + (n3 : Int) := IntWalk.i64_in _ (by omega)
  clear hsc s1 s4 s31 hva hse hu hag hn31
  cases hr : unlN (vaV v) pl n3 with
  | none => as_aux_lemma =>
    have hnf : ¬ (n2 : Int) + (n3 : Int) ≤ 2 * (ag : Int) := by
      intro h
      rw [HONE.out (by omega)] at hr
      cases hr
    rw [hr] at KU
    unfold unlO at KU
    dsimp only at KU
    replace KU := Lib.hid KU
    have HNB := Lib.hid (show decide ((n2 : Int) + (n3 : Int) ≤ 2 * (ag : Int)) = false from decide_eq_false hnf)
    clear hr hL hc r1 r2 r3 e1 e2 e3 d1 d2 HONE hn3 hb2 hnf
    go_enter Tryd.func8, Tryd.ntmps8
    go_wp2_with fail
    refine (K27.out _ S.out.bel).mono ?_
    rintro e w1 ⟨rfl, hb1⟩
    replace S := Lib.hid (S.out.ext hb1)
    clear hb1
    go_wp2_with fail
    refine (K43.out _ S.out.bel).mono ?_
    rintro e w2 ⟨rfl, rfl⟩
    go_wp2_with fail
    refine (KU.out _ S.out.bel).mono ?_
    rintro e v1 ⟨A4, c4, rfl, hO⟩
    replace S := Lib.hid (S.out.call hO)
    clear hO
    go_wp2_with fail
    refine (K45.out _ S.out.bel).mono ?_
    rintro e w3 ⟨rfl, rfl⟩
    go_wp2_with fail
    refine (K39.out _ S.out.bel).mono ?_
    rintro e w4 ⟨rfl, hb4⟩
    replace S := Lib.hid (S.out.ext hb4)
    clear hb4
    go_wp2_with fail
    refine (KG.out _ S.out.bel).mono ?_
    rintro e w5 ⟨rfl, hb5⟩
    replace S := Lib.hid (S.out.ext hb5)
    clear hb5
    go_wp2_with fail
    go_ret
    exact ⟨by show Ending.returned (Value.bool (!decide ((n2 : Int) + (n3 : Int) ≤ 2 * (ag : Int)))) = _; rw [HNB.out]; rfl, S.out.bel⟩
  | some r =>
    rw [hr] at KU
    unfold unlO at KU
    dsimp only at KU
    rw [hL r hr] at KU
    replace KU := Lib.hid KU
    by_cases hf : n2 + n3 ≤ 2 * ag
    · as_aux_lemma =>
      obtain rfl : r = sc := by have := HONE.out hf; rw [hr] at this; injection this
      have hfI : (n2 : Int) + (n3 : Int) ≤ 2 * (ag : Int) := by omega
      clear hr hL hc r1 r2 r3 e1 e2 e3 d1 d2 HONE hn3 hb2 hf
      go_enter Tryd.func8, Tryd.ntmps8
      go_wp2_with fail
      refine (K27.out _ S.out.bel).mono ?_
      rintro e w1 ⟨rfl, hb1⟩
      replace S := Lib.hid (S.out.ext hb1)
      clear hb1
      go_wp2_with fail
      refine (K43.out _ S.out.bel).mono ?_
      rintro e w2 ⟨rfl, rfl⟩
      go_wp2_with fail
      refine (KU.out _ S.out.bel).mono ?_
      rintro e v1 ⟨A4, c4, rfl, hO⟩
      replace S := Lib.hid (S.out.call hO)
      clear hO
      go_wp2_with fail
      refine (K45.out _ S.out.bel).mono ?_
      rintro e w3 ⟨rfl, rfl⟩
      go_wp2_with fail
      refine (K39.out _ S.out.bel).mono ?_
      rintro e w4 ⟨rfl, hb4⟩
      replace S := Lib.hid (S.out.ext hb4)
      clear hb4
      go_wp2_with fail
      refine (KG.out _ S.out.bel).mono ?_
      rintro e w5 ⟨rfl, hb5⟩
      replace S := Lib.hid (S.out.ext hb5)
      clear hb5
      go_wp2_with fail
      refine (KI.out _ _ _ S.out.bel (S.out.rd 0 rfl)).mono ?_
      rintro e w6 ⟨rfl, hb6⟩
      replace S := Lib.hid (S.out.ext hb6)
      clear hb6
      go_wp2_with fail
      go_ret
      exact ⟨rfl, S.out.bel⟩
    · as_aux_lemma =>
      have hfI : ¬ (n2 : Int) + (n3 : Int) ≤ 2 * (ag : Int) := by omega
      clear hr hL hc r1 r2 r3 e1 e2 e3 d1 d2 HONE hn3 hb2 hf
      go_enter Tryd.func8, Tryd.ntmps8
      go_wp2_with fail
      refine (K27.out _ S.out.bel).mono ?_
      rintro e w1 ⟨rfl, hb1⟩
      replace S := Lib.hid (S.out.ext hb1)
      clear hb1
      go_wp2_with fail
      refine (K43.out _ S.out.bel).mono ?_
      rintro e w2 ⟨rfl, rfl⟩
      go_wp2_with fail
      refine (KU.out _ S.out.bel).mono ?_
      rintro e v1 ⟨A4, c4, rfl, hO⟩
      replace S := Lib.hid (S.out.call hO)
      clear hO
      go_wp2_with fail
      refine (K45.out _ S.out.bel).mono ?_
      rintro e w3 ⟨rfl, rfl⟩
      go_wp2_with fail
      refine (K39.out _ S.out.bel).mono ?_
      rintro e w4 ⟨rfl, hb4⟩
      replace S := Lib.hid (S.out.ext hb4)
      clear hb4
      go_wp2_with fail
      refine (KG.out _ S.out.bel).mono ?_
      rintro e w5 ⟨rfl, hb5⟩
      replace S := Lib.hid (S.out.ext hb5)
      clear hb5
      go_wp2_with fail
      go_ret
      exact ⟨rfl, S.out.bel⟩
theorem lok_cases (l pl : List Int) (s : Int) : (lokB l pl s = false ∧ lokR l pl s = ([], 2)) ∨ (lokB l pl s = true ∧ lokR l pl s = (tab 31 (lokF l pl s), 0)) := by
  unfold lokR
  cases h : lokB l pl s
  · exact .inl ⟨rfl, rfl⟩
  · exact .inr ⟨rfl, rfl⟩
theorem lokF_in (l pl : List Int) (s : Int) (x : Nat) : 0 ≤ lokF l pl s x ∧ lokF l pl s x < 31 := by unfold lokF; omega
theorem lok_in (l pl : List Int) (s : Int) : In31 (tab 31 (lokF l pl s)) := by
  intro y hy
  simp only [tab, List.mem_map, List.mem_range] at hy
  obtain ⟨x, -, rfl⟩ := hy
  exact lokF_in l pl s x
theorem vaV_lok (l pl : List Int) (s : Int) {x : Nat} (h : x < 31) : vaV (tab 31 (lokF l pl s)) (x : Int) = lokF l pl s x := by
  rw [vaV_at (by rw [tab_len]; exact h)]
  simp [tab]
theorem lok_at {l pl : List Int} (s : Int) {x : Int} (h0 : 0 ≤ x ∧ x < 31) (hx : x ∈ pl) : valF l x = vaV (tab 31 (lokF l pl s)) x := by
  obtain ⟨k, rfl⟩ : ∃ k : Nat, x = k := ⟨x.toNat, by omega⟩
  rw [vaV_lok l pl s (by omega)]
  unfold lokF
  rw [if_pos hx]
  have := valF_range l (k : Int)
  omega
theorem com_le {l pl : List Int} (s : Int) : ∀ (ot : List Int), (∀ x ∈ ot, 0 ≤ x ∧ x < 31) → comC ot pl ≤ agr (vaV (tab 31 (lokF l pl s))) l ot := by
  intro ot
  induction ot with
  | nil => intro _; exact Nat.le_refl _
  | cons x ot ih =>
    intro h
    have ih := ih fun y hy => h y (by simp [hy])
    unfold comC agr at *
    by_cases hx : x ∈ pl
    · have := lok_at (l := l) s (h x (by simp)) hx
      simp [hx, this]
      exact ih
    · by_cases h2 : valF l x = vaV (tab 31 (lokF l pl s)) x
      · simp only [List.filter_cons, decide_eq_false hx, h2]
        simp
        omega
      · simp [hx, h2]
        exact ih
theorem lokB_bd {l pl : List Int} {s : Int} (h : lokB l pl s = true) : secB l = true ∧ setB pl = true := by
  simp only [lokB, Bool.and_eq_true, decide_eq_true_eq] at h
  refine ⟨?_, h.2.2.2.1⟩
  simp only [secB, Bool.and_eq_true, decide_eq_true_eq]
  exact ⟨h.1, h.2.1, h.2.2.1⟩
set_option maxRecDepth 100000 in
set_option maxHeartbeats 4000000 in
theorem vaultLaw_any (sc pl ot : List Int) (sd : Int) (A1 A2 A3 : Option Addr) (n1 n2 n3 c1 c2 c3 : Nat) (w : World) (hc : Cod w) (r1 : Rd w A1 (i64s sc)) (r2 : Rd w A2 (i64s pl)) (r3 : Rd w A3 (i64s ot)) (e1 : n1 = sc.length) (e2 : n2 = pl.length) (e3 : n3 = ot.length) :
    Calls Tryd.prog 7 #[.slice A1 n1 c1, .slice A2 n2 c2, .slice A3 n3 c3, .int .i64 sd] w fun e w' => e = .returned (.bool true) ∧ Below w.heap.size w w' := by
  have HC := Lib.hid (fun W (h : Below w.heap.size w W) => hc.below h)
  have K27 := Lib.hid (fun W (h : Below w.heap.size w W) => alive_any W (HC.out W h))
  have S := Lib.hid (Own.start w)
  by_cases d1 : n1 ≤ 100
  case neg => as_aux_lemma =>
    have g1 : (100 : Int) < (n1 : Int) := by omega
    clear hc r1 r2 r3 e1 e2 e3 d1
    go_enter Tryd.func7, Tryd.ntmps7
    go_wp2_with fail
    refine (K27.out _ S.out.bel).mono ?_
    rintro e w1 ⟨rfl, hb1⟩
    replace S := Lib.hid (S.out.ext hb1)
    clear hb1
    go_wp2_with fail
    go_ret
    exact ⟨rfl, S.out.bel⟩
  have g1 : ¬ (100 : Int) < (n1 : Int) := by omega
  by_cases d2 : n2 ≤ 100
  case neg => as_aux_lemma =>
    have g2 : (100 : Int) < (n2 : Int) := by omega
    clear hc r1 r2 r3 e1 e2 e3 d2
    go_enter Tryd.func7, Tryd.ntmps7
    go_wp2_with fail
    refine (K27.out _ S.out.bel).mono ?_
    rintro e w1 ⟨rfl, hb1⟩
    replace S := Lib.hid (S.out.ext hb1)
    clear hb1
    go_wp2_with fail
    go_ret
    exact ⟨rfl, S.out.bel⟩
  have g2 : ¬ (100 : Int) < (n2 : Int) := by omega
  by_cases d3 : n3 ≤ 100
  case neg => as_aux_lemma =>
    have g3 : (100 : Int) < (n3 : Int) := by omega
    clear hc r1 r2 r3 e1 e2 e3 d3
    go_enter Tryd.func7, Tryd.ntmps7
    go_wp2_with fail
    refine (K27.out _ S.out.bel).mono ?_
    rintro e w1 ⟨rfl, hb1⟩
    replace S := Lib.hid (S.out.ext hb1)
    clear hb1
    go_wp2_with fail
    go_ret
    exact ⟨rfl, S.out.bel⟩
  have g3 : ¬ (100 : Int) < (n3 : Int) := by omega
  have KL := fun W (h : Below w.heap.size w W) => lock_any sc pl sd A1 A2 n1 n2 c1 c2 W (r1.below h) (r2.below h) e1 e2 (by omega) (by omega)
  have K39 := fun W (h : Below w.heap.size w W) => refSet_any ot A3 n3 c3 W (r3.below h) e3 (by omega)
  unfold IntsPost at KL
  rcases lok_cases sc pl sd with ⟨hlb, hlr⟩ | ⟨hlb, hlr⟩
  · as_aux_lemma =>
    rw [hlr] at KL
    dsimp only at KL
    replace KL := Lib.hid KL
    clear hlb hlr hc r1 r2 r3 e1 e2 e3 d1 d2 d3 K39
    go_enter Tryd.func7, Tryd.ntmps7
    go_wp2_with fail
    refine (K27.out _ S.out.bel).mono ?_
    rintro e w1 ⟨rfl, hb1⟩
    replace S := Lib.hid (S.out.ext hb1)
    clear hb1
    go_wp2_with fail
    refine (KL.out _ S.out.bel).mono ?_
    rintro e v1 ⟨A4, c4, rfl, hO⟩
    replace S := Lib.hid (S.out.call hO)
    clear hO
    go_wp2_with fail
    go_ret
    exact ⟨rfl, S.out.bel⟩
  rw [hlr] at KL
  dsimp only at KL
  rw [tab_len] at KL
  replace KL := Lib.hid KL
  cases hse : setB ot
  case false => as_aux_lemma =>
    rw [hse] at K39
    replace K39 := Lib.hid K39
    clear hlb hlr hc r1 r2 r3 e1 e2 e3 d1 d2 d3 hse
    go_enter Tryd.func7, Tryd.ntmps7
    go_wp2_with fail
    refine (K27.out _ S.out.bel).mono ?_
    rintro e w1 ⟨rfl, hb1⟩
    replace S := Lib.hid (S.out.ext hb1)
    clear hb1
    go_wp2_with fail
    refine (KL.out _ S.out.bel).mono ?_
    rintro e v1 ⟨A4, c4, rfl, hO⟩
    replace S := Lib.hid (S.out.call hO)
    clear hO
    go_wp2_with fail
    refine (K39.out _ S.out.bel).mono ?_
    rintro e w2 ⟨rfl, hb2⟩
    replace S := Lib.hid (S.out.ext hb2)
    clear hb2
    go_wp2_with fail
    go_ret
    exact ⟨rfl, S.out.bel⟩
  rw [hse] at K39
  replace K39 := Lib.hid K39
  obtain ⟨hsc, hsp⟩ := lokB_bd hlb
  obtain ⟨s1, s4, s31⟩ := secB_bd hsc
  have hv31 := lok_in sc pl sd
  have hvl : (tab 31 (lokF sc pl sd)).length = 31 := tab_len _ _
  have hvb : vauB (tab 31 (lokF sc pl sd)) = true := by rw [vauB, decide_eq_true hvl, numB_of hv31]; rfl
  have hcm := com_le (l := sc) (pl := pl) sd ot (setB_ok ot hse).1
  have KU := fun A c W (h : Below w.heap.size w W) (hr : Rd W A (i64s (tab 31 (lokF sc pl sd)))) => unlock_any (tab 31 (lokF sc pl sd)) ot n1 A A3 31 n3 c c3 W hr (r3.below h) hvl.symm e3 (by omega) (by omega)
  unfold IntsPost at KU
  have hu := unlR_of (v := tab 31 (lokF sc pl sd)) (pl := ot) (n := n1) hvb hse (by omega) (by omega)
  rw [hu] at KU
  have KM := Lib.hid (fun W (h : Below w.heap.size w W) => common_any ot pl A3 A2 n3 n2 c3 c2 W (r3.below h) (r2.below h) e3 e2 (by omega) (by omega))
  have KI := Lib.hid (fun A c W (h : Below w.heap.size w W) (hr : Rd W A (i64s sc)) => sameInts_true sc A A1 n1 n1 c c1 W hr (r1.below h) e1 e1 (by omega))
  have KG := Lib.hid (fun (r : List Int) A A' c c' W (hl : r.length = n1) (hi : In31 r) (h : Below w.heap.size w W) (hr : Rd W A (i64s r)) (hr' : Rd W A' (i64s (tab 31 (lokF sc pl sd)))) => refAgree_any r (tab 31 (lokF sc pl sd)) ot A A' A3 n1 31 n3 c c' c3 W hr hr' (r3.below h) hl.symm hvl.symm e3 (by omega) rfl (by omega) hi (setB_num hse))
  have KS := Lib.hid (fun (r : List Int) A c W (hl : r.length = n1) (hr : Rd W A (i64s r)) => refSecret_any r A n1 c W hr hl.symm)
  have HFI := Lib.hid (fun (hf : n3 + n1 ≤ 2 * agr (vaV (tab 31 (lokF sc pl sd))) sc ot) => (show unlN (vaV (tab 31 (lokF sc pl sd))) ot n1 = some sc by rw [e1]; exact one_plain hvb hse hsc (by omega)))
  have HSO := Lib.hid (fun r (hr : unlN (vaV (tab 31 (lokF sc pl sd))) ot n1 = some r) => unlN_some (setB_apart hse) hr)
  have hcb : comC ot pl ≤ ot.length := List.length_filter_le _ _
  have hcb2 : comC ot pl ≤ 100 := by omega
  have hn1 : 1 ≤ n1 ∧ n1 ≤ 4 := by omega
  have HE3 := Lib.hid e3
  clear hlb hlr hu hsc hsp s1 s4 s31 hse hcb hvb hv31 hvl hc r1 r2 r3 e1 e2 e3
  generalize tab 31 (lokF sc pl sd) = vt at *
  generalize comC ot pl = cm at *
  have w1 : IntKind.i64.wrap (2 * (cm : Int)) = 2 * (cm : Int) := IntWalk.i64_in _ (by omega)
  have w2 : IntKind.i64.wrap ((n3 : Int) + (n1 : Int)) = (n3 : Int) + (n1 : Int) := IntWalk.i64_in _ (by omega)
  by_cases hf : n3 + n1 ≤ 2 * cm
  · as_aux_lemma =>
    have hfI : (n3 : Int) + (n1 : Int) ≤ 2 * (cm : Int) := by omega
    have hr := HFI.out (by omega)
    have hl := (HSO.out _ hr).1
    rw [hr] at KU
    unfold unlO at KU
    dsimp only at KU
    rw [hl] at KU
    replace KU := Lib.hid KU
    clear hr hl HFI HSO hcm d1 d2 d3 hcb2 hn1 hf KG KS
    go_enter Tryd.func7, Tryd.ntmps7
    go_wp2_with fail
    refine (K27.out _ S.out.bel).mono ?_
    rintro e w1 ⟨rfl, hb1⟩
    replace S := Lib.hid (S.out.ext hb1)
    clear hb1
    go_wp2_with fail
    refine (KL.out _ S.out.bel).mono ?_
    rintro e v1 ⟨A4, c4, rfl, hO⟩
    replace S := Lib.hid (S.out.call hO)
    clear hO
    go_wp2_with fail
    refine (K39.out _ S.out.bel).mono ?_
    rintro e w2 ⟨rfl, hb2⟩
    replace S := Lib.hid (S.out.ext hb2)
    clear hb2
    go_wp2_with fail
    refine (KU.out _ _ _ S.out.bel (S.out.rd 0 rfl)).mono ?_
    rintro e v9 ⟨A5, c5, rfl, hO⟩
    replace S := Lib.hid (S.out.call hO)
    clear hO
    go_wp2_with fail
    refine (KM.out _ S.out.bel).mono ?_
    rintro e w3 ⟨rfl, rfl⟩
    go_wp2_with fail
    refine (KI.out _ _ _ S.out.bel (S.out.rd 0 rfl)).mono ?_
    rintro e w4 ⟨rfl, hb4⟩
    replace S := Lib.hid (S.out.ext hb4)
    clear hb4
    go_wp2_with fail
    go_ret
    exact ⟨rfl, S.out.bel⟩
  have hfI : ¬ (n3 : Int) + (n1 : Int) ≤ 2 * (cm : Int) := by omega
  cases hr : unlN (vaV vt) ot n1 with
  | none => as_aux_lemma =>
    rw [hr] at KU
    unfold unlO at KU
    dsimp only at KU
    replace KU := Lib.hid KU
    clear hr HFI HSO hcm d1 d2 d3 hcb2 hn1 hf KG KS
    go_enter Tryd.func7, Tryd.ntmps7
    go_wp2_with fail
    refine (K27.out _ S.out.bel).mono ?_
    rintro e w1 ⟨rfl, hb1⟩
    replace S := Lib.hid (S.out.ext hb1)
    clear hb1
    go_wp2_with fail
    refine (KL.out _ S.out.bel).mono ?_
    rintro e v1 ⟨A4, c4, rfl, hO⟩
    replace S := Lib.hid (S.out.call hO)
    clear hO
    go_wp2_with fail
    refine (K39.out _ S.out.bel).mono ?_
    rintro e w2 ⟨rfl, hb2⟩
    replace S := Lib.hid (S.out.ext hb2)
    clear hb2
    go_wp2_with fail
    refine (KU.out _ _ _ S.out.bel (S.out.rd 0 rfl)).mono ?_
    rintro e v9 ⟨A5, c5, rfl, hO⟩
    replace S := Lib.hid (S.out.call hO)
    clear hO
    go_wp2_with fail
    refine (KM.out _ S.out.bel).mono ?_
    rintro e w3 ⟨rfl, rfl⟩
    go_wp2_with fail
    go_ret
    exact ⟨rfl, S.out.bel⟩
  | some r => as_aux_lemma =>
    obtain ⟨p1, p2, p3⟩ := HSO.out r hr
    rw [hr] at KU
    unfold unlO at KU
    dsimp only at KU
    rw [p1] at KU
    replace KU := Lib.hid KU
    have KG2 := Lib.hid (fun A A' c c' W => KG.out r A A' c c' W p1 p2)
    have KS2 := fun A c W => KS.out r A c W p1
    have hsr : secB r = true := by
      rw [secB, decide_eq_true (show 1 ≤ r.length by omega), decide_eq_true (show r.length ≤ 4 by omega), numB_of p2]; rfl
    rw [hsr] at KS2
    replace KS2 := Lib.hid KS2
    have p4 := (need_iff _ _ _).1 p3
    have p5 := agr_le (vaV vt) r ot
    have w3 : IntKind.i64.wrap (2 * (agr (vaV vt) r ot : Int)) = 2 * (agr (vaV vt) r ot : Int) := IntWalk.i64_in _ (by have := HE3.out; omega)
    have hfJ : (n3 : Int) + (n1 : Int) ≤ 2 * (agr (vaV vt) r ot : Int) := by have := HE3.out; omega
    generalize agr (vaV vt) r ot = ag at *
    clear p1 p2 p3 p4 p5 hsr hr HFI HSO hcm d1 d2 d3 hcb2 hn1 hf KG KS
    go_enter Tryd.func7, Tryd.ntmps7
    go_wp2_with fail
    refine (K27.out _ S.out.bel).mono ?_
    rintro e w1 ⟨rfl, hb1⟩
    replace S := Lib.hid (S.out.ext hb1)
    clear hb1
    go_wp2_with fail
    refine (KL.out _ S.out.bel).mono ?_
    rintro e v1 ⟨A4, c4, rfl, hO⟩
    replace S := Lib.hid (S.out.call hO)
    clear hO
    go_wp2_with fail
    refine (K39.out _ S.out.bel).mono ?_
    rintro e w2 ⟨rfl, hb2⟩
    replace S := Lib.hid (S.out.ext hb2)
    clear hb2
    go_wp2_with fail
    refine (KU.out _ _ _ S.out.bel (S.out.rd 0 rfl)).mono ?_
    rintro e v9 ⟨A5, c5, rfl, hO⟩
    replace S := Lib.hid (S.out.call hO)
    clear hO
    go_wp2_with fail
    refine (KM.out _ S.out.bel).mono ?_
    rintro e w3 ⟨rfl, rfl⟩
    go_wp2_with fail
    refine (KS2.out _ _ _ (S.out.rd 0 rfl)).mono ?_
    rintro e w4 ⟨rfl, rfl⟩
    go_wp2_with fail
    refine (KG2.out _ _ _ _ _ S.out.bel (S.out.rd 0 rfl) (S.out.rd 1 rfl)).mono ?_
    rintro e w5 ⟨rfl, hb5⟩
    replace S := Lib.hid (S.out.ext hb5)
    clear hb5
    go_wp2_with fail
    go_ret
    exact ⟨rfl, S.out.bel⟩
end Go.Proofs.YtnienfgaidccpaaDoor
