/- Sketch: the walk of SketchVaults. No condition. -/
import Derived.Test.YtnienfgaidccpaaPe
namespace Go.Proofs.Ytnienfgaidccpaa
open Go.RowKit Go.Shelf
attribute [local go_sem] Oper.semAt_some

theorem lokR_len (l pl : List Int) (s : Int) : (lokR l pl s).1.length ≤ 31 := by
  unfold lokR
  split
  · simp [tab_len]
  · simp
theorem unlR_len (v pl : List Int) (n : Int) : (unlR v pl n).1.length ≤ 4 := by
  unfold unlR
  split
  · rename_i h
    simp only [unlB, Bool.and_eq_true, decide_eq_true_eq] at h
    cases hU : unlN (vaV v) pl n.toNat with
    | none => simp [unlO]
    | some r =>
      have := (unlN_some (setB_apart h.2.2.1) hU).1
      simp only [unlO]
      omega
  · simp
set_option maxRecDepth 100000 in
set_option maxHeartbeats 4000000 in
theorem vaultsLaw_any (sc pl ot v : List Int) (sd n least : Int) (A1 A2 A3 A4 : Option Addr) (n1 n2 n3 n4 c1 c2 c3 c4 : Nat) (w : World) (r1 : Rd w A1 (i64s sc)) (r2 : Rd w A2 (i64s pl)) (r3 : Rd w A3 (i64s ot)) (r4 : Rd w A4 (i64s v)) (e1 : n1 = sc.length) (e2 : n2 = pl.length) (e3 : n3 = ot.length) (e4 : n4 = v.length) (hc3 : n3 ≤ c3) :
    Calls Try.prog 3 #[.slice A1 n1 c1, .slice A2 n2 c2, .slice A3 n3 c3, .int .i64 sd, .slice A4 n4 c4, .int .i64 n, .int .i64 least] w fun e w' => e = .returned (.bool true) ∧ Below w.heap.size w w' := by
  by_cases d1 : n1 ≤ 100
  case neg => as_aux_lemma =>
    have g1 : (100 : Int) < (n1 : Int) := by omega
    clear r1 r2 r3 r4 e1 e2 e3 e4 hc3 d1
    go_enter Try.func3, Try.ntmps3
    go_wp2_with fail
    go_ret
    exact ⟨rfl, Below.refl _ _⟩
  have g1 : ¬ (100 : Int) < (n1 : Int) := by omega
  by_cases d2 : n2 ≤ 100
  case neg => as_aux_lemma =>
    have g2 : (100 : Int) < (n2 : Int) := by omega
    clear r1 r2 r3 r4 e1 e2 e3 e4 hc3 d2
    go_enter Try.func3, Try.ntmps3
    go_wp2_with fail
    go_ret
    exact ⟨rfl, Below.refl _ _⟩
  have g2 : ¬ (100 : Int) < (n2 : Int) := by omega
  by_cases d3 : n3 ≤ 100
  case neg => as_aux_lemma =>
    have g3 : (100 : Int) < (n3 : Int) := by omega
    clear r1 r2 r3 r4 e1 e2 e3 e4 hc3 d3
    go_enter Try.func3, Try.ntmps3
    go_wp2_with fail
    go_ret
    exact ⟨rfl, Below.refl _ _⟩
  have g3 : ¬ (100 : Int) < (n3 : Int) := by omega
  by_cases d4 : n4 ≤ 100
  case neg => as_aux_lemma =>
    have g4 : (100 : Int) < (n4 : Int) := by omega
    clear r1 r2 r3 r4 e1 e2 e3 e4 hc3 d4
    go_enter Try.func3, Try.ntmps3
    go_wp2_with fail
    go_ret
    exact ⟨rfl, Below.refl _ _⟩
  have g4 : ¬ (100 : Int) < (n4 : Int) := by omega
  have K1 := fun W (h : Below w.heap.size w W) => lock_any sc pl sd A1 A2 n1 n2 c1 c2 W (r1.below h) (r2.below h) e1 e2 (by omega) (by omega)
  have K2 := fun W (h : Below w.heap.size w W) => refLock_any sc pl sd A1 A2 n1 n2 c1 c2 W (r1.below h) (r2.below h) e1 e2 (by omega) (by omega)
  have K3 := fun W (h : Below w.heap.size w W) => unlock_any v ot n A4 A3 n4 n3 c4 c3 W (r4.below h) (r3.below h) e4 e3 (by omega) (by omega)
  have K4 := fun W (h : Below w.heap.size w W) => refUnlock_any v ot n A4 A3 n4 n3 c4 c3 W (r4.below h) (r3.below h) e4 e3 (by omega) (by omega) hc3
  have K5 := Lib.hid (fun W (h : Below w.heap.size w W) => rivals_any v A4 n4 c4 n least W (r4.below h) e4 (by omega))
  have K6 := Lib.hid (fun W (h : Below w.heap.size w W) => refRivals_any v A4 n4 c4 n least W (r4.below h) e4 (by omega))
  unfold IntsPost at K1 K2 K3 K4
  have hX := lokR_len sc pl sd
  have hY := unlR_len v ot n
  generalize (lokR sc pl sd).2 = f1 at *
  generalize (lokR sc pl sd).1 = X at *
  generalize (unlR v ot n).2 = f2 at *
  generalize (unlR v ot n).1 = Y at *
  generalize (rivR v n least).2 = f3 at *
  generalize (rivR v n least).1 = k3 at *
  obtain ⟨nx, hnx⟩ : ∃ nx, nx = X.length := ⟨_, rfl⟩
  obtain ⟨ny, hny⟩ : ∃ ny, ny = Y.length := ⟨_, rfl⟩
  rw [← hnx] at K1 K2
  rw [← hny] at K3 K4
  have K7 := Lib.hid (fun B B' cc cc' W (h : Rd W B (i64s X)) (h' : Rd W B' (i64s X)) => sameInts_any X X B B' nx nx cc cc' W h h' hnx hnx (by omega))
  have K8 := Lib.hid (fun B B' cc cc' W (h : Rd W B (i64s Y)) (h' : Rd W B' (i64s Y)) => sameInts_any Y Y B B' ny ny cc cc' W h h' hny hny (by omega))
  rw [decide_eq_true rfl] at K7 K8
  replace K1 := Lib.hid K1
  replace K2 := Lib.hid K2
  replace K3 := Lib.hid K3
  replace K4 := Lib.hid K4
  clear r1 r2 r3 r4 e1 e2 e3 e4 hc3 d1 d2 d3 d4 hnx hny hX hY
  go_enter Try.func3, Try.ntmps3
  go_wp2_with fail
  refine (K1.out _ (Below.refl _ _)).mono ?_
  rintro e w1 ⟨A5, c5, rfl, hO1⟩
  have S1 := Lib.hid hO1
  clear hO1 K1
  go_wp2_with fail
  refine (K2.out _ S1.out.bel).mono ?_
  rintro e w2 ⟨A6, c6, rfl, hO2⟩
  have S2 := Lib.hid (S1.out.call hO2)
  clear hO2 K2 S1
  go_wp2_with fail
  refine (K7.out A5 A6 c5 c6 _ (S2.out.rd 1 rfl) (S2.out.rd 0 rfl)).mono ?_
  rintro e w3 ⟨rfl, hb3⟩
  have S3 := Lib.hid ((S2.out.ext hb3).sub [] (by decide) (qs := []) rfl)
  clear hb3 K7 S2
  go_wp2_with fail
  refine (K3.out _ S3.out.bel).mono ?_
  rintro e w4 ⟨A7, c7, rfl, hO4⟩
  have S4 := Lib.hid (S3.out.call hO4)
  clear hO4 K3 S3
  go_wp2_with fail
  refine (K4.out _ S4.out.bel).mono ?_
  rintro e w5 ⟨A8, c8, rfl, hO5⟩
  have S5 := Lib.hid (S4.out.call hO5)
  clear hO5 K4 S4
  go_wp2_with fail
  refine (K8.out A7 A8 c7 c8 _ (S5.out.rd 1 rfl) (S5.out.rd 0 rfl)).mono ?_
  rintro e w6 ⟨rfl, hb6⟩
  have S6 := Lib.hid ((S5.out.ext hb6).sub [] (by decide) (qs := []) rfl)
  clear hb6 K8 S5
  go_wp2_with fail
  refine (K5.out _ S6.out.bel).mono ?_
  rintro e w7 ⟨rfl, hb7⟩
  have S7 := Lib.hid (S6.out.ext hb7)
  clear hb7 K5 S6
  go_wp2_with fail
  refine (K6.out _ S7.out.bel).mono ?_
  rintro e w8 ⟨rfl, hb8⟩
  have S8 := Lib.hid (S7.out.ext hb8)
  clear hb8 K6 S7
  go_wp2_with fail
  go_ret
  exact ⟨rfl, S8.out.bel⟩
end Go.Proofs.Ytnienfgaidccpaa
