/- Sketch: the walk of SketchLeft. No condition. -/
import Derived.Test.YtnienfgaidccpaaDoorSa
import Derived.Test.YtnienfgaidccpaaDoorMb
namespace Go.Proofs.YtnienfgaidccpaaDoor
open Go.RowKit Go.Shelf
attribute [local go_sem] Oper.semAt_some

theorem skL_one {n x s : Nat} (h1 : 1 ≤ n) (h3 : n ≤ 3) (hx : x < 2 ^ 15) (hr : (kd n).rest x = s) : skL n [x] = [s] ∧ skE n [x] = 0 := by
  have hk : kindB (n : Int) = true := by simp only [kindB, Bool.and_eq_true, decide_eq_true_eq]; omega
  have ht : tmplB [x] = true := by
    have : x < 32768 := hx
    simp [tmplB, this]
  constructor
  · unfold skL; rw [hk, ht]; simp [hr]
  · unfold skE; rw [hk, ht]; rfl
set_option maxRecDepth 100000 in
set_option maxHeartbeats 4000000 in
theorem leftLaw_any (k : Int) (s : Nat) (w : World) (hc : Cod w) (hk : 0 ≤ k ∧ k ≤ 255) (hs : s < 65536) :
    Calls Tryd.prog 14 #[.int .u8 k, .int .u16 (s : Nat)] w fun e w' => e = .returned (.bool true) ∧ Below w.heap.size w w' := by
  have HC := Lib.hid (fun W (h : Below w.heap.size w W) => hc.below h)
  have K27 := Lib.hid (fun W (h : Below w.heap.size w W) => alive_any W (HC.out W h))
  have KQ := fun W => Kind_any k W
  have S := Lib.hid (Own.start w)
  cases hkb : kindB k
  · as_aux_lemma =>
    have e1 : lefL k s = [] ∧ lefE k s = 2 := by simp [lefL, lefE, hkb]
    have KL := Lib.hid (fun W (h : Below w.heap.size w W) => (show Calls Tryd.prog 53 #[.int .u8 k, .int .u16 (s : Nat)] W fun e w' => ∃ A c, e = .returned (.tuple #[.slice A 0 c, .int .i64 2]) ∧ Own W w' [row 41 1 (.slice A 0 c) 0 (u16s [])] by
      have := left_any k s hs W (HC.out W h) hk; unfold WsPost at this; rw [e1.1, e1.2] at this; exact this))
    rw [hkb] at KQ
    replace KQ := Lib.hid KQ
    clear e1 hkb hc hk
    go_enter Tryd.func14, Tryd.ntmps14
    go_wp2_with fail
    refine (K27.out _ S.out.bel).mono ?_
    rintro e w1 ⟨rfl, hb1⟩
    replace S := Lib.hid (S.out.ext hb1)
    clear hb1
    go_wp2_with fail
    refine (KL.out _ S.out.bel).mono ?_
    rintro e w2 ⟨A1, c1, rfl, hO2⟩
    replace S := Lib.hid (S.out.call hO2)
    clear hO2
    go_wp2_with fail
    refine (KQ.out _).mono ?_
    rintro e w3 ⟨rfl, hb3⟩
    replace S := Lib.hid (S.out.ext hb3)
    clear hb3
    go_wp2_with fail
    go_ret
    exact ⟨rfl, S.out.bel⟩
  obtain ⟨n, rfl, hm1, hm3, hmt⟩ := kind_bd hkb
  have hok := kd_ok hm1 hm3
  have KI := fun W => isSketch_any n hm1 hm3 s hs W
  rw [hkb] at KQ
  replace KQ := Lib.hid KQ
  by_cases hsf : s < 2 ^ (kd n).f
  case neg => as_aux_lemma =>
    have e1 : lefL (n : Int) s = [] ∧ lefE (n : Int) s = 2 := by simp [lefL, lefE, hkb, hmt, hsf]
    have KL := Lib.hid (fun W (h : Below w.heap.size w W) => (show Calls Tryd.prog 53 #[.int .u8 (n : Nat), .int .u16 (s : Nat)] W fun e w' => ∃ A c, e = .returned (.tuple #[.slice A 0 c, .int .i64 2]) ∧ Own W w' [row 41 1 (.slice A 0 c) 0 (u16s [])] by
      have := left_any n s hs W (HC.out W h) hk; unfold WsPost at this; rw [e1.1, e1.2] at this; exact this))
    rw [decide_eq_false hsf] at KI
    replace KI := Lib.hid KI
    clear e1 hkb hc hk hsf hok hm1 hm3 hmt
    go_enter Tryd.func14, Tryd.ntmps14
    go_wp2_with fail
    refine (K27.out _ S.out.bel).mono ?_
    rintro e w1 ⟨rfl, hb1⟩
    replace S := Lib.hid (S.out.ext hb1)
    clear hb1
    go_wp2_with fail
    refine (KL.out _ S.out.bel).mono ?_
    rintro e w2 ⟨A1, c1, rfl, hO2⟩
    replace S := Lib.hid (S.out.call hO2)
    clear hO2
    go_wp2_with fail
    refine (KQ.out _).mono ?_
    rintro e w3 ⟨rfl, hb3⟩
    replace S := Lib.hid (S.out.ext hb3)
    clear hb3
    go_wp2_with fail
    refine (KI.out _).mono ?_
    rintro e w4 ⟨rfl, hb4⟩
    replace S := Lib.hid (S.out.ext hb4)
    clear hb4
    go_wp2_with fail
    go_ret
    exact ⟨rfl, S.out.bel⟩
  obtain ⟨LL, hLL⟩ : ∃ LL, LL = lefF (kd n) s 32768 := ⟨_, rfl⟩
  have e1 : lefL (n : Int) s = LL ∧ lefE (n : Int) s = 0 := by rw [hLL]; simp [lefL, lefE, hkb, hmt, hsf]
  obtain ⟨P, hP⟩ : ∃ P, P = 2 ^ (kd n).k := ⟨_, rfl⟩
  have hlen : LL.length = P := by rw [hLL, hP]; exact left_len hok hsf
  have hsum := hok.sum
  have hP2 : P ≤ 2048 := by rw [hP]; exact Nat.le_trans (Nat.pow_le_pow_right (by decide) hsum.2.2.1) (by decide)
  have hP1 : 1 ≤ P := by rw [hP]; exact Nat.two_pow_pos _
  have KL := Lib.hid (fun W (h : Below w.heap.size w W) => (show Calls Tryd.prog 53 #[.int .u8 (n : Nat), .int .u16 (s : Nat)] W fun e w' => ∃ A c, e = .returned (.tuple #[.slice A P c, .int .i64 0]) ∧ Own W w' [row 41 1 (.slice A P c) P (u16s LL)] by
    have := left_any n s hs W (HC.out W h) hk; unfold WsPost at this; rw [e1.1, e1.2, hlen] at this; exact this))
  rw [decide_eq_true hsf] at KI
  replace KI := Lib.hid KI
  have KK := Lib.hid (fun W => K_any n hm1 hm3 W)
  have HX := Lib.hid (fun x (h : x ∈ LL) => (show x < 32768 ∧ skL n [x] = [s] ∧ skE n [x] = 0 by
    rw [hLL] at h
    obtain ⟨a, b⟩ := lefF_mem.1 h
    exact ⟨a, skL_one hm1 hm3 a b⟩))
  have HA := Lib.hid (fun i j (hi : i < LL.length) (hj : j < LL.length) (hij : i < j) => (show LL[i] < LL[j] by
    have h := lefF_asc (kd n) s 32768
    rw [← hLL] at h
    exact List.pairwise_iff_getElem.1 h i j hi hj hij))
  have KS := Lib.hid (fun x (hx : x ∈ LL) A cp W (h : Below w.heap.size w W) (hr : Rd W A (u16s [x])) => (show Calls Tryd.prog 17 #[.int .u8 (n : Nat), .slice A 1 cp] W fun e w' => ∃ A c, e = .returned (.tuple #[.slice A 1 c, .int .i64 0]) ∧ Own W w' [row 41 1 (.slice A 1 c) 1 (u16s [s])] by
    have := sketch_main n [x] A 1 cp W (HC.out W h) hk hr rfl
    unfold WsPost at this
    rw [(HX.out x hx).2.1, (HX.out x hx).2.2] at this
    exact this))
  have e2 : IntKind.i64.wrap ((2 : Int) ^ (kd n).k) = (P : Int) := by
    rw [pow_cast, ← hP]
    exact IntWalk.i64_in _ (by omega)
  have b1 : 0 ≤ ((kd n).k : Int) := by omega
  have b2 : ((kd n).k : Int) ≤ 16 := by omega
  have HN := Lib.hid hlen
  generalize kd n = c at *
  clear e1 hkb hc hk hsf hok hm1 hm3 hmt hLL hP hlen hsum
  go_enter Tryd.func14, Tryd.ntmps14
  go_wp2_with fail
  refine (K27.out _ S.out.bel).mono ?_
  rintro e w1 ⟨rfl, hb1⟩
  replace S := Lib.hid (S.out.ext hb1)
  clear hb1
  go_wp2_with fail
  refine (KL.out _ S.out.bel).mono ?_
  rintro e w2 ⟨A1, c1, rfl, hO2⟩
  replace S := Lib.hid (S.out.call hO2)
  clear hO2
  obtain ⟨g1, rfl⟩ := S.out.rowAddr 0 rfl (by omega)
  go_wp2_with fail
  refine (KQ.out _).mono ?_
  rintro e w3 ⟨rfl, hb3⟩
  replace S := Lib.hid (S.out.ext hb3)
  clear hb3
  go_wp2_with fail
  refine (KI.out _).mono ?_
  rintro e w4 ⟨rfl, hb4⟩
  replace S := Lib.hid (S.out.ext hb4)
  clear hb4
  go_wp2_with fail
  refine (KK.out _).mono ?_
  rintro e w5 ⟨rfl, hb5⟩
  replace S := Lib.hid (S.out.ext hb5)
  clear hb5
  go_wp2_with fail
  go_loopg [45] P (fun q u45 wr => ∃ i : Nat, i ≤ P ∧ u45 = .int .i64 ((i : Nat) : Int) ∧ Hid (i + q = P ∧ Own w wr [row 41 1 (.slice (some ⟨g1, 0, none⟩) P c1) P (u16s LL)]))
  case atStart => exact ⟨0, by omega, rfl, by omega, S.out⟩
  case round =>
    obtain ⟨i, hi, rfl, hI⟩ := hrel
    have I1 := Lib.hid hI.out.1
    have I2 := Lib.hid hI.out.2
    clear hI S
    by_cases hlt : i < P
    case neg => as_aux_lemma =>
      have hni : ¬ (i : Int) < (P : Int) := by omega
      go_wp2_with fail
      go_ret
      exact ⟨rfl, I2.out.bel⟩
    have hil : i < LL.length := by rw [HN.out]; exact hlt
    have hix : (i : Int) < (P : Int) := by omega
    have l0 := I2.out.rowAt 0 rfl (u16s_get hil)
    have lg := (I2.out.rowLt 0 rfl).1
    obtain ⟨hx1, -⟩ := HX.out _ (List.getElem_mem hil)
    have KS1 := Lib.hid (KS.out _ (List.getElem_mem hil))
    have HA1 := Lib.hid (fun j (hj : j < i) => HA.out j i (by omega) hil hj)
    obtain ⟨x, hx⟩ : ∃ x, x = LL[i] := ⟨_, rfl⟩
    rw [← hx] at l0 hx1 KS1
    have HXI := Lib.hid hx
    clear hx
    have hx1z : ¬ (32768 : Int) ≤ (x : Int) := by omega
    by_cases hi0 : i = 0
    · as_aux_lemma =>
      have hiz : ¬ (0 : Int) < (i : Int) := by omega
      clear HA1 HXI hi0 hx1
      go_wp2_with fail
      refine (KS1.out _ _ _ (I2.out.ext (below_alloc wr (.cells #[.int .u16 (x : Nat)] 41))).bel (Rd.new wr #[.int .u16 (x : Nat)] 41)).mono ?_
      rintro e v1 ⟨A2, c2, rfl, hO⟩
      have S2 := Lib.hid ((I2.out.ext (below_alloc wr (.cells #[.int .u16 (x : Nat)] 41))).call hO)
      clear hO l0 lg
      go_wp2_with fail
      refine (words_true [s] A2 _ 1 1 c2 _ _ ((S2.out.rd 0 rfl).below (below_alloc v1 (.cells #[.int .u16 (s : Nat)] 41))) (Rd.new v1 #[.int .u16 (s : Nat)] 41) rfl rfl (by decide)).mono ?_
      rintro e v2 ⟨rfl, hb2⟩
      have S3 := Lib.hid (((S2.out.ext (below_alloc v1 (.cells #[.int .u16 (s : Nat)] 41))).ext hb2).tail)
      clear hb2 S2
      go_wp2_with fail
      go_roundg (gk - 1)
      case measure => have := I1.out; omega
      case rel => exact ⟨i + 1, by omega, by go_num, by have := I1.out; omega, S3.out⟩
    · as_aux_lemma =>
      have hiz : (0 : Int) < (i : Int) := by omega
      obtain ⟨j, hj⟩ : ∃ j, j = i - 1 := ⟨_, rfl⟩
      have zj : (i : Int) - 1 = (j : Int) := by omega
      have zjw : IntKind.i64.wrap (j : Int) = (j : Int) := IntWalk.i64_in _ (by omega)
      have hjP : (j : Int) < (P : Int) := by omega
      have l1 := I2.out.rowAt 0 rfl (u16s_get (show j < LL.length by omega))
      have hyx := HA1.out j (by omega)
      obtain ⟨y, hy⟩ : ∃ y, y = LL[j]'(by omega) := ⟨_, rfl⟩
      rw [← hy] at l1 hyx
      rw [← HXI.out] at hyx
      have hyz : ¬ (x : Int) ≤ (y : Int) := by omega
      clear HA1 HXI hy hj hyx hi0 hx1
      go_wp2_with fail
      refine (KS1.out _ _ _ (I2.out.ext (below_alloc wr (.cells #[.int .u16 (x : Nat)] 41))).bel (Rd.new wr #[.int .u16 (x : Nat)] 41)).mono ?_
      rintro e v1 ⟨A2, c2, rfl, hO⟩
      have S2 := Lib.hid ((I2.out.ext (below_alloc wr (.cells #[.int .u16 (x : Nat)] 41))).call hO)
      clear hO l0 l1 lg
      go_wp2_with fail
      refine (words_true [s] A2 _ 1 1 c2 _ _ ((S2.out.rd 0 rfl).below (below_alloc v1 (.cells #[.int .u16 (s : Nat)] 41))) (Rd.new v1 #[.int .u16 (s : Nat)] 41) rfl rfl (by decide)).mono ?_
      rintro e v2 ⟨rfl, hb2⟩
      have S3 := Lib.hid (((S2.out.ext (below_alloc v1 (.cells #[.int .u16 (s : Nat)] 41))).ext hb2).tail)
      clear hb2 S2
      go_wp2_with fail
      go_roundg (gk - 1)
      case measure => have := I1.out; omega
      case rel => exact ⟨i + 1, by omega, by go_num, by have := I1.out; omega, S3.out⟩
end Go.Proofs.YtnienfgaidccpaaDoor
