/- Sketch: what a sketch leaves, of the reference. Sketch: the walk of SketchLeft. Sketch: the walks of SketchCodes and SketchGuessed. No condition. -/
import Derived.Test.YtnienfgaidccpaaDoorUa
import Derived.Test.YtnienfgaidccpaaDoorSp
import Derived.Test.YtnienfgaidccpaaDoorKj
import Derived.Test.YtnienfgaidccpaaDoorMb
namespace Go.Proofs.YtnienfgaidccpaaDoor
open Go.RowKit Go.Shelf
attribute [local go_sem] Oper.semAt_some

/-- What Left of the reference returns. -/
def lefR (k : Int) (s : Nat) : List Nat := if (kindB k && decide (s < 2 ^ (kd k.toNat).f)) = true then lefF (kd k.toNat) s 32768 else []
def lefS (k : Int) (s : Nat) : Int := if (kindB k && decide (s < 2 ^ (kd k.toNat).f)) = true then 0 else 2
set_option maxRecDepth 100000 in
set_option maxHeartbeats 8000000 in
theorem refLeft_any (k : Int) (s : Nat) (hs : s < 65536) (w : World) :
    Calls Tryd.prog 54 #[.int .u8 k, .int .u16 (s : Nat)] w (WsPost (lefR k s) (lefS k s) w) := by
  have K29 := fun W => Kind_any k W
  cases hkb : kindB k
  · as_aux_lemma =>
    have HL := Lib.hid (show lefR k s = [] ∧ lefS k s = 2 by simp [lefR, lefS, hkb])
    rw [hkb] at K29
    replace K29 := Lib.hid K29
    clear hkb
    go_enter Tryd.func54, Tryd.ntmps54
    go_wp2_with fail
    refine (K29.out _).mono ?_
    rintro e w1 ⟨rfl, hb1⟩
    have S1 := Lib.hid ((Own.start w).ext hb1)
    clear hb1
    go_wp2_with fail
    go_ret2
    exact ⟨none, 0, by rw [HL.out.1, HL.out.2]; rfl, by rw [HL.out.1]; exact S1.out.nil 41 1⟩
  obtain ⟨n, rfl, hm1, hm3, hmt⟩ := kind_bd hkb
  have HRR := Lib.hid (show lefR (n : Int) s = (if s < 2 ^ (kd n).f then lefF (kd n) s 32768 else []) ∧ lefS (n : Int) s = if s < 2 ^ (kd n).f then 0 else 2 by simp [lefR, lefS, hkb])
  rw [hkb] at K29
  replace K29 := Lib.hid K29
  have K37 := fun W => isSketch_any n hm1 hm3 s hs W
  have K60 := Lib.hid (fun x (hx : x < 2 ^ 15) W => refRest_any n hm1 hm3 x hx W)
  generalize kd n = c at *
  clear hkb hmt hm1 hm3
  by_cases hsf : s < 2 ^ c.f
  case neg => as_aux_lemma =>
    have HL := Lib.hid (show lefR (n : Int) s = [] ∧ lefS (n : Int) s = 2 by rw [HRR.out.1, HRR.out.2, if_neg hsf, if_neg hsf]; exact ⟨rfl, rfl⟩)
    rw [decide_eq_false hsf] at K37
    replace K37 := Lib.hid K37
    clear hsf
    go_enter Tryd.func54, Tryd.ntmps54
    go_wp2_with fail
    refine (K29.out _).mono ?_
    rintro e w1 ⟨rfl, hb1⟩
    have S1 := Lib.hid ((Own.start w).ext hb1)
    clear hb1
    go_wp2_with fail
    refine (K37.out _).mono ?_
    rintro e w2 ⟨rfl, hb2⟩
    have S2 := Lib.hid (S1.out.ext hb2)
    clear hb2
    go_wp2_with fail
    go_ret2
    exact ⟨none, 0, by rw [HL.out.1, HL.out.2]; rfl, by rw [HL.out.1]; exact S2.out.nil 41 1⟩
  as_aux_lemma =>
  have HL := Lib.hid (show lefR (n : Int) s = lefF c s 32768 ∧ lefS (n : Int) s = 0 by rw [HRR.out.1, HRR.out.2, if_pos hsf, if_pos hsf]; exact ⟨rfl, rfl⟩)
  rw [decide_eq_true hsf] at K37
  replace K37 := Lib.hid K37
  clear hsf HRR
  go_enter Tryd.func54, Tryd.ntmps54
  go_wp2_with fail
  refine (K29.out _).mono ?_
  rintro e w1 ⟨rfl, hb1⟩
  have S1 := Lib.hid ((Own.start w).ext hb1)
  clear hb1
  go_wp2_with fail
  refine (K37.out _).mono ?_
  rintro e w2 ⟨rfl, hb2⟩
  have S2 := Lib.hid (((S1.out.ext hb2).nil 41 1).cast (qs := [row 41 1 (.slice none 0 0) 0 (u16s (lefF c s 0))]) rfl)
  clear hb2 S1
  go_wp2_with fail
  go_loopg [6, 7] 32768 (fun q u6 u7 wr => ∃ (i N1 : Nat) (A1 : Option Addr) (c1 : Nat), (i ≤ 32768 ∧ N1 ≤ i) ∧ u6 = .slice A1 N1 c1 ∧ u7 = .int .i64 ((i : Nat) : Int) ∧ Hid (i + q = 32768 ∧ N1 = (lefF c s i).length ∧ Own w wr [row 41 1 (.slice A1 N1 c1) N1 (u16s (lefF c s i))]))
  case atStart => exact ⟨0, 0, none, 0, by omega, rfl, rfl, by omega, rfl, S2.out⟩
  case round =>
    obtain ⟨i, N1, A1, c1, hi, rfl, rfl, hI⟩ := hrel
    have I1 := Lib.hid hI.out.1
    have I2 := Lib.hid hI.out.2.1
    have I3 := Lib.hid hI.out.2.2
    clear hI S2
    by_cases hlt : i < 32768
    case neg => as_aux_lemma =>
      have hi2 : i = 32768 := by omega
      have hni : ¬ (i : Int) < 32768 := by omega
      have HE := Lib.hid (show lefR (n : Int) s = lefF c s i by rw [HL.out.1, hi2])
      clear hi2
      go_wp2_with fail
      go_ret2
      exact ⟨A1, c1, by rw [HL.out.2, HE.out, ← I2.out]; rfl, by rw [HE.out, ← I2.out]; exact I3.out⟩
    have hix : (i : Int) < 32768 := by omega
    have zi : IntKind.u16.wrap (i : Int) = (i : Int) := IntWalk.u16_in _ (by omega)
    have HR1 := Lib.hid (fun W => K60.out i (by omega) W)
    by_cases hr : c.rest i = s
    · as_aux_lemma =>
      have HS := Lib.hid (lefF_yes hr)
      rw [hr] at HR1
      clear hr
      go_wp2_with fail
      refine (HR1.out _).mono ?_
      rintro e w5 ⟨rfl, hb5⟩
      have S6 := Lib.hid (I3.out.ext hb5)
      clear hb5
      go_wp2_with (at_builtin; refine wpList_appP rfl (.tmp 27) (.tmp 30) 22 rfl st22 0 (S6.out.ext (below_alloc w5 (.cells #[.int .u16 (i : Nat)] 41))) rfl rfl rfl (N1 + 1) (u16s (lefF c s (i + 1))) ?_ [.int .u16 (i : Nat)] rfl (by rw [HS.out, u16s_app]) (Rd.new _ #[.int .u16 (i : Nat)] 41) rfl (by simp [Value.oneCell']) (by unfold maxLen; omega) (by omega); intro A9 c9 w9 hO9; have HO9 := Lib.hid hO9; clear hO9)
      go_roundg (gk - 1)
      case measure => have := I1.out; omega
      case rel => exact ⟨i + 1, N1 + 1, A9, c9, by omega, rfl, by go_num, by have := I1.out; omega, by rw [HS.out, List.length_append, ← I2.out]; rfl, HO9.out⟩
    · as_aux_lemma =>
      have HS := Lib.hid (lefF_no hr)
      generalize c.rest i = y at *
      have hr2 : ¬ (y : Int) = (s : Int) := by omega
      have hr3 : ((y : Int) == (s : Int)) = false := by simp; omega
      clear hr
      go_wp2_with fail
      refine (HR1.out _).mono ?_
      rintro e w5 ⟨rfl, hb5⟩
      have S6 := Lib.hid (I3.out.ext hb5)
      clear hb5
      go_wp2_with fail
      go_roundg (gk - 1)
      case measure => have := I1.out; omega
      case rel => exact ⟨i + 1, N1, A1, c1, by omega, rfl, by go_num, by have := I1.out; omega, by rw [HS.out]; exact I2.out, by rw [HS.out]; exact S6.out⟩
end Go.Proofs.YtnienfgaidccpaaDoor

namespace Go.Proofs.YtnienfgaidccpaaDoor
open Go.RowKit Go.Shelf
attribute [local go_sem] Oper.semAt_some

theorem skL_one {n x s : Nat} (h1 : 1 ≤ n) (h3 : n ≤ 3) (hx : x < 2 ^ 15) (hr : (kd n).rest x = s) : skL n [x] = [s] ∧ skE n [x] = 0 := by
  have hk : kindB (n : Int) = true := by simp only [kindB, Bool.and_eq_true, decide_eq_true_eq]; omega
  have ht : tmplB [x] = true := by
    have : x < 32768 := hx
    simp [tmplB, this]
  constructor
  · unfold skL; rw [hk, ht]; simp [hr]
  · unfold skE; rw [hk, ht]; rfl
set_option maxRecDepth 100000 in
set_option maxHeartbeats 4000000 in
theorem leftLaw_any (k : Int) (s : Nat) (w : World) (hc : Cod w) (hk : 0 ≤ k ∧ k ≤ 255) (hs : s < 65536) :
    Calls Tryd.prog 14 #[.int .u8 k, .int .u16 (s : Nat)] w fun e w' => e = .returned (.bool true) ∧ Below w.heap.size w w' := by
  have HC := Lib.hid (fun W (h : Below w.heap.size w W) => hc.below h)
  have K27 := Lib.hid (fun W (h : Below w.heap.size w W) => alive_any W (HC.out W h))
  have KQ := fun W => Kind_any k W
  have S := Lib.hid (Own.start w)
  cases hkb : kindB k
  · as_aux_lemma =>
    have e1 : lefL k s = [] ∧ lefE k s = 2 := by simp [lefL, lefE, hkb]
    have KL := Lib.hid (fun W (h : Below w.heap.size w W) => (show Calls Tryd.prog 53 #[.int .u8 k, .int .u16 (s : Nat)] W fun e w' => ∃ A c, e = .returned (.tuple #[.slice A 0 c, .int .i64 2]) ∧ Own W w' [row 41 1 (.slice A 0 c) 0 (u16s [])] by
      have := left_any k s hs W (HC.out W h) hk; unfold WsPost at this; rw [e1.1, e1.2] at this; exact this))
    rw [hkb] at KQ
    replace KQ := Lib.hid KQ
    clear e1 hkb hc hk
    go_enter Tryd.func14, Tryd.ntmps14
    go_wp2_with fail
    refine (K27.out _ S.out.bel).mono ?_
    rintro e w1 ⟨rfl, hb1⟩
    replace S := Lib.hid (S.out.ext hb1)
    clear hb1
    go_wp2_with fail
    refine (KL.out _ S.out.bel).mono ?_
    rintro e w2 ⟨A1, c1, rfl, hO2⟩
    replace S := Lib.hid (S.out.call hO2)
    clear hO2
    go_wp2_with fail
    refine (KQ.out _).mono ?_
    rintro e w3 ⟨rfl, hb3⟩
    replace S := Lib.hid (S.out.ext hb3)
    clear hb3
    go_wp2_with fail
    go_ret
    exact ⟨rfl, S.out.bel⟩
  obtain ⟨n, rfl, hm1, hm3, hmt⟩ := kind_bd hkb
  have hok := kd_ok hm1 hm3
  have KI := fun W => isSketch_any n hm1 hm3 s hs W
  rw [hkb] at KQ
  replace KQ := Lib.hid KQ
  by_cases hsf : s < 2 ^ (kd n).f
  case neg => as_aux_lemma =>
    have e1 : lefL (n : Int) s = [] ∧ lefE (n : Int) s = 2 := by simp [lefL, lefE, hkb, hmt, hsf]
    have KL := Lib.hid (fun W (h : Below w.heap.size w W) => (show Calls Tryd.prog 53 #[.int .u8 (n : Nat), .int .u16 (s : Nat)] W fun e w' => ∃ A c, e = .returned (.tuple #[.slice A 0 c, .int .i64 2]) ∧ Own W w' [row 41 1 (.slice A 0 c) 0 (u16s [])] by
      have := left_any n s hs W (HC.out W h) hk; unfold WsPost at this; rw [e1.1, e1.2] at this; exact this))
    rw [decide_eq_false hsf] at KI
    replace KI := Lib.hid KI
    clear e1 hkb hc hk hsf hok hm1 hm3 hmt
    go_enter Tryd.func14, Tryd.ntmps14
    go_wp2_with fail
    refine (K27.out _ S.out.bel).mono ?_
    rintro e w1 ⟨rfl, hb1⟩
    replace S := Lib.hid (S.out.ext hb1)
    clear hb1
    go_wp2_with fail
    refine (KL.out _ S.out.bel).mono ?_
    rintro e w2 ⟨A1, c1, rfl, hO2⟩
    replace S := Lib.hid (S.out.call hO2)
    clear hO2
    go_wp2_with fail
    refine (KQ.out _).mono ?_
    rintro e w3 ⟨rfl, hb3⟩
    replace S := Lib.hid (S.out.ext hb3)
    clear hb3
    go_wp2_with fail
    refine (KI.out _).mono ?_
    rintro e w4 ⟨rfl, hb4⟩
    replace S := Lib.hid (S.out.ext hb4)
    clear hb4
    go_wp2_with fail
    go_ret
    exact ⟨rfl, S.out.bel⟩
  obtain ⟨LL, hLL⟩ : ∃ LL, LL = lefF (kd n) s 32768 := ⟨_, rfl⟩
  have e1 : lefL (n : Int) s = LL ∧ lefE (n : Int) s = 0 := by rw [hLL]; simp [lefL, lefE, hkb, hmt, hsf]
  obtain ⟨P, hP⟩ : ∃ P, P = 2 ^ (kd n).k := ⟨_, rfl⟩
  have hlen : LL.length = P := by rw [hLL, hP]; exact left_len hok hsf
  have hsum := hok.sum
  have hP2 : P ≤ 2048 := by rw [hP]; exact Nat.le_trans (Nat.pow_le_pow_right (by decide) hsum.2.2.1) (by decide)
  have hP1 : 1 ≤ P := by rw [hP]; exact Nat.two_pow_pos _
  have KL := Lib.hid (fun W (h : Below w.heap.size w W) => (show Calls Tryd.prog 53 #[.int .u8 (n : Nat), .int .u16 (s : Nat)] W fun e w' => ∃ A c, e = .returned (.tuple #[.slice A P c, .int .i64 0]) ∧ Own W w' [row 41 1 (.slice A P c) P (u16s LL)] by
    have := left_any n s hs W (HC.out W h) hk; unfold WsPost at this; rw [e1.1, e1.2, hlen] at this; exact this))
  rw [decide_eq_true hsf] at KI
  replace KI := Lib.hid KI
  have KK := Lib.hid (fun W => K_any n hm1 hm3 W)
  have HX := Lib.hid (fun x (h : x ∈ LL) => (show x < 32768 ∧ skL n [x] = [s] ∧ skE n [x] = 0 by
    rw [hLL] at h
    obtain ⟨a, b⟩ := lefF_mem.1 h
    exact ⟨a, skL_one hm1 hm3 a b⟩))
  have HA := Lib.hid (fun i j (hi : i < LL.length) (hj : j < LL.length) (hij : i < j) => (show LL[i] < LL[j] by
    have h := lefF_asc (kd n) s 32768
    rw [← hLL] at h
    exact List.pairwise_iff_getElem.1 h i j hi hj hij))
  have KS := Lib.hid (fun x (hx : x ∈ LL) A cp W (h : Below w.heap.size w W) (hr : Rd W A (u16s [x])) => (show Calls Tryd.prog 17 #[.int .u8 (n : Nat), .slice A 1 cp] W fun e w' => ∃ A c, e = .returned (.tuple #[.slice A 1 c, .int .i64 0]) ∧ Own W w' [row 41 1 (.slice A 1 c) 1 (u16s [s])] by
    have := sketch_main n [x] A 1 cp W (HC.out W h) hk hr rfl
    unfold WsPost at this
    rw [(HX.out x hx).2.1, (HX.out x hx).2.2] at this
    exact this))
  have e2 : IntKind.i64.wrap ((2 : Int) ^ (kd n).k) = (P : Int) := by
    rw [pow_cast, ← hP]
    exact IntWalk.i64_in _ (by omega)
  have b1 : 0 ≤ ((kd n).k : Int) := by omega
  have b2 : ((kd n).k : Int) ≤ 16 := by omega
  have HN := Lib.hid hlen
  generalize kd n = c at *
  clear e1 hkb hc hk hsf hok hm1 hm3 hmt hLL hP hlen hsum
  go_enter Tryd.func14, Tryd.ntmps14
  go_wp2_with fail
  refine (K27.out _ S.out.bel).mono ?_
  rintro e w1 ⟨rfl, hb1⟩
  replace S := Lib.hid (S.out.ext hb1)
  clear hb1
  go_wp2_with fail
  refine (KL.out _ S.out.bel).mono ?_
  rintro e w2 ⟨A1, c1, rfl, hO2⟩
  replace S := Lib.hid (S.out.call hO2)
  clear hO2
  obtain ⟨g1, rfl⟩ := S.out.rowAddr 0 rfl (by omega)
  go_wp2_with fail
  refine (KQ.out _).mono ?_
  rintro e w3 ⟨rfl, hb3⟩
  replace S := Lib.hid (S.out.ext hb3)
  clear hb3
  go_wp2_with fail
  refine (KI.out _).mono ?_
  rintro e w4 ⟨rfl, hb4⟩
  replace S := Lib.hid (S.out.ext hb4)
  clear hb4
  go_wp2_with fail
  refine (KK.out _).mono ?_
  rintro e w5 ⟨rfl, hb5⟩
  replace S := Lib.hid (S.out.ext hb5)
  clear hb5
  go_wp2_with fail
  go_loopg [45] P (fun q u45 wr => ∃ i : Nat, i ≤ P ∧ u45 = .int .i64 ((i : Nat) : Int) ∧ Hid (i + q = P ∧ Own w wr [row 41 1 (.slice (some ⟨g1, 0, none⟩) P c1) P (u16s LL)]))
  case atStart => exact ⟨0, by omega, rfl, by omega, S.out⟩
  case round =>
    obtain ⟨i, hi, rfl, hI⟩ := hrel
    have I1 := Lib.hid hI.out.1
    have I2 := Lib.hid hI.out.2
    clear hI S
    by_cases hlt : i < P
    case neg => as_aux_lemma =>
      have hni : ¬ (i : Int) < (P : Int) := by omega
      go_wp2_with fail
      go_ret
      exact ⟨rfl, I2.out.bel⟩
    have hil : i < LL.length := by rw [HN.out]; exact hlt
    have hix : (i : Int) < (P : Int) := by omega
    have l0 := I2.out.rowAt 0 rfl (u16s_get hil)
    have lg := (I2.out.rowLt 0 rfl).1
    obtain ⟨hx1, -⟩ := HX.out _ (List.getElem_mem hil)
    have KS1 := Lib.hid (KS.out _ (List.getElem_mem hil))
    have HA1 := Lib.hid (fun j (hj : j < i) => HA.out j i (by omega) hil hj)
    obtain ⟨x, hx⟩ : ∃ x, x = LL[i] := ⟨_, rfl⟩
    rw [← hx] at l0 hx1 KS1
    have HXI := Lib.hid hx
    clear hx
    have hx1z : ¬ (32768 : Int) ≤ (x : Int) := by omega
    by_cases hi0 : i = 0
    · as_aux_lemma =>
      have hiz : ¬ (0 : Int) < (i : Int) := by omega
      clear HA1 HXI hi0 hx1
      go_wp2_with fail
      refine (KS1.out _ _ _ (I2.out.ext (below_alloc wr (.cells #[.int .u16 (x : Nat)] 41))).bel (Rd.new wr #[.int .u16 (x : Nat)] 41)).mono ?_
      rintro e v1 ⟨A2, c2, rfl, hO⟩
      have S2 := Lib.hid ((I2.out.ext (below_alloc wr (.cells #[.int .u16 (x : Nat)] 41))).call hO)
      clear hO l0 lg
      go_wp2_with fail
      refine (words_true [s] A2 _ 1 1 c2 _ _ ((S2.out.rd 0 rfl).below (below_alloc v1 (.cells #[.int .u16 (s : Nat)] 41))) (Rd.new v1 #[.int .u16 (s : Nat)] 41) rfl rfl (by decide)).mono ?_
      rintro e v2 ⟨rfl, hb2⟩
      have S3 := Lib.hid (((S2.out.ext (below_alloc v1 (.cells #[.int .u16 (s : Nat)] 41))).ext hb2).tail)
      clear hb2 S2
      go_wp2_with fail
      go_roundg (gk - 1)
      case measure => have := I1.out; omega
      case rel => exact ⟨i + 1, by omega, by go_num, by have := I1.out; omega, S3.out⟩
    · as_aux_lemma =>
      have hiz : (0 : Int) < (i : Int) := by omega
      obtain ⟨j, hj⟩ : ∃ j, j = i - 1 := ⟨_, rfl⟩
      have zj : (i : Int) - 1 = (j : Int) := by omega
      have zjw : IntKind.i64.wrap (j : Int) = (j : Int) := IntWalk.i64_in _ (by omega)
      have hjP : (j : Int) < (P : Int) := by omega
      have l1 := I2.out.rowAt 0 rfl (u16s_get (show j < LL.length by omega))
      have hyx := HA1.out j (by omega)
      obtain ⟨y, hy⟩ : ∃ y, y = LL[j]'(by omega) := ⟨_, rfl⟩
      rw [← hy] at l1 hyx
      rw [← HXI.out] at hyx
      have hyz : ¬ (x : Int) ≤ (y : Int) := by omega
      clear HA1 HXI hy hj hyx hi0 hx1
      go_wp2_with fail
      refine (KS1.out _ _ _ (I2.out.ext (below_alloc wr (.cells #[.int .u16 (x : Nat)] 41))).bel (Rd.new wr #[.int .u16 (x : Nat)] 41)).mono ?_
      rintro e v1 ⟨A2, c2, rfl, hO⟩
      have S2 := Lib.hid ((I2.out.ext (below_alloc wr (.cells #[.int .u16 (x : Nat)] 41))).call hO)
      clear hO l0 l1 lg
      go_wp2_with fail
      refine (words_true [s] A2 _ 1 1 c2 _ _ ((S2.out.rd 0 rfl).below (below_alloc v1 (.cells #[.int .u16 (s : Nat)] 41))) (Rd.new v1 #[.int .u16 (s : Nat)] 41) rfl rfl (by decide)).mono ?_
      rintro e v2 ⟨rfl, hb2⟩
      have S3 := Lib.hid (((S2.out.ext (below_alloc v1 (.cells #[.int .u16 (s : Nat)] 41))).ext hb2).tail)
      clear hb2 S2
      go_wp2_with fail
      go_roundg (gk - 1)
      case measure => have := I1.out; omega
      case rel => exact ⟨i + 1, by omega, by go_num, by have := I1.out; omega, S3.out⟩
end Go.Proofs.YtnienfgaidccpaaDoor

namespace Go.Proofs.YtnienfgaidccpaaDoor
open Go.RowKit Go.Shelf Go.Maps
attribute [local go_sem] Oper.semAt_some

set_option maxRecDepth 100000 in
set_option maxHeartbeats 8000000 in
theorem refEncode_any (k : Int) (m : Nat) (hm16 : m < 65536) (w : World) :
    Calls Tryd.prog 51 #[.int .u8 k, .int .u16 (m : Nat)] w fun e w' => e = .returned (.tuple #[.int .u16 ((encR k m).1 : Nat), .int .i64 (encR k m).2]) ∧ Below w.heap.size w w' := by
  have K29 := fun W => Kind_any k W
  cases hkb : kindB k
  · as_aux_lemma =>
    have HL := Lib.hid (show encR k m = (0, 2) by simp [encR, hkb])
    rw [hkb] at K29
    replace K29 := Lib.hid K29
    clear hkb
    go_enter Tryd.func51, Tryd.ntmps51
    go_wp2_with fail
    refine (K29.out _).mono ?_
    rintro e w1 ⟨rfl, hb1⟩
    have S1 := Lib.hid ((Own.start w).ext hb1)
    clear hb1
    go_wp2_with fail
    go_ret2
    exact ⟨by rw [HL.out]; rfl, S1.out.bel⟩
  obtain ⟨n, rfl, hm1, hm3, hmt⟩ := kind_bd hkb
  have HRR := Lib.hid (show encR (n : Int) m = if m < 2 ^ (kd n).k then ((kd n).code m, 0) else (0, 2) by simp [encR, hkb])
  rw [hkb] at K29
  replace K29 := Lib.hid K29
  have K30 := fun W => isMessage_any n hm1 hm3 m hm16 W
  have K65 := fun (h : m < 2 ^ (kd n).k) W => refCoded_any n hm1 hm3 m h W
  generalize kd n = c at *
  clear hkb hmt hm1 hm3
  by_cases hm : m < 2 ^ c.k
  · as_aux_lemma =>
    have HL := Lib.hid (show encR (n : Int) m = (c.code m, 0) by rw [HRR.out, if_pos hm])
    rw [decide_eq_true hm] at K30
    replace K30 := Lib.hid K30
    have K65' := Lib.hid (K65 hm)
    clear K65 hm
    generalize c.code m = y at *
    go_enter Tryd.func51, Tryd.ntmps51
    go_wp2_with fail
    refine (K29.out _).mono ?_
    rintro e w1 ⟨rfl, hb1⟩
    have S1 := Lib.hid ((Own.start w).ext hb1)
    clear hb1
    go_wp2_with fail
    refine (K30.out _).mono ?_
    rintro e w2 ⟨rfl, hb2⟩
    have S2 := Lib.hid (S1.out.ext hb2)
    clear hb2
    go_wp2_with fail
    refine (K65'.out _).mono ?_
    rintro e w3 ⟨rfl, hb3⟩
    have S3 := Lib.hid (S2.out.ext hb3)
    clear hb3
    go_wp2_with fail
    go_ret2
    exact ⟨by rw [HL.out]; rfl, S3.out.bel⟩
  · as_aux_lemma =>
    have HL := Lib.hid (show encR (n : Int) m = (0, 2) by rw [HRR.out, if_neg hm])
    rw [decide_eq_false hm] at K30
    replace K30 := Lib.hid K30
    clear K65 hm
    go_enter Tryd.func51, Tryd.ntmps51
    go_wp2_with fail
    refine (K29.out _).mono ?_
    rintro e w1 ⟨rfl, hb1⟩
    have S1 := Lib.hid ((Own.start w).ext hb1)
    clear hb1
    go_wp2_with fail
    refine (K30.out _).mono ?_
    rintro e w2 ⟨rfl, hb2⟩
    have S2 := Lib.hid (S1.out.ext hb2)
    clear hb2
    go_wp2_with fail
    go_ret2
    exact ⟨by rw [HL.out]; rfl, S2.out.bel⟩
set_option maxRecDepth 100000 in
set_option maxHeartbeats 8000000 in
theorem refDecode_any (k : Int) (x : Nat) (hx16 : x < 65536) (w : World) :
    Calls Tryd.prog 52 #[.int .u8 k, .int .u16 (x : Nat)] w fun e w' => e = .returned (.tuple #[.int .u16 ((decR k x).1 : Nat), .int .i64 (((decR k x).2.1 : Nat) : Int), .int .i64 (decR k x).2.2]) ∧ Below w.heap.size w w' := by
  have K29 := fun W => Kind_any k W
  cases hkb : kindB k
  · as_aux_lemma =>
    have HL := Lib.hid (show decR k x = (0, 0, 2) by simp [decR, hkb])
    rw [hkb] at K29
    replace K29 := Lib.hid K29
    clear hkb hx16
    go_enter Tryd.func52, Tryd.ntmps52
    go_wp2_with fail
    refine (K29.out _).mono ?_
    rintro e w1 ⟨rfl, hb1⟩
    have S1 := Lib.hid ((Own.start w).ext hb1)
    clear hb1
    go_wp2_with fail
    go_ret3
    exact ⟨by rw [HL.out]; rfl, S1.out.bel⟩
  obtain ⟨n, rfl, hm1, hm3, hmt⟩ := kind_bd hkb
  have HRR := Lib.hid (show decR (n : Int) x = if x < 32768 then decO ((kd n).dec x) else (0, 0, 2) by simp [decR, hkb])
  rw [hkb] at K29
  replace K29 := Lib.hid K29
  have K64 := fun (h : x < 2 ^ 15) W => refDecoded_any n hm1 hm3 x h W
  generalize kd n = c at *
  clear hkb hmt hm1 hm3
  by_cases hx : x < 32768
  case neg => as_aux_lemma =>
    have HL := Lib.hid (show decR (n : Int) x = (0, 0, 2) by rw [HRR.out, if_neg hx])
    have hxz : decide ((32768 : Int) ≤ (x : Int)) = true := decide_eq_true (by omega)
    clear K64 hx hx16
    go_enter Tryd.func52, Tryd.ntmps52
    go_wp2_with fail
    refine (K29.out _).mono ?_
    rintro e w1 ⟨rfl, hb1⟩
    have S1 := Lib.hid ((Own.start w).ext hb1)
    clear hb1
    go_wp2_with fail
    go_ret3
    exact ⟨by rw [HL.out]; rfl, S1.out.bel⟩
  have HL := Lib.hid (show decR (n : Int) x = decO (c.dec x) by rw [HRR.out, if_pos hx])
  have hxz : decide ((32768 : Int) ≤ (x : Int)) = false := decide_eq_false (by omega)
  have K64' := K64 hx
  clear K64 hx hx16 HRR
  generalize c.dec x = dx at *
  rcases dx with _ | ⟨mm, d⟩
  · as_aux_lemma =>
    unfold decV at K64'
    replace K64' := Lib.hid K64'
    go_enter Tryd.func52, Tryd.ntmps52
    go_wp2_with fail
    refine (K29.out _).mono ?_
    rintro e w1 ⟨rfl, hb1⟩
    have S1 := Lib.hid ((Own.start w).ext hb1)
    clear hb1
    go_wp2_with fail
    refine (K64'.out _).mono ?_
    rintro e w2 ⟨rfl, hb2⟩
    have S2 := Lib.hid (S1.out.ext hb2)
    clear hb2
    go_wp2_with fail
    go_ret3
    exact ⟨by rw [HL.out]; rfl, S2.out.bel⟩
  · as_aux_lemma =>
    unfold decV at K64'
    replace K64' := Lib.hid K64'
    go_enter Tryd.func52, Tryd.ntmps52
    go_wp2_with fail
    refine (K29.out _).mono ?_
    rintro e w1 ⟨rfl, hb1⟩
    have S1 := Lib.hid ((Own.start w).ext hb1)
    clear hb1
    go_wp2_with fail
    refine (K64'.out _).mono ?_
    rintro e w2 ⟨rfl, hb2⟩
    have S2 := Lib.hid (S1.out.ext hb2)
    clear hb2
    go_wp2_with fail
    go_ret3
    exact ⟨by rw [HL.out]; rfl, S2.out.bel⟩
theorem lefL_len (k : Int) (s : Nat) : (lefL k s).length ≤ 32768 := by
  unfold lefL
  split
  · exact lefF_len _ _ _
  · simp
set_option maxRecDepth 100000 in
set_option maxHeartbeats 8000000 in
theorem codesLaw_any (k : Int) (m x s : Nat) (l : List Nat) (A : Option Addr) (n cp : Nat) (w : World) (hc : Cod w) (hk : 0 ≤ k ∧ k ≤ 255) (hm : m < 65536) (hx : x < 65536) (hs : s < 65536) (hr : Rd w A (u16s l)) (hn : n = l.length) (hw : W16 l) :
    Calls Tryd.prog 13 #[.int .u8 k, .int .u16 (m : Nat), .int .u16 (x : Nat), .int .u16 (s : Nat), .slice A n cp] w fun e w' => e = .returned (.bool true) ∧ Below w.heap.size w w' := by
  have S := Lib.hid (Own.start w)
  by_cases hl : n ≤ 200
  case neg => as_aux_lemma =>
    have hl2 : (200 : Int) < (n : Int) := by omega
    clear hl hn hr hc hk
    go_enter Tryd.func13, Tryd.ntmps13
    go_wp2_with fail
    go_ret
    exact ⟨rfl, S.out.bel⟩
  have hl2 : ¬ (200 : Int) < (n : Int) := by omega
  have HC := Lib.hid (fun W (h : Below w.heap.size w W) => hc.below h)
  have K28 := fun W (h : Below w.heap.size w W) => encodeW_any k m W (HC.out W h) hk
  have K51 := fun W => refEncode_any k m hm W
  have K32 := fun W (h : Below w.heap.size w W) => decodeW_any k x hx W (HC.out W h) hk
  have K52 := fun W => refDecode_any k x hx W
  have K53 := fun W (h : Below w.heap.size w W) => left_any k s hs W (HC.out W h) hk
  have K54 := fun W => refLeft_any k s hs W
  have K55 := fun W (h : Below w.heap.size w W) => guess_any k l A n cp W (HC.out W h) hk (hr.below h) hn hw (by omega)
  have K56 := fun W (h : Below w.heap.size w W) => refGuess_any k l A n cp W (hr.below h) hn
  have hR : lefR k s = lefL k s ∧ lefS k s = lefE k s := ⟨rfl, rfl⟩
  unfold WsPost at K53 K54
  rw [hR.1, hR.2] at K54
  have hLL := lefL_len k s
  have K19 := fun A A' cp cp' W h h' => sameWords_true (lefL k s) A A' (lefL k s).length (lefL k s).length cp cp' W h h' rfl rfl (by omega)
  generalize encR k m = r1 at *
  generalize decR k x = r2 at *
  generalize gueV k l = r3 at *
  generalize lefE k s = e4 at *
  generalize lefL k s = LL at *
  generalize LL.length = NL at *
  obtain ⟨a1, e1⟩ := r1
  obtain ⟨a2, d2, e2⟩ := r2
  obtain ⟨a3, d3, e3⟩ := r3
  dsimp only at K28 K51 K32 K52 K55 K56
  replace K28 := Lib.hid K28
  replace K51 := Lib.hid K51
  replace K32 := Lib.hid K32
  replace K52 := Lib.hid K52
  replace K53 := Lib.hid K53
  replace K54 := Lib.hid K54
  replace K55 := Lib.hid K55
  replace K56 := Lib.hid K56
  replace K19 := Lib.hid K19
  clear hR hc hk hm hx hs hr hn hw hl HC hLL
  as_aux_lemma =>
  go_enter Tryd.func13, Tryd.ntmps13
  go_wp2_with fail
  refine (K28.out _ S.out.bel).mono ?_
  rintro e w1 ⟨rfl, hb1⟩
  have S1 := Lib.hid ((Own.start w).ext hb1)
  clear hb1
  go_wp2_with fail
  refine (K51.out _).mono ?_
  rintro e w2 ⟨rfl, hb2⟩
  have S2 := Lib.hid (S1.out.ext hb2)
  clear hb2
  go_wp2_with fail
  refine (K32.out _ S2.out.bel).mono ?_
  rintro e w3 ⟨rfl, hb3⟩
  have S3 := Lib.hid (S2.out.ext hb3)
  clear hb3
  go_wp2_with fail
  refine (K52.out _).mono ?_
  rintro e w4 ⟨rfl, hb4⟩
  have S4 := Lib.hid (S3.out.ext hb4)
  clear hb4
  go_wp2_with fail
  refine (K53.out _ S4.out.bel).mono ?_
  rintro e w5 ⟨A5, c5, rfl, hO⟩
  have S5 := Lib.hid (S4.out.call hO)
  clear hO
  go_wp2_with fail
  refine (K54.out _).mono ?_
  rintro e w6 ⟨A6, c6, rfl, hO⟩
  have S6 := Lib.hid (S5.out.call hO)
  clear hO
  go_wp2_with fail
  refine (K19.out _ _ _ _ _ (S6.out.rd 1 rfl) (S6.out.rd 0 rfl)).mono ?_
  rintro e w7 ⟨rfl, hb7⟩
  have S7 := Lib.hid (S6.out.ext hb7)
  clear hb7
  go_wp2_with fail
  refine (K55.out _ S7.out.bel).mono ?_
  rintro e w8 ⟨rfl, hb8⟩
  have S8 := Lib.hid (S7.out.ext hb8)
  clear hb8
  go_wp2_with fail
  refine (K56.out _ S8.out.bel).mono ?_
  rintro e w9 ⟨rfl, hb9⟩
  have S9 := Lib.hid (S8.out.ext hb9)
  clear hb9
  go_wp2_with fail
  go_ret
  exact ⟨rfl, S9.out.bel⟩
theorem gueV_cases (k : Int) (l : List Nat) : (gueV k l = (0, 0, 2)) ∨ (gueV k l = (0, 0, 4)) ∨ (gueV k l = (1, (dst (l.map (kd k.toNat).rest)).length, 0) ∧ kindB k = true ∧ gueB l = true ∧ 1 ≤ l.length ∧ l.length ≤ 100) := by
  unfold gueV gueF
  split
  · exact .inl rfl
  · next h1 =>
    split
    · exact .inr (.inl rfl)
    · next h2 =>
      split
      · next h3 => exact .inr (.inr ⟨rfl, by simpa using h1, h3, by omega, by omega⟩)
      · exact .inl rfl
set_option maxRecDepth 100000 in
set_option maxHeartbeats 8000000 in
theorem guessedLaw_any (k : Int) (l : List Nat) (A : Option Addr) (n cp : Nat) (w : World) (hc : Cod w) (hk : 0 ≤ k ∧ k ≤ 255) (hr : Rd w A (u16s l)) (hn : n = l.length) (hw : W16 l) :
    Calls Tryd.prog 15 #[.int .u8 k, .slice A n cp] w fun e w' => e = .returned (.bool true) ∧ Below w.heap.size w w' := by
  have S := Lib.hid (Own.start w)
  have HC := Lib.hid (fun W (h : Below w.heap.size w W) => hc.below h)
  have K27 := Lib.hid (fun W (h : Below w.heap.size w W) => alive_any W (HC.out W h))
  by_cases hl : n ≤ 200
  case neg => as_aux_lemma =>
    have hl2 : (200 : Int) < (n : Int) := by omega
    clear hl hn hr hc hk
    go_enter Tryd.func15, Tryd.ntmps15
    go_wp2_with fail
    refine (K27.out _ S.out.bel).mono ?_
    rintro e w1 ⟨rfl, hb1⟩
    have S1 := Lib.hid ((Own.start w).ext hb1)
    clear hb1
    go_wp2_with fail
    go_ret
    exact ⟨rfl, S1.out.bel⟩
  have hl2 : ¬ (200 : Int) < (n : Int) := by omega
  have K55 := fun W (h : Below w.heap.size w W) => guess_any k l A n cp W (HC.out W h) hk (hr.below h) hn hw (by omega)
  rcases gueV_cases k l with hg | hg | ⟨hg, hkb, hgb, hn1, hn100⟩
  · as_aux_lemma =>
    rw [hg] at K55
    dsimp only at K55
    replace K55 := Lib.hid K55
    clear hg hc hk hr hn hw hl
    go_enter Tryd.func15, Tryd.ntmps15
    go_wp2_with fail
    refine (K27.out _ S.out.bel).mono ?_
    rintro e w1 ⟨rfl, hb1⟩
    have S1 := Lib.hid ((Own.start w).ext hb1)
    clear hb1
    go_wp2_with fail
    refine (K55.out _ S1.out.bel).mono ?_
    rintro e w2 ⟨rfl, hb2⟩
    have S2 := Lib.hid (S1.out.ext hb2)
    clear hb2
    go_wp2_with fail
    go_ret
    exact ⟨rfl, S2.out.bel⟩
  · as_aux_lemma =>
    rw [hg] at K55
    dsimp only at K55
    replace K55 := Lib.hid K55
    clear hg hc hk hr hn hw hl
    go_enter Tryd.func15, Tryd.ntmps15
    go_wp2_with fail
    refine (K27.out _ S.out.bel).mono ?_
    rintro e w1 ⟨rfl, hb1⟩
    have S1 := Lib.hid ((Own.start w).ext hb1)
    clear hb1
    go_wp2_with fail
    refine (K55.out _ S1.out.bel).mono ?_
    rintro e w2 ⟨rfl, hb2⟩
    have S2 := Lib.hid (S1.out.ext hb2)
    clear hb2
    go_wp2_with fail
    go_ret
    exact ⟨rfl, S2.out.bel⟩
  obtain ⟨m, rfl, hm1, hm3, hmt⟩ := kind_bd hkb
  have hok := kd_ok hm1 hm3
  rw [hmt] at hg
  have h15 := gueB_all hgb
  have hN1 : (dst (l.map (kd m).rest)).length ≤ n := by
    have := dst_len (l.map (kd m).rest)
    rw [List.length_map] at this
    omega
  have hN2 : (dst (l.map (kd m).rest)).length ≤ 2 ^ (kd m).f := nodup_len _ _ (dst_nodup _) fun y hy => by
    obtain ⟨x, hx, rfl⟩ := List.mem_map.1 (dst_mem.1 hy)
    exact Kd.rest_lt hok (h15 x hx)
  rw [hg] at K55
  dsimp only at K55
  have KS := Lib.hid (fun x (hx : x ∈ l) A cp W (h : Below w.heap.size w W) (hr : Rd W A (u16s [x])) => (show Calls Tryd.prog 17 #[.int .u8 (m : Nat), .slice A 1 cp] W fun e w' => ∃ A c, e = .returned (.tuple #[.slice A 1 c, .int .i64 0]) ∧ Own W w' [row 41 1 (.slice A 1 c) 1 (u16s [(kd m).rest x])] by
    have := sketch_main m [x] A 1 cp W (HC.out W h) hk hr rfl
    unfold WsPost at this
    rw [(skL_one hm1 hm3 (h15 x hx) rfl).1, (skL_one hm1 hm3 (h15 x hx) rfl).2] at this
    exact this))
  have KK := Lib.hid (fun W => K_any m hm1 hm3 W)
  have hsum := hok.sum
  obtain ⟨F, hF⟩ : ∃ F, F = 2 ^ (kd m).f := ⟨_, rfl⟩
  have hF2 : F ≤ 2048 := by rw [hF]; exact Nat.le_trans (Nat.pow_le_pow_right (by decide) (show (kd m).f ≤ 11 by rcases hok with h | h | h <;> rw [h] <;> decide)) (by decide)
  have HRL := Lib.hid (fun x (hx : x ∈ l) => (show (kd m).rest x < 65536 by
    have := Kd.rest_lt hok (h15 x hx)
    have := pow_f_le hok
    omega))
  rw [← hF] at hN2
  have e1 : IntKind.i64.wrap (15 - ((kd m).k : Int)) = ((kd m).f : Int) := by rw [show (15 : Int) - ((kd m).k : Int) = ((kd m).f : Int) by omega]; exact IntWalk.i64_in _ (by omega)
  have e2 : IntKind.i64.wrap ((2 : Int) ^ (kd m).f) = (F : Int) := by
    rw [pow_cast, ← hF]
    exact IntWalk.i64_in _ (by omega)
  have b1 : 0 ≤ ((kd m).f : Int) := by omega
  have b2 : ((kd m).f : Int) ≤ 16 := by omega
  have HR := Lib.hid (fun W (h : Below w.heap.size w W) => hr.below h)
  have HN := Lib.hid hn
  generalize kd m = c at *
  obtain ⟨DN, hDN⟩ : ∃ DN, DN = (dst (l.map c.rest)).length := ⟨_, rfl⟩
  rw [← hDN] at K55 hN1 hN2
  have HDN := Lib.hid hDN
  replace K55 := Lib.hid K55
  have hn1' : 1 ≤ n ∧ n ≤ 100 := by omega
  clear hg hc hk hr hn hw hl hmt hkb hgb hn1 hn100 hok h15 hsum hF hDN hm1 hm3
  have hmm := @run_makeMap Tryd.prog
  as_aux_lemma =>
  go_enter Tryd.func15, Tryd.ntmps15
  go_wp2_with fail
  refine (K27.out _ S.out.bel).mono ?_
  rintro e w1 ⟨rfl, hb1⟩
  have S1 := Lib.hid ((Own.start w).ext hb1)
  clear hb1
  go_wp2_with fail
  refine (K55.out _ S1.out.bel).mono ?_
  rintro e w2 ⟨rfl, hb2⟩
  have S2 := Lib.hid (S1.out.ext hb2)
  clear hb2
  obtain ⟨Bm, hBm⟩ : ∃ Bm, Bm = w2.heap.size := ⟨_, rfl⟩
  have U0 := Lib.hid (World.ownsMap_made (H := Unit) w2 Tryd.prog 41 (plainElem (H := Unit) Tryd.prog 4))
  have U1 := Lib.hid (below_alloc w2 (.map #[] 0))
  rw [← hBm] at U0 U1
  have HBM := Lib.hid hBm
  clear hBm
  go_upto_region 8 with fail
  rw [← HBM.out]
  generalize w2.alloc _ = w7 at *
  clear hmm
  go_wp2_with fail
  go_loopg [40] n (fun q u40 wr => ∃ i : Nat, i ≤ n ∧ u40 = .int .i64 ((i : Nat) : Int) ∧ Hid (i + q = n ∧ Below Bm w2 wr ∧ ∃ D, SetR D ((l.take i).map c.rest) ∧ wr.ownsMap Tryd.prog 41 (plainElem (H := Unit) Tryd.prog 4) Bm i D))
  case atStart => exact ⟨0, by omega, rfl, by omega, U1.out, _, SetR.start, U0.out⟩
  case round =>
    obtain ⟨i, hi, rfl, hI⟩ := hrel
    have I1 := Lib.hid hI.out.1
    have I2 := Lib.hid hI.out.2.1
    obtain ⟨D, hD1, hD2⟩ := hI.out.2.2
    have I3 := Lib.hid hD1
    have hown := hD2
    clear hI U0 U1 hD1 hD2
    have HBL := Lib.hid (below_step S2.out.bel (HBM.out ▸ I2.out))
    by_cases hlt : i < n
    case neg => as_aux_lemma =>
      obtain rfl : i = n := by omega
      have hni : ¬ (i : Int) < (i : Int) := by omega
      have HE := Lib.hid (show Maps.size D = DN by rw [HDN.out, I3.out.2, List.take_of_length_le (by rw [← HN.out]; exact Nat.le_refl _)])
      have hz1 : (DN : Int) ≤ (i : Int) := by omega
      have hz2 : (DN : Int) ≤ (F : Int) := by omega
      have hlen : (Builtin.len_ #[91] 3 #[.map (some Bm)]).run Tryd.prog wr = .ok (.int .i64 (DN : Int)) wr := by
        have := hown.len Tryd.underlying91 3
        rw [HE.out] at this
        exact this
      go_wp2_with ((go_at_call 35; refine (KK.out _).mono ?_; rintro e w8 ⟨rfl, hb8⟩; have HB8 := Lib.hid (below_step HBL.out hb8); clear hb8))
      go_ret
      exact ⟨rfl, HB8.out⟩
    have hix : (i : Int) < (n : Int) := by omega
    have hil : i < l.length := by rw [← HN.out]; exact hlt
    obtain ⟨b1, off1, rfl, k0, l0⟩ := (HR.out _ HBL.out).u16 hil
    have hmem := List.getElem_mem hil
    have HK1 := Lib.hid (KS.out l[i] hmem)
    have hrl := HRL.out l[i] hmem
    have HT := Lib.hid (show (l.take (i + 1)).map c.rest = (l.take i).map c.rest ++ [c.rest l[i]] by rw [List.take_succ_eq_append_getElem hil, List.map_append]; rfl)
    clear hmem
    generalize c.rest l[i] = y at *
    generalize l[i] = x at *
    have HP := Lib.hid (I3.out.put (hown.tidy keyedW) hrl)
    have HKY := keyOf_int_mk (P := Tryd.prog) Tryd.underlying41 (wf_u16 hrl)
    have HOWN := Lib.hid hown
    clear hown hrl hil
    as_aux_lemma =>
    go_wp2_with fail
    refine (HK1.out _ _ _ (below_step HBL.out (below_alloc wr (.cells #[.int .u16 (x : Nat)] 41))) (Rd.new wr #[.int .u16 (x : Nat)] 41)).mono ?_
    rintro e w8 ⟨A8, c8, rfl, hO8⟩
    have hb8 := below_step (below_alloc wr (.cells #[.int .u16 (x : Nat)] 41)) hO8.bel
    have hown := HOWN.out.kept (grownB hb8) (by simp)
    have I4 := Lib.hid (show Below Bm w2 w8 by rw [HBM.out]; exact below_step (HBM.out ▸ I2.out) hb8)
    obtain ⟨g8, rfl⟩ := hO8.rowAddr 0 rfl (by omega)
    have k8 := hO8.rowAt 0 rfl (j := 0) (u := .int .u16 (y : Nat)) rfl
    have l8 := (hO8.rowLt 0 rfl).1
    clear hb8 hO8 k0 l0
    go_wp2_with (at_mapUpdate; refine wpList_mapUpdate_own _ rfl _ _ _ 91 rfl 41 4 keyedW Tryd.underlying91 (plainElem (H := Unit) Tryd.prog 4) Bm i D rfl hown (by unfold maxLen; omega) _ _ _ rfl rfl HKY _ [] (plainElem_bool Tryd.underlying4 true) ?_; intro w9 hown9 hgrow9)
    go_roundg (gk - 1)
    case measure => have := I1.out; omega
    case rel => exact ⟨i + 1, by omega, by go_num, by have := I1.out; omega, (I4.out.grown hgrow9 (by rw [HBM.out]; exact I4.out.size) (fun j hj => by cases hj; exact Nat.le_refl _)), _, by rw [HT.out]; exact HP.out, hown9⟩
end Go.Proofs.YtnienfgaidccpaaDoor
