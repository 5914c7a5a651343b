/- Sketch: what a sketch leaves, of the program. No condition. -/
import Derived.Test.YtnienfgaidccpaaDoorRj
import Derived.Test.YtnienfgaidccpaaDoorKj
namespace Go.Proofs.YtnienfgaidccpaaDoor
open Go.RowKit Go.Shelf
attribute [local go_sem] Oper.semAt_some

/-- What Left returns. -/
def lefL (k : Int) (s : Nat) : List Nat := if (kindB k && decide (s < 2 ^ (kd k.toNat).f)) = true then lefF (kd k.toNat) s 32768 else []
def lefE (k : Int) (s : Nat) : Int := if (kindB k && decide (s < 2 ^ (kd k.toNat).f)) = true then 0 else 2
set_option maxRecDepth 100000 in
set_option maxHeartbeats 8000000 in
theorem left_any (k : Int) (s : Nat) (hs : s < 65536) (w : World) (hc : Cod w) (hk : 0 ≤ k ∧ k ≤ 255) :
    Calls Tryd.prog 53 #[.int .u8 k, .int .u16 (s : Nat)] w (WsPost (lefL k s) (lefE k s) w) := by
  have K57 := kind_any k w hc hk
  cases hkb : kindB k
  · as_aux_lemma =>
    have HL := Lib.hid (show lefL k s = [] ∧ lefE k s = 2 by simp [lefL, lefE, hkb])
    rw [hkb] at K57
    replace K57 := Lib.hid K57
    obtain ⟨g, q, tt, HG⟩ : ∃ g q tt : Int, Hid (kdV (kd k.toNat) = .agg #[.int .u16 g, .int .i64 q, .int .i64 tt]) := ⟨_, _, _, Lib.hid rfl⟩
    rw [HG.out] at K57
    clear hc hkb HG
    go_enter Tryd.func53, Tryd.ntmps53
    go_wp2_with fail
    refine K57.out.mono ?_
    rintro e w1 ⟨rfl, hb1⟩
    have S1 := Lib.hid ((Own.start w).ext hb1)
    clear hb1
    go_wp2_with fail
    go_ret2
    exact ⟨none, 0, by rw [HL.out.1, HL.out.2]; rfl, by rw [HL.out.1]; exact (((S1.out.new 94 #[.int .u16 g, .int .i64 q, .int .i64 tt]).nil 41 1).sub [0] (by decide) rfl)⟩
  obtain ⟨n, hn, hm1, hm3, hmt⟩ := kind_bd hkb
  have hok := kd_ok hm1 hm3
  have HRR := Lib.hid (show lefL k s = (if s < 2 ^ (kd n).f then lefF (kd n) s 32768 else []) ∧ lefE k s = if s < 2 ^ (kd n).f then 0 else 2 by simp [lefL, lefE, hkb, hmt])
  rw [hkb, hmt] at K57
  have K61 := fun W A cp (h : Rd W A (u16s [s])) => sketch_any (kd n) hok [s] A 1 cp W h rfl (by decide)
  have K68 := fun m (h : m < 2 ^ (kd n).k) W => encode_any (kd n) hok m h W
  have hsum := hok.sum
  have HLQ := Lib.hid (fun h : s < 2 ^ (kd n).f => left_eq hok h)
  have hcl := Lib.hid (fun m (h : m < 2 ^ (kd n).k) => Kd.code_lt hok h)
  generalize kd n = c at *
  unfold kdV at K57 K61 K68
  replace K57 := Lib.hid K57
  replace K68 := Lib.hid K68
  have hall : ([s].all fun x => decide (x < 2 ^ c.f)) = decide (s < 2 ^ c.f) := by simp
  rw [hall] at K61
  clear hc hkb hmt hok hall hn hm1 hm3
  by_cases hsf : s < 2 ^ c.f
  case neg => as_aux_lemma =>
    have HL := Lib.hid (show lefL k s = [] ∧ lefE k s = 2 by rw [HRR.out.1, HRR.out.2, if_neg hsf, if_neg hsf]; exact ⟨rfl, rfl⟩)
    rw [decide_eq_false hsf] at K61
    replace K61 := Lib.hid K61
    clear hsf hsum
    go_enter Tryd.func53, Tryd.ntmps53
    go_wp2_with fail
    refine K57.out.mono ?_
    rintro e w1 ⟨rfl, hb1⟩
    have S1 := Lib.hid ((Own.start w).ext hb1)
    clear hb1
    go_upto_region 2 with fail
    have S2 := Lib.hid (S1.out.new 94 #[.int .u16 c.g, .int .i64 c.k, .int .i64 c.t])
    generalize w1.alloc _ = w2 at *
    generalize w1.heap.size = B6 at *
    clear S1
    obtain ⟨t0, t1, t2, _⟩ := (S2.out.bx 0 rfl).c3
    have lt := (S2.out.bx 0 rfl).2.2
    go_wp2_with fail
    refine (K61.out _ _ _ (Rd.new w2 #[.int .u16 (s : Nat)] 41)).mono ?_
    rintro e w4 ⟨rfl, hb4⟩
    have S4 := Lib.hid ((S2.out.ext (below_alloc w2 (.cells #[.int .u16 (s : Nat)] 41))).ext hb4)
    clear hb4 t0 t1 t2 lt
    go_wp2_with fail
    go_ret2
    exact ⟨none, 0, by rw [HL.out.1, HL.out.2]; rfl, by rw [HL.out.1]; exact ((S4.out.nil 41 1).sub [0] (by decide) rfl)⟩
  as_aux_lemma =>
  obtain ⟨P, hP⟩ : ∃ P, P = 2 ^ c.k := ⟨_, rfl⟩
  have HL := Lib.hid (show lefL k s = srtN (lefX c s P) ∧ lefE k s = 0 by rw [HRR.out.1, HRR.out.2, if_pos hsf, if_pos hsf, hP, HLQ.out hsf]; exact ⟨rfl, rfl⟩)
  rw [decide_eq_true hsf] at K61
  replace K61 := Lib.hid K61
  rw [← hP] at K68 hcl
  obtain ⟨s1, s2, s3, s4, s5, s6⟩ := hsum
  have hP2 : P ≤ 2048 := by rw [hP]; exact Nat.le_trans (Nat.pow_le_pow_right (by decide) s3) (by decide)
  have hP1 : 1 ≤ P := by rw [hP]; exact Nat.two_pow_pos _
  have e5 : IntKind.u16.wrap ((2 : Int) ^ c.k) = (P : Int) := by
    rw [pow_cast, ← hP]
    exact IntWalk.u16_in _ (by omega)
  have b1 : 0 ≤ (c.k : Int) := by omega
  have b2 : (c.k : Int) ≤ 16 := by omega
  clear hsf HRR HLQ hP s1 s2 s4 s5 s6
  go_enter Tryd.func53, Tryd.ntmps53
  go_wp2_with fail
  refine K57.out.mono ?_
  rintro e w1 ⟨rfl, hb1⟩
  have S1 := Lib.hid ((Own.start w).ext hb1)
  clear hb1
  go_upto_region 2 with fail
  have S2 := Lib.hid (S1.out.new 94 #[.int .u16 c.g, .int .i64 c.k, .int .i64 c.t])
  generalize w1.alloc _ = w2 at *
  generalize w1.heap.size = B6 at *
  clear S1
  obtain ⟨t0, t1, t2, _⟩ := (S2.out.bx 0 rfl).c3
  have lt := (S2.out.bx 0 rfl).2.2
  go_wp2_with fail
  refine (K61.out _ _ _ (Rd.new w2 #[.int .u16 (s : Nat)] 41)).mono ?_
  rintro e w4 ⟨rfl, hb4⟩
  have S4 := Lib.hid ((S2.out.ext (below_alloc w2 (.cells #[.int .u16 (s : Nat)] 41))).ext hb4)
  clear hb4 t0 t1 t2 lt
  obtain ⟨t0, t1, t2, _⟩ := (S4.out.bx 0 rfl).c3
  have lt := (S4.out.bx 0 rfl).2.2
  have S5 := Lib.hid ((S4.out.nil 41 1).cast (qs := [row 41 1 (.slice none 0 0) 0 (u16s (lefX c s 0)), box B6 94 [.int .u16 c.g, .int .i64 c.k, .int .i64 c.t]]) rfl)
  go_wp2_with fail
  clear S2 S4 t0 t1 t2 lt K57 K61
  go_loopg [8, 27] P (fun q u8 u27 wr => ∃ (i : Nat) (A1 : Option Addr) (c1 : Nat), i ≤ P ∧ u8 = .slice A1 i c1 ∧ u27 = .int .u16 ((i : Nat) : Int) ∧ Hid (i + q = P ∧ Own w wr [row 41 1 (.slice A1 i c1) i (u16s (lefX c s i)), box B6 94 [.int .u16 c.g, .int .i64 c.k, .int .i64 c.t]]))
  case atStart => exact ⟨0, none, 0, by omega, rfl, rfl, by omega, S5.out⟩
  case round =>
    obtain ⟨i, A1, c1, hi, rfl, rfl, hI⟩ := hrel
    have I1 := Lib.hid hI.out.1
    have I2 := Lib.hid hI.out.2
    clear hI S5
    by_cases hlt : i < P
    case neg => as_aux_lemma =>
      obtain rfl : i = P := by omega
      have hni : ¬ (i : Int) < (i : Int) := by omega
      have HLN := Lib.hid (show (lefL k s).length = i by rw [HL.out.1, srtN_len, lefX_len])
      obtain ⟨g, rfl⟩ := I2.out.rowAddr 0 rfl (by omega)
      have K81 := Lib.hid (fun W hO => sort_any w [box B6 94 [.int .u16 c.g, .int .i64 c.k, .int .i64 c.t]] g i c1 (lefX c s i) W hO (by rw [lefX_len]) (by omega))
      go_wp2_with fail
      refine (K81.out _ I2.out).mono ?_
      rintro e w5 ⟨rfl, hO5⟩
      have S6 := Lib.hid hO5
      clear hO5
      go_wp2_with fail
      go_ret2
      exact ⟨some ⟨g, 0, none⟩, c1, by rw [HL.out.2, HLN.out]; rfl, by rw [HLN.out, HL.out.1]; exact S6.out.sub [0] (by decide) rfl⟩
    have hix : (i : Int) < (P : Int) := by omega
    have zi : IntKind.u16.wrap ((i : Int) + 1) = ((i + 1 : Nat) : Int) := by rw [show (i : Int) + 1 = ((i + 1 : Nat) : Int) by omega]; exact IntWalk.u16_in _ (by omega)
    have HR1 := Lib.hid (fun W => K68.out i hlt W)
    have hy := hcl.out i hlt
    have HS := Lib.hid (lefX_succ c s i)
    generalize c.code i = y at *
    have e6 : bits .xor .u16 (y : Int) (s : Int) = ((y ^^^ s : Nat) : Int) := u16_xor_nat _ _ (by omega) hs
    generalize y ^^^ s = z at *
    obtain ⟨t0, t1, t2, _⟩ := (I2.out.bx 1 rfl).c3
    have lt := (I2.out.bx 1 rfl).2.2
    as_aux_lemma =>
    go_wp2_with fail
    refine (HR1.out _).mono ?_
    rintro e w5 ⟨rfl, hb5⟩
    have S6 := Lib.hid (I2.out.ext hb5)
    clear hb5 t0 t1 t2 lt
    go_wp2_with (at_builtin; refine wpList_appP rfl (.tmp 30) (.tmp 36) 22 rfl st22 0 (S6.out.ext (below_alloc w5 (.cells #[.int .u16 (z : Nat)] 41))) rfl rfl rfl (i + 1) (u16s (lefX c s (i + 1))) ?_ [.int .u16 (z : Nat)] rfl (by rw [HS.out, u16s_app]) (Rd.new _ #[.int .u16 (z : Nat)] 41) rfl (by simp [Value.oneCell']) (by unfold maxLen; omega) (by omega); intro A9 c9 w9 hO9; have HO9 := Lib.hid hO9; clear hO9)
    go_roundg (gk - 1)
    case measure => have := I1.out; omega
    case rel => exact ⟨i + 1, A9, c9, by omega, rfl, by go_num, by have := I1.out; omega, HO9.out⟩
end Go.Proofs.YtnienfgaidccpaaDoor
