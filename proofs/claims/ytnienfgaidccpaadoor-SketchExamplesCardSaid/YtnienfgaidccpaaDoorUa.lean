/- Words: slices.Sort gives the sorted list. Sketch: what a sketch leaves, of the program. Words: the words of a slice, one after another; a new slice of them; sorted. Words: slices.Compact says whether there are equal neighbours. Sketch: guesses, of the program and of the reference. No condition. -/
import Derived.Test.YtnienfgaidccpaaDoorRi
import Derived.Test.YtnienfgaidccpaaDoorRl
import Derived.Test.YtnienfgaidccpaaDoorSp
import Derived.Test.YtnienfgaidccpaaDoorKj
import Derived.Deep.CutRange
import Derived.Lib.SliceRun
import Derived.Maps.Own
import Derived.Maps.OwnSet
import Derived.Maps.Views
namespace Go.Proofs.YtnienfgaidccpaaDoor
open Go.RowKit Go.Shelf
attribute [local go_sem] Oper.semAt_some

theorem pdq_srt (d : Array Nat) (limit : Nat) : (Sort.pdq ltN d 0 d.size limit true true).toList = srtN d.toList := by
  obtain ⟨h1, h2⟩ := Sort.pdq_sorts ltN swoN d 0 d.size limit true true (Nat.zero_le _) (Nat.le_refl _) (Or.inl rfl)
  have h := Sort.sorted_unique_holds swoN (fun x y h1 h2 => by simp only [ltN, decide_eq_false_iff_not] at h1 h2; omega) d _ h1 h2
  rw [h]
  have e : (fun x y => !ltN y x) = fun x y : Nat => decide (x ≤ y) := by
    funext x y
    rw [Bool.eq_iff_iff]
    simp only [ltN, Bool.not_eq_true', decide_eq_false_iff_not, decide_eq_true_eq]
    omega
  rw [e]
  rfl
set_option maxRecDepth 100000 in
set_option maxHeartbeats 8000000 in
theorem sort_any (w0 : World) (ps : List Piece) (g n c : Nat) (l : List Nat) (W : World) (hO : Own w0 W (row 41 1 (.slice (some ⟨g, 0, none⟩) n c) n (u16s l) :: ps)) (hl : n = l.length) (hn : n ≤ 1000000) :
    Calls Tryd.prog 81 #[.slice (some ⟨g, 0, none⟩) n c] W fun e w' => e = .returned (.tuple #[]) ∧ Own w0 w' (row 41 1 (.slice (some ⟨g, 0, none⟩) n c) n (u16s (srtN l)) :: ps) := by
  obtain ⟨d, hd⟩ : ∃ d : Array Nat, d = l.toArray := ⟨_, rfl⟩
  have hdl : d.toList = l := by rw [hd]
  have hds : d.size = n := by rw [hd, List.size_toArray, hl]
  have S0 := Lib.hid (hO.cast (qs := dat g n c d :: ps) (by rw [dat, hdl]))
  have hB : Lib.bitLen n ≤ 1000 := Nat.le_trans (Lib.bitLen_le n 20 (by decide) (by omega)) (by decide)
  have K9 := fun W => len_any (n : Int) W (by omega) (by omega)
  simp only [Int.toNat_natCast] at K9
  have HS := Lib.hid (show (Sort.pdq ltN d 0 n (Lib.bitLen n) true true).toList = srtN l by rw [← hds, pdq_srt, hdl])
  have KP := Lib.hid (fun W hO => pdq_any (n + 1) w0 ps g n c d W hO 0 n (Lib.bitLen n) hds (Nat.zero_le _) (Nat.le_refl _) hn hB (Or.inl rfl) (by omega))
  generalize Lib.bitLen n = B at *
  replace K9 := Lib.hid K9
  generalize Sort.pdq ltN d 0 n B true true = R at *
  clear hO hd hdl hds hl
  have zn : IntKind.u64.wrap (n : Int) = (n : Int) := IntWalk.u64_in _ (by omega)
  go_enter Tryd.func81, Tryd.ntmps81
  go_wp2_with (go_at_call 99; refine (K9.out _).mono ?_; rintro e w1 ⟨rfl, rfl⟩)
  refine (KP.out _ S0.out).mono ?_
  rintro e w1 ⟨rfl, hO1⟩
  have S1 := Lib.hid hO1
  clear hO1
  go_wp2_with fail
  go_end0
  exact ⟨rfl, S1.out.cast (by rw [dat, HS.out])⟩
end Go.Proofs.YtnienfgaidccpaaDoor

namespace Go.Proofs.YtnienfgaidccpaaDoor
open Go.RowKit Go.Shelf
attribute [local go_sem] Oper.semAt_some

/-- What Left returns. -/
def lefL (k : Int) (s : Nat) : List Nat := if (kindB k && decide (s < 2 ^ (kd k.toNat).f)) = true then lefF (kd k.toNat) s 32768 else []
def lefE (k : Int) (s : Nat) : Int := if (kindB k && decide (s < 2 ^ (kd k.toNat).f)) = true then 0 else 2
set_option maxRecDepth 100000 in
set_option maxHeartbeats 8000000 in
theorem left_any (k : Int) (s : Nat) (hs : s < 65536) (w : World) (hc : Cod w) (hk : 0 ≤ k ∧ k ≤ 255) :
    Calls Tryd.prog 53 #[.int .u8 k, .int .u16 (s : Nat)] w (WsPost (lefL k s) (lefE k s) w) := by
  have K57 := kind_any k w hc hk
  cases hkb : kindB k
  · as_aux_lemma =>
    have HL := Lib.hid (show lefL k s = [] ∧ lefE k s = 2 by simp [lefL, lefE, hkb])
    rw [hkb] at K57
    replace K57 := Lib.hid K57
    obtain ⟨g, q, tt, HG⟩ : ∃ g q tt : Int, Hid (kdV (kd k.toNat) = .agg #[.int .u16 g, .int .i64 q, .int .i64 tt]) := ⟨_, _, _, Lib.hid rfl⟩
    rw [HG.out] at K57
    clear hc hkb HG
    go_enter Tryd.func53, Tryd.ntmps53
    go_wp2_with fail
    refine K57.out.mono ?_
    rintro e w1 ⟨rfl, hb1⟩
    have S1 := Lib.hid ((Own.start w).ext hb1)
    clear hb1
    go_wp2_with fail
    go_ret2
    exact ⟨none, 0, by rw [HL.out.1, HL.out.2]; rfl, by rw [HL.out.1]; exact (((S1.out.new 94 #[.int .u16 g, .int .i64 q, .int .i64 tt]).nil 41 1).sub [0] (by decide) rfl)⟩
  obtain ⟨n, hn, hm1, hm3, hmt⟩ := kind_bd hkb
  have hok := kd_ok hm1 hm3
  have HRR := Lib.hid (show lefL k s = (if s < 2 ^ (kd n).f then lefF (kd n) s 32768 else []) ∧ lefE k s = if s < 2 ^ (kd n).f then 0 else 2 by simp [lefL, lefE, hkb, hmt])
  rw [hkb, hmt] at K57
  have K61 := fun W A cp (h : Rd W A (u16s [s])) => sketch_any (kd n) hok [s] A 1 cp W h rfl (by decide)
  have K68 := fun m (h : m < 2 ^ (kd n).k) W => encode_any (kd n) hok m h W
  have hsum := hok.sum
  have HLQ := Lib.hid (fun h : s < 2 ^ (kd n).f => left_eq hok h)
  have hcl := Lib.hid (fun m (h : m < 2 ^ (kd n).k) => Kd.code_lt hok h)
  generalize kd n = c at *
  unfold kdV at K57 K61 K68
  replace K57 := Lib.hid K57
  replace K68 := Lib.hid K68
  have hall : ([s].all fun x => decide (x < 2 ^ c.f)) = decide (s < 2 ^ c.f) := by simp
  rw [hall] at K61
  clear hc hkb hmt hok hall hn hm1 hm3
  by_cases hsf : s < 2 ^ c.f
  case neg => as_aux_lemma =>
    have HL := Lib.hid (show lefL k s = [] ∧ lefE k s = 2 by rw [HRR.out.1, HRR.out.2, if_neg hsf, if_neg hsf]; exact ⟨rfl, rfl⟩)
    rw [decide_eq_false hsf] at K61
    replace K61 := Lib.hid K61
    clear hsf hsum
    go_enter Tryd.func53, Tryd.ntmps53
    go_wp2_with fail
    refine K57.out.mono ?_
    rintro e w1 ⟨rfl, hb1⟩
    have S1 := Lib.hid ((Own.start w).ext hb1)
    clear hb1
    go_upto_region 2 with fail
    have S2 := Lib.hid (S1.out.new 94 #[.int .u16 c.g, .int .i64 c.k, .int .i64 c.t])
    generalize w1.alloc _ = w2 at *
    generalize w1.heap.size = B6 at *
    clear S1
    obtain ⟨t0, t1, t2, _⟩ := (S2.out.bx 0 rfl).c3
    have lt := (S2.out.bx 0 rfl).2.2
    go_wp2_with fail
    refine (K61.out _ _ _ (Rd.new w2 #[.int .u16 (s : Nat)] 41)).mono ?_
    rintro e w4 ⟨rfl, hb4⟩
    have S4 := Lib.hid ((S2.out.ext (below_alloc w2 (.cells #[.int .u16 (s : Nat)] 41))).ext hb4)
    clear hb4 t0 t1 t2 lt
    go_wp2_with fail
    go_ret2
    exact ⟨none, 0, by rw [HL.out.1, HL.out.2]; rfl, by rw [HL.out.1]; exact ((S4.out.nil 41 1).sub [0] (by decide) rfl)⟩
  as_aux_lemma =>
  obtain ⟨P, hP⟩ : ∃ P, P = 2 ^ c.k := ⟨_, rfl⟩
  have HL := Lib.hid (show lefL k s = srtN (lefX c s P) ∧ lefE k s = 0 by rw [HRR.out.1, HRR.out.2, if_pos hsf, if_pos hsf, hP, HLQ.out hsf]; exact ⟨rfl, rfl⟩)
  rw [decide_eq_true hsf] at K61
  replace K61 := Lib.hid K61
  rw [← hP] at K68 hcl
  obtain ⟨s1, s2, s3, s4, s5, s6⟩ := hsum
  have hP2 : P ≤ 2048 := by rw [hP]; exact Nat.le_trans (Nat.pow_le_pow_right (by decide) s3) (by decide)
  have hP1 : 1 ≤ P := by rw [hP]; exact Nat.two_pow_pos _
  have e5 : IntKind.u16.wrap ((2 : Int) ^ c.k) = (P : Int) := by
    rw [pow_cast, ← hP]
    exact IntWalk.u16_in _ (by omega)
  have b1 : 0 ≤ (c.k : Int) := by omega
  have b2 : (c.k : Int) ≤ 16 := by omega
  clear hsf HRR HLQ hP s1 s2 s4 s5 s6
  go_enter Tryd.func53, Tryd.ntmps53
  go_wp2_with fail
  refine K57.out.mono ?_
  rintro e w1 ⟨rfl, hb1⟩
  have S1 := Lib.hid ((Own.start w).ext hb1)
  clear hb1
  go_upto_region 2 with fail
  have S2 := Lib.hid (S1.out.new 94 #[.int .u16 c.g, .int .i64 c.k, .int .i64 c.t])
  generalize w1.alloc _ = w2 at *
  generalize w1.heap.size = B6 at *
  clear S1
  obtain ⟨t0, t1, t2, _⟩ := (S2.out.bx 0 rfl).c3
  have lt := (S2.out.bx 0 rfl).2.2
  go_wp2_with fail
  refine (K61.out _ _ _ (Rd.new w2 #[.int .u16 (s : Nat)] 41)).mono ?_
  rintro e w4 ⟨rfl, hb4⟩
  have S4 := Lib.hid ((S2.out.ext (below_alloc w2 (.cells #[.int .u16 (s : Nat)] 41))).ext hb4)
  clear hb4 t0 t1 t2 lt
  obtain ⟨t0, t1, t2, _⟩ := (S4.out.bx 0 rfl).c3
  have lt := (S4.out.bx 0 rfl).2.2
  have S5 := Lib.hid ((S4.out.nil 41 1).cast (qs := [row 41 1 (.slice none 0 0) 0 (u16s (lefX c s 0)), box B6 94 [.int .u16 c.g, .int .i64 c.k, .int .i64 c.t]]) rfl)
  go_wp2_with fail
  clear S2 S4 t0 t1 t2 lt K57 K61
  go_loopg [8, 27] P (fun q u8 u27 wr => ∃ (i : Nat) (A1 : Option Addr) (c1 : Nat), i ≤ P ∧ u8 = .slice A1 i c1 ∧ u27 = .int .u16 ((i : Nat) : Int) ∧ Hid (i + q = P ∧ Own w wr [row 41 1 (.slice A1 i c1) i (u16s (lefX c s i)), box B6 94 [.int .u16 c.g, .int .i64 c.k, .int .i64 c.t]]))
  case atStart => exact ⟨0, none, 0, by omega, rfl, rfl, by omega, S5.out⟩
  case round =>
    obtain ⟨i, A1, c1, hi, rfl, rfl, hI⟩ := hrel
    have I1 := Lib.hid hI.out.1
    have I2 := Lib.hid hI.out.2
    clear hI S5
    by_cases hlt : i < P
    case neg => as_aux_lemma =>
      obtain rfl : i = P := by omega
      have hni : ¬ (i : Int) < (i : Int) := by omega
      have HLN := Lib.hid (show (lefL k s).length = i by rw [HL.out.1, srtN_len, lefX_len])
      obtain ⟨g, rfl⟩ := I2.out.rowAddr 0 rfl (by omega)
      have K81 := Lib.hid (fun W hO => sort_any w [box B6 94 [.int .u16 c.g, .int .i64 c.k, .int .i64 c.t]] g i c1 (lefX c s i) W hO (by rw [lefX_len]) (by omega))
      go_wp2_with fail
      refine (K81.out _ I2.out).mono ?_
      rintro e w5 ⟨rfl, hO5⟩
      have S6 := Lib.hid hO5
      clear hO5
      go_wp2_with fail
      go_ret2
      exact ⟨some ⟨g, 0, none⟩, c1, by rw [HL.out.2, HLN.out]; rfl, by rw [HLN.out, HL.out.1]; exact S6.out.sub [0] (by decide) rfl⟩
    have hix : (i : Int) < (P : Int) := by omega
    have zi : IntKind.u16.wrap ((i : Int) + 1) = ((i + 1 : Nat) : Int) := by rw [show (i : Int) + 1 = ((i + 1 : Nat) : Int) by omega]; exact IntWalk.u16_in _ (by omega)
    have HR1 := Lib.hid (fun W => K68.out i hlt W)
    have hy := hcl.out i hlt
    have HS := Lib.hid (lefX_succ c s i)
    generalize c.code i = y at *
    have e6 : bits .xor .u16 (y : Int) (s : Int) = ((y ^^^ s : Nat) : Int) := u16_xor_nat _ _ (by omega) hs
    generalize y ^^^ s = z at *
    obtain ⟨t0, t1, t2, _⟩ := (I2.out.bx 1 rfl).c3
    have lt := (I2.out.bx 1 rfl).2.2
    as_aux_lemma =>
    go_wp2_with fail
    refine (HR1.out _).mono ?_
    rintro e w5 ⟨rfl, hb5⟩
    have S6 := Lib.hid (I2.out.ext hb5)
    clear hb5 t0 t1 t2 lt
    go_wp2_with (at_builtin; refine wpList_appP rfl (.tmp 30) (.tmp 36) 22 rfl st22 0 (S6.out.ext (below_alloc w5 (.cells #[.int .u16 (z : Nat)] 41))) rfl rfl rfl (i + 1) (u16s (lefX c s (i + 1))) ?_ [.int .u16 (z : Nat)] rfl (by rw [HS.out, u16s_app]) (Rd.new _ #[.int .u16 (z : Nat)] 41) rfl (by simp [Value.oneCell']) (by unfold maxLen; omega) (by omega); intro A9 c9 w9 hO9; have HO9 := Lib.hid hO9; clear hO9)
    go_roundg (gk - 1)
    case measure => have := I1.out; omega
    case rel => exact ⟨i + 1, A9, c9, by omega, rfl, by go_num, by have := I1.out; omega, HO9.out⟩
end Go.Proofs.YtnienfgaidccpaaDoor

namespace Go.Proofs.YtnienfgaidccpaaDoor
open Go.RowKit Go.Shelf
attribute [local go_sem] Oper.semAt_some

theorem Keep2.below {b b' B : Nat} {x y : World} (h : Below B x y) (hb : b < B) (hb' : b' < B) : Keep2 b b' x y := ⟨h.block _ hb, h.block _ hb', h.size⟩
theorem Keep2.below2 {b b' B : Nat} {w x y : World} (h : Below B w x) (k : Below B w y) (hs : x.heap.size ≤ y.heap.size) (hb : b < B) (hb' : b' < B) : Keep2 b b' x y := ⟨(k.block _ hb).trans (h.block _ hb).symm, (k.block _ hb').trans (h.block _ hb').symm, hs⟩
theorem sortW_any {w0 w : World} {ps : List Piece} {A : Option Addr} {n c : Nat} {l : List Nat} (h : Own w0 w (row 41 1 (.slice A n c) n (u16s l) :: ps)) (hn : n = l.length) (h0 : 0 < n) (hb : n ≤ 1000000) :
    Calls Tryd.prog 81 #[.slice A n c] w fun e w' => e = .returned (.tuple #[]) ∧ Own w0 w' (row 41 1 (.slice A n c) n (u16s (srtN l)) :: ps) := by
  obtain ⟨g, rfl⟩ := h.rowAddr 0 rfl h0
  exact sort_any w0 ps g n c l w h hn hb
set_option maxRecDepth 100000 in
set_option maxHeartbeats 2000000 in
theorem val_gen (n : Nat) (hn : 1 ≤ n) (lp Bt : Nat) (A : Option Addr) (l : List Nat) (nn c : Nat) (Wd : World) (J Jx : List Nat → World → Prop)
    (St : World → Prop) (Kp : World → World → Prop) (hnn : nn = l.length) (hnb : nn ≤ 1000000)
    (hSt : ∀ X, St X → Rd X A (u16s l) ∧ X.cell? ⟨Bt, 0, none⟩ = some (.slice A nn c) ∧ Bt < X.heap.size)
    (hStK : ∀ X Y, St X → Kp X Y → St Y) (hst0 : St Wd)
    (hY : ∀ pre (x : Nat) W1, J pre W1 → pre.length < l.length → YieldAt Fence.wide (n - 1) Tryd.prog lp #[.int .u16 (x : Nat)] W1 fun e W' =>
      (e = .returned (.bool true) ∧ J (pre ++ [x]) W' ∧ Kp W1 W') ∨ (e = .returned (.bool false) ∧ Jx (pre ++ [x]) W')) (h0 : J [] Wd) :
    CallsIn Fence.wide n Tryd.prog 101 #[.func (.yield lp) #[] #[], .pointer (some ⟨Bt, 0, none⟩)] Wd fun e W' => (∃ v, e = .returned v) ∧
      (J l W' ∨ (∃ pre, True ∧ Jx pre W')) := by
  have HST := Lib.hid hSt
  have HSK := Lib.hid hStK
  have HS0 := Lib.hid hst0
  have HN := Lib.hid hnn
  have HY := Lib.hid hY
  have HJ0 := Lib.hid h0
  clear hSt hStK hst0 hnn hY h0
  obtain ⟨_, c0, cl⟩ := HST.out Wd HS0.out
  refine callsIn_of_wp Tryd.func101 rfl trivial ?_ rfl
  simp only [Tryd.ntmps101, List.size_toArray, List.length_cons, List.length_nil, Nat.reduceAdd, Nat.reduceSub, Array.replicate_succ, Array.replicate_zero, List.push_toArray, List.append_toArray, List.nil_append, List.cons_append]
  gi_wp2
  gi_loopw [7] (fun i wr => ∃ (k : Nat), k ≤ nn ∧ i = .int .i64 (k : Nat) ∧ Hid (J (l.take k) wr) ∧ Hid (St wr)) (fun i _ => nn - (intOf i).toNat)
  case atStart => exact ⟨0, Nat.zero_le _, by go_num, HJ0.out, HS0.out⟩
  case round =>
    obtain ⟨k, hk, rfl, hj, hb⟩ := hrel
    clear c0 cl
    obtain ⟨hrd, c0, cl⟩ := HST.out wr hb.out
    have HRD := Lib.hid hrd
    clear hrd
    by_cases hlt : k < nn
    · have hlt' : k < l.length := by rw [← HN.out]; exact hlt
      obtain ⟨b, off, rfl, hbs, hc⟩ := HRD.out.at_ (u16s_get hlt')
      have hc0 := hc k _ (u16s_get hlt')
      clear hc
      have HT := Lib.hid (show l.take (k + 1) = l.take k ++ [l[k]] from List.take_succ_eq_append_getElem hlt')
      have HL := Lib.hid (show (l.take k).length < l.length by rw [List.length_take]; omega)
      generalize l[k] = v at *
      clear hlt'
      obtain ⟨fn, tmps, assign, body, hy, hR⟩ := HY.out (l.take k) v wr hj.out HL.out
      have hki : (k : Int) < (nn : Int) := by omega
      gi_wp2
      refine hR.mono ?_
      rintro e W3 (⟨rfl, hJ3, hk3⟩ | ⟨rfl, hJx3⟩)
      · have HJ3 := Lib.hid hJ3
        clear hJ3
        have HS3 := Lib.hid (HSK.out _ _ hb.out hk3)
        clear hk3
        gi_wp2
        go_roundw
        case rel => exact ⟨k + 1, by omega, by go_num, (by unfold Hid; rw [HT.out]; exact HJ3.out), HS3.out⟩
        case measure => simp [intOf]; omega
      · have HJ3 := Lib.hid hJx3
        clear hJx3
        gi_wp2
        refine bodyPost_ret (results_none rfl _ _ _) rfl ?_
        exact ⟨⟨_, rfl⟩, .inr ⟨_, trivial, HJ3.out⟩⟩
    · have hfin : Hid (l.take k = l) := by unfold Hid; rw [List.take_of_length_le (by rw [← HN.out]; omega)]
      have hneg : ¬ (k : Int) < (nn : Int) := by omega
      gi_wp2
      go_end0
      exact ⟨⟨_, rfl⟩, .inl (by have := hj.out; rw [hfin.out] at this; exact this)⟩

def encW (x : Nat) : Array Value := #[.int .u16 (x : Nat)]
theorem val_stops (n : Nat) (hn : 1 ≤ n) (Bt Bd : Nat) (A : Option Addr) (l : List Nat) (nn c : Nat) (w0 : World) (hnn : nn = l.length) (hnb : nn ≤ 1000000)
    (hr : Rd w0 A (u16s l)) (hA : ∀ b off, A = some ⟨b, off, none⟩ → u16s l = [] ∨ b = Bd) (hBt : Bt < w0.heap.size)
    (c0 : w0.cell? ⟨Bt, 0, none⟩ = some (.slice A nn c)) :
    SeqStopsK Fence.wide n Tryd.prog 101 #[.pointer (some ⟨Bt, 0, none⟩)] encW (Keep2 Bt Bd) (fun ys => ys = l) (fun _ => True) l.length w0 := by
  intro lp J Jx Wd hW hJ _ hY h0
  refine (val_gen n hn lp Bt A l nn c Wd J Jx
    (fun X => w0.heap.size ≤ X.heap.size ∧ X.heap[Bt]? = w0.heap[Bt]? ∧ ∀ b off, A = some ⟨b, off, none⟩ → u16s l = [] ∨ X.heap[b]? = w0.heap[b]?) (Keep2 Bt Bd) hnn hnb ?_ ?_ ?_ ?_ h0).mono ?_
  · rintro X ⟨h1, h2, h3⟩
    refine ⟨?_, (World.cell?_of_block (w := w0) (a := ⟨Bt, 0, none⟩) h2).trans c0, by omega⟩
    rcases hr with h | ⟨b, off, e1, e2, e3⟩
    · exact .inl h
    · rcases h3 b off e1 with h | h
      · exact .inl h
      · exact .inr ⟨b, off, e1, by omega, fun j u hu => (World.cell?_of_block (w := w0) (a := ⟨b, off + j, none⟩) h).trans (e3 j u hu)⟩
  · rintro X Y ⟨h1, h2, h3⟩ ⟨k1, k2, k3⟩
    refine ⟨by omega, k1.trans h2, fun b off e => ?_⟩
    rcases h3 b off e with h | h
    · exact .inl h
    · rcases hA b off e with h' | h'
      · exact .inl h'
      · subst h'; exact .inr (k2.trans h)
  · refine ⟨hW.size, hW.block Bt hBt, fun b off e => ?_⟩
    rcases hr with h | ⟨b', off', e1, e2, _⟩
    · exact .inl h
    · rw [e] at e1
      injection e1 with e1
      injection e1 with e1 _
      subst e1
      exact .inr (hW.block b e2)
  · intro pre x W1 hj hlen
    exact hY pre x W1 hj hlen
  · rintro e W' ⟨he, hj | ⟨pre, _, hj⟩⟩
    · exact ⟨he, .inl ⟨l, rfl, hj⟩⟩
    · exact ⟨he, .inr ⟨pre, trivial, hj⟩⟩
/-- slices.Values: a function value with its own copy of the slice. -/
theorem values_any (A : Option Addr) (n c : Nat) (w : World) :
    Calls Tryd.prog 83 #[.slice A n c] w fun e w' => e = .returned (.func (.func 101) #[] #[.pointer (some ⟨w.heap.size, 0, none⟩)]) ∧ w.alloc (.cells #[.slice A n c] 22) = w' := by
  go_enter Tryd.func83, Tryd.ntmps83
  go_wp2_with fail
  go_ret
  exact ⟨rfl, rfl⟩
set_option maxRecDepth 100000 in
set_option maxHeartbeats 4000000 in
/-- slices.AppendSeq to nothing: the numbers in new memory. -/
theorem appendSeq_any (Bt Bd : Nat) (A : Option Addr) (l : List Nat) (nn c : Nat) (w : World) (hnn : nn = l.length) (hnb : nn ≤ 1000000)
    (hr : Rd w A (u16s l)) (hA : ∀ b off, A = some ⟨b, off, none⟩ → u16s l = [] ∨ b = Bd) (hBt : Bt < w.heap.size) (hBd : Bd < w.heap.size)
    (c0 : w.cell? ⟨Bt, 0, none⟩ = some (.slice A nn c)) :
    Calls Tryd.prog 116 #[.slice none 0 0, .func (.func 101) #[] #[.pointer (some ⟨Bt, 0, none⟩)]] w fun e w' => ∃ A' c', e = .returned (.slice A' nn c') ∧ Own w w' [row 41 1 (.slice A' nn c') nn (u16s l)] := by
  have S0 := Lib.hid (((Own.start w).new' 22 #[.slice none 0 0] (B := w.heap.size) rfl).nil 41 1)
  have HS := Lib.hid (fun W1 (h : Below w.heap.size w W1) => val_stops 9 (by omega) Bt Bd A l nn c W1 hnn hnb (hr.below h) hA (Nat.lt_of_lt_of_le hBt h.size) ((h.cell (p := ⟨Bt, 0, none⟩) hBt).trans c0))
  have HN := Lib.hid hnn
  have HB := Lib.hid (show Bt < w.heap.size ∧ Bd < w.heap.size from ⟨hBt, hBd⟩)
  clear hr hnn hA hBt hBd c0
  refine calls_of_wp_marks Tryd.func116 rfl ?_
  simp only [Tryd.ntmps116, List.size_toArray, List.length_cons, List.length_nil, Nat.reduceAdd, Nat.reduceSub, Array.replicate_succ, Array.replicate_zero, List.push_toArray, List.append_toArray, List.nil_append, List.cons_append]
  go_wp2_with fail
  generalize w.alloc (.cells #[.slice none 0 0] 22) = w4 at *
  refine wp_range_own (w0 := w) (gf := 101) (lb := #[.pointer (some ⟨Bt, 0, none⟩)]) rfl (enters_of Tryd.func101 (by kernel_rfl) rfl)
    (HS.out _ S0.out.bel) Keep2.trans (fun W1 lq o o' hl _ _ _ => ⟨World.putObj_heap_other (by have := HB.out.1; have := S0.out.bel.size; omega), World.putObj_heap_other (by have := HB.out.2; have := S0.out.bel.size; omega), by simp⟩) (fun W1 => ⟨rfl, rfl, Nat.le_refl _⟩) (fun _ => rfl)
    (fun pre s => s.2.2 = pre)
    (fun s : Option Addr × Nat × List Nat => row 41 1 (.slice s.1 s.2.2.length s.2.1) s.2.2.length (u16s s.2.2) :: box w.heap.size 22 [.slice s.1 s.2.2.length s.2.1] :: [])
    ?hcel (none, 0, []) rfl S0.out
    (fun x => { tmps := #[.slice none 0 0, .func (.func 101) #[] #[.pointer (some ⟨Bt, 0, none⟩)], .pointer (some ⟨w.heap.size, 0, none⟩), undef, .slice none 0 0, .int .u16 (x : Nat), .func (.func 101) #[] #[.pointer (some ⟨Bt, 0, none⟩)], .int .u16 (x : Nat), undef, undef, undef, undef, undef], defers := [] }) ?hassign ?hbody ?hdone
  case hcel =>
    intro s p hp
    simp only [List.mem_cons, List.not_mem_nil, or_false] at hp
    rcases hp with rfl | rfl
    · exact .inl (row_cel _ _ _ _ _)
    · exact .inl (box_cel _ _ _)
  case hassign =>
    intro x lq K W1 hK
    simp only [encW]
    gi_wp2
    exact hK
  case hbody =>
    rintro lq pre x ⟨A2, c2, m⟩ W1 hpl hR hO
    simp only at hR
    subst hR
    have HO := Lib.hid (hO.cast (qs := row 41 1 (.slice A2 m.length c2) m.length (u16s m) :: box w.heap.size 22 [.slice A2 m.length c2] :: []) rfl)
    have hml : m.length ≤ 1000000 := by have := HN.out; omega
    clear hO hpl S0
    have HO3 := Lib.hid (HO.out.ext (below_alloc W1 (.cells #[.int .u16 (x : Nat)] 41)))
    have k0 := (HO.out.bx 1 rfl).c1.1
    have lk := (HO.out.bx 1 rfl).2.2
    gi_wp2_with (gi_at_builtin; refine wpListIn_appP rfl (.tmp 8) (.tmp 10) 22 rfl st22 0 HO3.out rfl rfl rfl (m.length + 1) (u16s (m ++ [x])) ?_ (u16s [x]) rfl (by simp [u16s]) (Rd.new W1 #[.int .u16 (x : Nat)] 41) rfl (by simp [u16s, Value.oneCell']) (by unfold maxLen; omega) (by omega); intro A3 c3 W4 hO4 hk4; have HO4 := Lib.hid (hO4.cast (qs := row 41 1 (.slice A3 (m.length + 1) c3) (m.length + 1) (u16s (m ++ [x])) :: box w.heap.size 22 [.slice A2 m.length c2] :: []) rfl); have HK4 := Lib.hid hk4; clear hO4 hk4 k0 lk; have k0 := (HO4.out.bx 1 rfl).c1.1; have kf := (HO4.out.bx 1 rfl).2.1; have lk := (HO4.out.bx 1 rfl).2.2)
    have HO5 := Lib.hid ((HO4.out.set 1 rfl 0 (.slice A3 (m.length + 1) c3)).cast (qs := row 41 1 (.slice A3 (m ++ [x]).length c3) (m ++ [x]).length (u16s (m ++ [x])) :: box w.heap.size 22 [.slice A3 (m ++ [x]).length c3] :: []) (by simp))
    exact ⟨((KeepsOthers.alloc _ _).trans HK4.out).trans (KeepsOthers.setCell _ _ _),
      Keep2.below2 HO.out.bel HO5.out.bel (((KeepsOthers.alloc _ _).trans HK4.out).trans (KeepsOthers.setCell _ _ _)).size HB.out.1 HB.out.2,
      (A3, c3, m ++ [x]), rfl, HO5.out⟩
  case hdone =>
    rintro Dn xs ⟨A2, c2, m⟩ W5 hS hR hO
    simp only at hR
    subst hR hS
    have HO := Lib.hid (hO.cast (qs := obj Dn (.deferred (some [])) :: row 41 1 (.slice A2 m.length c2) m.length (u16s m) :: box w.heap.size 22 [.slice A2 m.length c2] :: []) rfl)
    clear hO S0
    have k0 := (HO.out.bx 2 rfl).c1.1
    have lk := (HO.out.bx 2 rfl).2.2
    go_wp2_with fail
    refine leaves_marks (ps := row 41 1 (.slice A2 m.length c2) m.length (u16s m) :: box w.heap.size 22 [.slice A2 m.length c2] :: []) (fun w' h => ?_) [Dn] _ (HO.out.sub [1, 2, 0] (by decide) rfl)
    refine ⟨.slice A2 m.length c2, ?_, A2, c2, ?_, ?_⟩
    · simp [results, Tryd.results116, go_sem]
    · rw [HN.out]
    · rw [HN.out]; exact h.sub [0] (by decide) rfl
set_option maxRecDepth 100000 in
theorem collect_any (Bt Bd : Nat) (A : Option Addr) (l : List Nat) (nn c : Nat) (w : World) (hnn : nn = l.length) (hnb : nn ≤ 1000000)
    (hr : Rd w A (u16s l)) (hA : ∀ b off, A = some ⟨b, off, none⟩ → u16s l = [] ∨ b = Bd) (hBt : Bt < w.heap.size) (hBd : Bd < w.heap.size)
    (c0 : w.cell? ⟨Bt, 0, none⟩ = some (.slice A nn c)) :
    Calls Tryd.prog 100 #[.func (.func 101) #[] #[.pointer (some ⟨Bt, 0, none⟩)]] w fun e w' => ∃ A' c', e = .returned (.slice A' nn c') ∧ Own w w' [row 41 1 (.slice A' nn c') nn (u16s l)] := by
  have K := Lib.hid (appendSeq_any Bt Bd A l nn c w hnn hnb hr hA hBt hBd c0)
  clear hnn hr hA hBt hBd c0
  go_enter Tryd.func100, Tryd.ntmps100
  go_wp2_with fail
  refine K.out.mono ?_
  rintro e w5 ⟨A', c', rfl, hO5⟩
  replace hO5 := Lib.hid hO5
  go_wp2_with fail
  go_ret
  exact ⟨A', c', rfl, hO5.out⟩
set_option maxRecDepth 100000 in
/-- slices.Sorted of the values of a slice. -/
theorem sorted_any (Bt Bd : Nat) (A : Option Addr) (l : List Nat) (nn c : Nat) (w : World) (hnn : nn = l.length) (h0 : 0 < nn) (hnb : nn ≤ 1000000)
    (hr : Rd w A (u16s l)) (hA : ∀ b off, A = some ⟨b, off, none⟩ → u16s l = [] ∨ b = Bd) (hBt : Bt < w.heap.size) (hBd : Bd < w.heap.size)
    (c0 : w.cell? ⟨Bt, 0, none⟩ = some (.slice A nn c)) :
    Calls Tryd.prog 82 #[.func (.func 101) #[] #[.pointer (some ⟨Bt, 0, none⟩)]] w fun e w' => ∃ A' c', e = .returned (.slice A' nn c') ∧ Own w w' [row 41 1 (.slice A' nn c') nn (u16s (srtN l))] := by
  have K := Lib.hid (collect_any Bt Bd A l nn c w hnn hnb hr hA hBt hBd c0)
  have HN := Lib.hid hnn
  clear hnn hr hA hBt hBd c0
  go_enter Tryd.func82, Tryd.ntmps82
  go_wp2_with fail
  refine K.out.mono ?_
  rintro e w5 ⟨A', c', rfl, hO5⟩
  replace hO5 := Lib.hid hO5
  have K2 := Lib.hid (sortW_any hO5.out HN.out h0 hnb)
  go_wp2_with fail
  refine K2.out.mono ?_
  rintro e w6 ⟨rfl, hO6⟩
  replace hO6 := Lib.hid hO6
  go_wp2_with fail
  go_ret
  exact ⟨A', c', rfl, hO6.out⟩
end Go.Proofs.YtnienfgaidccpaaDoor

namespace Go.Proofs.YtnienfgaidccpaaDoor
open Go.RowKit Go.Shelf
attribute [local go_sem] Oper.semAt_some

theorem setCells_own (g c n : Nat) : ∀ (m kk : Nat) (xs : List Value) {w0 w : World} {ps : List Piece}, Own w0 w (row 41 1 (.slice (some ⟨g, 0, none⟩) n c) n xs :: ps) → Own w0 (w.setCells g kk (List.replicate m (.int .u16 0))) ps
  | 0, _, _, _, _, _, h => h.tail
  | m + 1, kk, xs, _, _, _, h => by
    rw [List.replicate_succ, World.setCells]
    exact setCells_own g c n m (kk + 1) (xs.set kk (.int .u16 0)) (h.setRow 0 rfl kk (.int .u16 0))
theorem adj_one {l : List Nat} {k : Nat} (h : l.length ≤ k + 1) : adjB (l.drop k) = false := by
  have hl : (l.drop k).length ≤ 1 := by rw [List.length_drop]; omega
  generalize l.drop k = q at hl
  match q, hl with
  | [], _ => rfl
  | [_], _ => rfl
  | _ :: _ :: _, h => simp at h
theorem adj_step {l : List Nat} {k j : Nat} (hj : j + 1 = k) (h : k < l.length) : adjB (l.drop j) = (decide (l[j]'(by omega) = l[k]) || adjB (l.drop k)) := by
  subst hj
  rw [List.drop_eq_getElem_cons (show j < l.length by omega), List.drop_eq_getElem_cons h]
  rfl
set_option maxRecDepth 100000 in
set_option maxHeartbeats 8000000 in
theorem compact_any (w0 : World) (ps : List Piece) (g n c : Nat) (l : List Nat) (W : World) (hO : Own w0 W (row 41 1 (.slice (some ⟨g, 0, none⟩) n c) n (u16s l) :: ps)) (hl : n = l.length) (hn : n ≤ 1000) :
    Calls Tryd.prog 84 #[.slice (some ⟨g, 0, none⟩) n c] W fun e w' => ∃ m c', e = .returned (.slice (some ⟨g, 0, none⟩) m c') ∧ decide (m < n) = adjB l ∧ Own w0 w' ps := by
  have S0 := Lib.hid hO
  by_cases h2 : n < 2
  · have h2z : (n : Int) < 2 := by omega
    have HB := Lib.hid (show decide (n < n) = adjB l by rw [show adjB l = false by have := adj_one (l := l) (k := 0) (by omega); rwa [List.drop_zero] at this]; simp)
    clear hO hl
    go_enter Tryd.func84, Tryd.ntmps84
    go_wp2_with fail
    go_ret
    exact ⟨n, c, rfl, HB.out, S0.out.tail⟩
  as_aux_lemma =>
  have h2z : ¬ (n : Int) < 2 := by omega
  obtain ⟨g', sp, e9, hnc, hcm, -⟩ := hO.asBoxC 0 rfl (by omega)
  unfold maxLen at hcm
  clear e9 sp g'
  have HN := Lib.hid hl
  have H0 := Lib.hid (show adjB l = adjB (l.drop (1 - 1)) by rw [List.drop_zero])
  clear hO hl
  go_enter Tryd.func84, Tryd.ntmps84
  go_wp2_with fail
  go_loopg [3] (n - 1) (fun q u3 wr => ∃ k : Nat, (1 ≤ k ∧ k ≤ n) ∧ u3 = .int .i64 ((k : Nat) : Int) ∧ Hid (k + q = n ∧ adjB l = adjB (l.drop (k - 1)) ∧ Own w0 wr (row 41 1 (.slice (some ⟨g, 0, none⟩) n c) n (u16s l) :: ps)))
  case atStart => exact ⟨1, by omega, rfl, by omega, H0.out, S0.out⟩
  case round =>
    obtain ⟨k, hk, rfl, hI⟩ := hrel
    have I1 := Lib.hid hI.out.1
    have I2 := Lib.hid hI.out.2.1
    have I3 := Lib.hid hI.out.2.2
    clear hI S0 H0
    by_cases hlt : k < n
    case neg => as_aux_lemma =>
      have hni : ¬ (k : Int) < (n : Int) := by omega
      have HB := Lib.hid (show decide (n < n) = adjB l by rw [I2.out, adj_one (by have := HN.out; omega)]; simp)
      go_wp2_with fail
      go_ret
      exact ⟨n, ⟨c, rfl⟩, HB.out, I3.out.tail⟩
    as_aux_lemma =>
    have hki : (k : Int) < (n : Int) := by omega
    have hkl : k < l.length := by have := HN.out; omega
    obtain ⟨km, hkm⟩ : ∃ km, km = k - 1 := ⟨_, rfl⟩
    have hkml : km < l.length := by omega
    have zkm : (k : Int) - 1 = (km : Int) := by omega
    have zkmw : IntKind.i64.wrap (km : Int) = (km : Int) := IntWalk.i64_in _ (by omega)
    have hkmn : (km : Int) < (n : Int) := by omega
    have zk1 : IntKind.i64.wrap ((k : Int) + 1) = ((k + 1 : Nat) : Int) := by rw [show (k : Int) + 1 = ((k + 1 : Nat) : Int) by omega]; exact IntWalk.i64_in _ (by omega)
    have HS := Lib.hid (show adjB l = (decide (l[km] = l[k]) || adjB (l.drop k)) by rw [I2.out, ← hkm]; exact adj_step (by omega) hkl)
    have FA := Lib.hid (fun z : OwnOf w0 (row 41 1 (.slice (some ⟨g, 0, none⟩) n c) n (u16s l) :: ps) => z.own.rowAt (g := g) 0 rfl (u16s_get hkl))
    have FB := Lib.hid (fun z : OwnOf w0 (row 41 1 (.slice (some ⟨g, 0, none⟩) n c) n (u16s l) :: ps) => z.own.rowAt (g := g) 0 rfl (u16s_get hkml))
    generalize l[k] = x1 at *
    generalize l[km] = x2 at *
    have fa := FA.out
    have fb := FB.out
    have hne : Nonempty (OwnOf w0 (row 41 1 (.slice (some ⟨g, 0, none⟩) n c) n (u16s l) :: ps)) := ⟨⟨_, I3.out⟩⟩
    clear FA FB hkm hkl hkml
    obtain ⟨G1, rfl⟩ : ∃ G1 : Nat, G1 = gk := ⟨_, rfl⟩
    go_upto_region 6 with (fail)
    by_cases hx : x1 = x2
    case neg => as_aux_lemma =>
      have hx2 : ¬ (x1 : Int) = (x2 : Int) := by omega
      have hx3 : ((x1 : Int) == (x2 : Int)) = false := by simp; omega
      have HE := Lib.hid (show adjB l = adjB (l.drop (k + 1 - 1)) by rw [HS.out, decide_eq_false (fun h => hx h.symm), Bool.false_or, Nat.add_sub_cancel])
      clear hx
      refine wp_region_own I3.out (by kernel_rfl) (by kernel_rfl) ?_
      iterate 10 (go_big_quiet_step (fail))
      refine wpQuiet_nil ?_
      rintro wI4 ⟨z, hz⟩
      have I4 := Lib.hid (show Own w0 wI4 (row 41 1 (.slice (some ⟨g, 0, none⟩) n c) n (u16s l) :: ps) by rw [hz]; exact z.own)
      clear hz z I3 fa fb hne
      go_wp2_with fail
      go_roundg (G1 - 1)
      case measure => have := I1.out; omega
      case rel => exact ⟨k + 1, by omega, by go_num, by have := I1.out; omega, HE.out, I4.out⟩
    as_aux_lemma =>
    have HT := Lib.hid (show adjB l = true by rw [HS.out, hx, decide_eq_true rfl, Bool.true_or])
    subst hx
    refine wp_region_own I3.out (by kernel_rfl) (by kernel_rfl) ?_
    iterate 10 (go_big_quiet_step (fail))
    refine wpQuiet_nil ?_
    rintro wI4 ⟨z, hz⟩
    have I4 := Lib.hid (show Own w0 wI4 (row 41 1 (.slice (some ⟨g, 0, none⟩) n c) n (u16s l) :: ps) by rw [hz]; exact z.own)
    clear hz z I3 fa fb hne
    clear HS zk1 zkm zkmw hkmn
    obtain ⟨hk1, hk2⟩ := hk
    go_wp2_with fail
    go_loopg [3, 5] (n - k - 1) (fun q u3 u5 wr => ∃ kk k2 : Nat, (1 ≤ kk ∧ kk < k + k2 ∧ 1 ≤ k2 ∧ k + k2 ≤ n) ∧ u3 = .int .i64 ((kk : Nat) : Int) ∧ u5 = .int .i64 ((k2 : Nat) : Int) ∧ Hid (k + k2 + q = n ∧ ∃ l' : List Nat, l'.length = n ∧ Own w0 wr (row 41 1 (.slice (some ⟨g, 0, none⟩) n c) n (u16s l') :: ps)))
    case atStart => exact ⟨k, 1, by omega, rfl, rfl, by omega, l, HN.out.symm, I4.out⟩
    case round =>
      obtain ⟨kk, k2, hk3, rfl, rfl, hI⟩ := hrel
      have J1 := Lib.hid hI.out.1
      obtain ⟨l', q1, q2⟩ := hI.out.2
      have J2 := Lib.hid q1
      have J3 := Lib.hid q2
      clear hI q1 q2 I4
      by_cases hlt2 : k + k2 < n
      case neg => as_aux_lemma =>
        have hni : ¬ (k2 : Int) < ((n - k : Nat) : Int) := by omega
        have hnj : ¬ (k2 : Int) < (n : Int) - (k : Int) := by omega
        have HB := Lib.hid (show decide (kk < n) = adjB l by rw [HT.out]; simp; omega)
        have hcl : ∀ ty, (Builtin.clear_ #[22] ty #[.slice (some ⟨g, kk, none⟩) (n - kk) (c - kk)]).run Tryd.prog wr = .ok (.tuple #[]) (wr.setCells g kk (List.replicate (n - kk) (.int .u16 0))) :=
          fun ty => Lib.run_clear_slice wr 22 41 ty (.int .u16 0) Tryd.underlying22 (fun w => by kernel_rfl) rfl rfl g kk _ _ (by omega) (fun j hj => by rw [J3.out.rowAt 0 rfl (u16s_get (show kk + j < l'.length by rw [J2.out]; omega))]; rfl) (fun j hj => (J3.out.rowLt 0 rfl).2 _)
        have SC := Lib.hid (setCells_own g c n (n - kk) kk _ J3.out)
        go_wp2_with fail
        go_ret
        exact ⟨kk, ⟨c, rfl⟩, HB.out, SC.out⟩
      as_aux_lemma =>
      have hlt3 : (k2 : Int) < ((n - k : Nat) : Int) := by omega
      have hlt4 : (k : Int) + (k2 : Int) < (n : Int) := by omega
      have hlt5 : k2 < n - k := by omega
      obtain ⟨km, hkm⟩ : ∃ km, km = k2 - 1 := ⟨_, rfl⟩
      have zkm : (k2 : Int) - 1 = (km : Int) := by omega
      have zkmw : IntKind.i64.wrap (km : Int) = (km : Int) := IntWalk.i64_in _ (by omega)
      have hkm5 : km < n - k := by omega
      have hkmn : (km : Int) < ((n - k : Nat) : Int) := by omega
      have hkkn : (kk : Int) < (n : Int) := by omega
      have zk1 : IntKind.i64.wrap ((k2 : Int) + 1) = ((k2 + 1 : Nat) : Int) := by rw [show (k2 : Int) + 1 = ((k2 + 1 : Nat) : Int) by omega]; exact IntWalk.i64_in _ (by omega)
      have zkk1 : IntKind.i64.wrap ((kk : Int) + 1) = ((kk + 1 : Nat) : Int) := by rw [show (kk : Int) + 1 = ((kk + 1 : Nat) : Int) by omega]; exact IntWalk.i64_in _ (by omega)
      have hkl : k + k2 < l'.length := by rw [J2.out]; exact hlt2
      have hkml : k + km < l'.length := by omega
      have hkkl : kk < l'.length := by omega
      have FA := Lib.hid (fun z : OwnOf w0 (row 41 1 (.slice (some ⟨g, 0, none⟩) n c) n (u16s l') :: ps) => z.own.rowAt (g := g) 0 rfl (u16s_get hkl))
      have FB := Lib.hid (fun z : OwnOf w0 (row 41 1 (.slice (some ⟨g, 0, none⟩) n c) n (u16s l') :: ps) => z.own.rowAt (g := g) 0 rfl (u16s_get hkml))
      have c0 := J3.out.rowAt 0 rfl (u16s_get hkkl)
      have HC0 := Lib.hid c0
      clear c0
      generalize l'[k + k2] = x1 at *
      generalize l'[k + km] = x2 at *
      generalize l'[kk] = x3 at *
      have fa := FA.out
      have fb := FB.out
      have hne : Nonempty (OwnOf w0 (row 41 1 (.slice (some ⟨g, 0, none⟩) n c) n (u16s l') :: ps)) := ⟨⟨_, J3.out⟩⟩
      clear FB hkm hkl hkml hkkl
      obtain ⟨G2, rfl⟩ : ∃ G2 : Nat, G2 = gk := ⟨_, rfl⟩
      go_upto_region 11 with (fail)
      by_cases hx : x1 = x2
      · as_aux_lemma =>
        subst hx
        refine wp_region_own J3.out (by kernel_rfl) (by kernel_rfl) ?_
        iterate 10 (go_big_quiet_step (fail))
        refine wpQuiet_nil ?_
        rintro wJ4 ⟨z, hz⟩
        have J4 := Lib.hid (show Own w0 wJ4 (row 41 1 (.slice (some ⟨g, 0, none⟩) n c) n (u16s l') :: ps) by rw [hz]; exact z.own)
        clear hz z J3 fa fb hne FA HC0
        go_wp2_with fail
        go_roundg (G2 - 1)
        case measure => have := J1.out; omega
        case rel => exact ⟨kk, k2 + 1, by omega, rfl, by go_num, by have := J1.out; omega, l', J2.out, J4.out⟩
      · as_aux_lemma =>
        have hx2 : ¬ (x1 : Int) = (x2 : Int) := by omega
        have hx3 : ((x1 : Int) == (x2 : Int)) = false := by simp; omega
        clear hx
        refine wp_region_own J3.out (by kernel_rfl) (by kernel_rfl) ?_
        iterate 10 (go_big_quiet_step (fail))
        refine wpQuiet_nil ?_
        rintro wJ4 ⟨z, hz⟩
        have J4 := Lib.hid (show Own w0 wJ4 (row 41 1 (.slice (some ⟨g, 0, none⟩) n c) n (u16s l') :: ps) by rw [hz]; exact z.own)
        clear hz z J3 fa fb hne HC0
        have c1 := FA.out ⟨_, J4.out⟩
        dsimp only at c1
        have lg := (J4.out.rowLt 0 rfl).1
        have lf := (J4.out.rowLt 0 rfl).2
        obtain ⟨x4, c4⟩ : ∃ x4, wJ4.cell? ⟨g, kk, none⟩ = some x4 := ⟨_, J4.out.rowAt 0 rfl (u16s_get (show kk < l'.length by rw [J2.out]; omega))⟩
        go_wp2_with fail
        go_roundg (G2 - 1)
        case measure => have := J1.out; omega
        case rel => exact ⟨kk + 1, k2 + 1, by omega, by go_num, by go_num, by have := J1.out; omega, l'.set kk x1, by rw [List.length_set]; exact J2.out, (J4.out.setRow 0 rfl kk (.int .u16 (x1 : Nat))).cast (by simp [u16s, List.map_set])⟩
end Go.Proofs.YtnienfgaidccpaaDoor

namespace Go.Proofs.YtnienfgaidccpaaDoor
open Go.RowKit Go.Shelf Go.Maps
attribute [local go_sem] Oper.semAt_some

theorem keyedW : Keyed Tryd.prog 41 := int_keyed Tryd.underlying41
theorem grownB {w w' : World} (h : Below w.heap.size w w') : w.grownBy w' none := ⟨h.os, h.tape, h.output, h.size, fun i hi _ => h.block i hi⟩
theorem wf_u16 {x : Nat} (h : x < 65536) : (Lit.int .u16 (x : Int)).wf = true := by
  simp only [Lit.wf, Bool.and_eq_true, decide_eq_true_eq]
  have h1 : IntKind.u16.min = 0 := rfl
  have h2 : IntKind.u16.max = 65535 := rfl
  rw [h1, h2]
  omega
/-- The map reads as the set of a list. -/
def SetR (D : DataW Unit) (L : List Nat) : Prop := (∀ x : Nat, Maps.has D (.int .u16 (x : Int)) = decide (x ∈ L)) ∧ Maps.size D = (dst L).length
theorem SetR.start : SetR (.map []) [] := ⟨fun x => by simp [Maps.has], rfl⟩
theorem SetR.put {D : DataW Unit} {L : List Nat} {x : Nat} (h : SetR D L) (ht : Tidy D) (hx : x < 65536) : SetR (D.put (.int .u16 (x : Int)) (.lit (.bool true))) (L ++ [x]) := by
  have hk : WideAt.IsKeyLit (.int .u16 (x : Int)) := keyedW.key (keyOf_int_mk Tryd.underlying41 (wf_u16 hx))
  constructor
  · intro y
    by_cases e : y = x
    · subst e
      rw [has_put_same ht.isMap hk]
      simp
    · rw [has_put_other (by intro e2; injection e2 with _ e2; exact e (by omega)), h.1 y]
      simp [e]
  · rw [size_put ht, h.1 x, dst_snoc, h.2]
    by_cases e : x ∈ L
    · rw [decide_eq_true e, if_pos rfl, if_pos (dst_mem.2 e)]
    · rw [decide_eq_false e, if_neg (by simp), if_neg (fun k => e (dst_mem.1 k)), List.length_append]
      rfl
/-- What Guess returns. -/
def gueV (k : Int) (l : List Nat) : Int × Nat × Int := gueF (kindB k) (kd k.toNat) l
theorem gueB_false {l l' : List Nat} {z : Nat} (h : srtN l = l' ++ [z]) (hz : 32768 ≤ z ∨ adjB (srtN l) = true) : gueB l = false := by
  rw [gueB_srt, all_last (srtN_sorted l) h, Bool.and_eq_false_iff]
  rcases hz with k | k
  · left; simpa using k
  · right; simpa using (adj_nodup (srtN_sorted l)).1 k
theorem gueB_true {l l' : List Nat} {z : Nat} (h : srtN l = l' ++ [z]) (hz : z < 32768) (ha : adjB (srtN l) = false) : gueB l = true := by
  rw [gueB_srt, all_last (srtN_sorted l) h, decide_eq_true hz, Bool.true_and, decide_eq_true_eq]
  rcases Decidable.em (srtN l).Nodup with k | k
  · exact k
  · rw [(adj_nodup (srtN_sorted l)).2 k] at ha; cases ha
theorem gueB_all {l : List Nat} (h : gueB l = true) : ∀ x ∈ l, x < 32768 := by
  simp only [gueB, Bool.and_eq_true, List.all_eq_true, decide_eq_true_eq] at h
  exact h.1
set_option maxRecDepth 100000 in
set_option maxHeartbeats 8000000 in
theorem guess_any (k : Int) (l : List Nat) (A : Option Addr) (n cp : Nat) (w : World) (hc : Cod w) (hk : 0 ≤ k ∧ k ≤ 255) (hr : Rd w A (u16s l)) (hn : n = l.length) (hw : W16 l) (hbig : n ≤ 1000000) :
    Calls Tryd.prog 55 #[.int .u8 k, .slice A n cp] w fun e w' => e = .returned (.tuple #[.int .i64 (gueV k l).1, .int .i64 (((gueV k l).2.1 : Nat) : Int), .int .i64 (gueV k l).2.2]) ∧ Below w.heap.size w w' := by
  have K57 := kind_any k w hc hk
  cases hkb : kindB k
  · as_aux_lemma =>
    have HL := Lib.hid (show gueV k l = (0, 0, 2) by simp [gueV, gueF, hkb])
    rw [hkb] at K57
    replace K57 := Lib.hid K57
    obtain ⟨g, q, tt, HG⟩ : ∃ g q tt : Int, Hid (kdV (kd k.toNat) = .agg #[.int .u16 g, .int .i64 q, .int .i64 tt]) := ⟨_, _, _, Lib.hid rfl⟩
    rw [HG.out] at K57
    clear hc hkb HG hr hn hw
    go_enter Tryd.func55, Tryd.ntmps55
    go_wp2_with fail
    refine K57.out.mono ?_
    rintro e w1 ⟨rfl, hb1⟩
    have S1 := Lib.hid ((Own.start w).ext hb1)
    clear hb1
    go_wp2_with fail
    go_ret3
    exact ⟨by rw [HL.out]; rfl, (S1.out.new 94 #[.int .u16 g, .int .i64 q, .int .i64 tt]).bel⟩
  obtain ⟨m, rfl, hm1, hm3, hmt⟩ := kind_bd hkb
  have hok := kd_ok hm1 hm3
  have HRR := Lib.hid (show gueV (m : Int) l = if l.length < 1 ∨ 100 < l.length then (0, 0, 4) else if gueB l = true then (1, (dst (l.map (kd m).rest)).length, 0) else (0, 0, 2) by simp [gueV, gueF, hkb])
  rw [hkb, hmt] at K57
  have K59 := Lib.hid (fun x (hx : x < 2 ^ 15) W => rest_any (kd m) hok x hx W)
  have hsum := hok.sum
  have HRL := Lib.hid (fun x (hx : x < 2 ^ 15) => (show (kd m).rest x < 65536 by
    have := Kd.rest_lt hok hx
    have := pow_f_le hok
    omega))
  generalize kd m = c at *
  unfold kdV at K57 K59
  replace K57 := Lib.hid K57
  clear hc hkb hmt hok hm1 hm3
  have HR := Lib.hid hr
  have HN := Lib.hid hn
  by_cases hn2 : n < 1 ∨ 100 < n
  case pos => as_aux_lemma =>
    have HL := Lib.hid (show gueV (m : Int) l = (0, 0, 4) by rw [HRR.out, if_pos (by rw [← HN.out]; exact hn2)])
    clear hr hn hw
    by_cases hn1 : n < 1
    · have hz : (n : Int) < 1 := by omega
      clear hn2 hn1
      go_enter Tryd.func55, Tryd.ntmps55
      go_wp2_with fail
      refine K57.out.mono ?_
      rintro e w1 ⟨rfl, hb1⟩
      have S1 := Lib.hid ((Own.start w).ext hb1)
      clear hb1
      go_wp2_with fail
      go_ret3
      exact ⟨by rw [HL.out]; rfl, (S1.out.new 94 #[.int .u16 c.g, .int .i64 c.k, .int .i64 c.t]).bel⟩
    · have hz : ¬ (n : Int) < 1 := by omega
      have hz2 : (100 : Int) < (n : Int) := by omega
      clear hn2 hn1
      go_enter Tryd.func55, Tryd.ntmps55
      go_wp2_with fail
      refine K57.out.mono ?_
      rintro e w1 ⟨rfl, hb1⟩
      have S1 := Lib.hid ((Own.start w).ext hb1)
      clear hb1
      go_wp2_with fail
      go_ret3
      exact ⟨by rw [HL.out]; rfl, (S1.out.new 94 #[.int .u16 c.g, .int .i64 c.k, .int .i64 c.t]).bel⟩
  as_aux_lemma =>
  have hz : ¬ (n : Int) < 1 := by omega
  have hz2 : ¬ (100 : Int) < (n : Int) := by omega
  have hn1 : 1 ≤ n ∧ n ≤ 100 := by omega
  have HRR2 := Lib.hid (show gueV (m : Int) l = if gueB l = true then (1, (dst (l.map c.rest)).length, 0) else (0, 0, 2) by rw [HRR.out, if_neg (by rw [← HN.out]; exact hn2)])
  have h0n : 0 < l.length := by omega
  obtain ⟨l', z, hlz⟩ : ∃ l' z, srtN l = l' ++ [z] := by
    rcases List.eq_nil_or_concat (srtN l) with k | ⟨l', z, k⟩
    · have := srtN_len l; rw [k] at this; simp at this; omega
    · exact ⟨l', z, by rw [k, List.concat_eq_append]⟩
  have hzw : z < 65536 := hw z (srtN_mem.1 (by rw [hlz]; simp))
  obtain ⟨nm, hnm⟩ : ∃ nm, nm = n - 1 := ⟨_, rfl⟩
  have znm : (n : Int) - 1 = (nm : Int) := by omega
  have znmw : IntKind.i64.wrap (nm : Int) = (nm : Int) := IntWalk.i64_in _ (by omega)
  have hnmn : (nm : Int) < (n : Int) := by omega
  have hll : l'.length = nm := by
    have := srtN_len l
    rw [hlz, List.length_append, List.length_singleton] at this
    omega
  have HX := Lib.hid (show (u16s (srtN l))[nm]? = some (.int .u16 (z : Nat)) by rw [hlz, ← hll]; simp [u16s])
  have HB1 := Lib.hid (fun h : 32768 ≤ z => gueB_false hlz (.inl h))
  have HB2 := Lib.hid (fun h : adjB (srtN l) = true => gueB_false hlz (.inr h))
  have HB3 := Lib.hid (fun (h : z < 32768) (h2 : adjB (srtN l) = false) => gueB_true hlz h h2)
  have HSL := Lib.hid (srtN_len l)
  obtain ⟨b0, off, rfl, hb0, -⟩ := hr.at_ (u16s_get h0n)
  have HB0 := Lib.hid hb0
  clear HRR hn2 hnm hll hlz h0n hn hr hb0 hw
  have hmm := @run_makeMap Tryd.prog
  go_enter Tryd.func55, Tryd.ntmps55
  go_wp2_with fail
  refine K57.out.mono ?_
  rintro e w1 ⟨rfl, hb1⟩
  have S1 := Lib.hid ((Own.start w).ext hb1)
  clear hb1
  go_upto_region 2 with fail
  have S2 := Lib.hid (S1.out.new 94 #[.int .u16 c.g, .int .i64 c.k, .int .i64 c.t])
  generalize w1.alloc _ = w2 at *
  generalize w1.heap.size = B6 at *
  clear S1
  go_wp2_with fail
  refine (values_any _ _ _ _).mono ?_
  rintro e w4 ⟨rfl, hw4⟩
  have S4 := Lib.hid (S2.out.new' 22 #[.slice (some ⟨b0, off, none⟩) n cp] (B := w2.heap.size) rfl)
  rw [hw4] at S4
  clear hw4
  have K := Lib.hid (sorted_any w2.heap.size b0 (some ⟨b0, off, none⟩) l n cp w4 HN.out (by omega) (by omega) (HR.out.below S4.out.bel) (fun b o e => .inr (by injection e with e; injection e with e _; exact e.symm)) (S4.out.bx 0 rfl).2.2 (by have := HB0.out; have := S4.out.bel.size; omega) ((S4.out.bx 0 rfl).1 0 _ rfl))
  go_wp2_with fail
  refine K.out.mono ?_
  rintro e w5 ⟨A', c', rfl, hO5⟩
  have S5 := Lib.hid ((S4.out.call hO5).sub [0, 2] (by decide) (qs := [row 41 1 (.slice A' n c') n (u16s (srtN l)), box B6 94 [.int .u16 c.g, .int .i64 c.k, .int .i64 c.t]]) rfl)
  clear hO5 K S2 S4
  obtain ⟨g, rfl⟩ := S5.out.rowAddr 0 rfl (by omega)
  have q0 := S5.out.rowAt 0 rfl HX.out
  have q1 := (S5.out.rowLt 0 rfl).1
  have KC := Lib.hid (fun W hO => compact_any w [box B6 94 [.int .u16 c.g, .int .i64 c.k, .int .i64 c.t]] g n c' (srtN l) W hO (by rw [HSL.out]; exact HN.out) (by omega))
  by_cases hz3 : 32768 ≤ z
  · as_aux_lemma =>
    have HL := Lib.hid (show gueV (m : Int) l = (0, 0, 2) by rw [HRR2.out, if_neg (by rw [HB1.out hz3]; simp)])
    have hz4 : (32768 : Int) ≤ (z : Int) := by omega
    clear hz3
    go_wp2_with fail
    go_ret3
    exact ⟨by rw [HL.out]; rfl, S5.out.bel⟩
  as_aux_lemma =>
  have hz4 : decide ((32768 : Int) ≤ (z : Int)) = false := decide_eq_false (by omega)
  have HZ := Lib.hid (show z < 32768 by omega)
  clear hz3 hzw
  go_wp2_with fail
  refine (KC.out _ S5.out).mono ?_
  rintro e w6 ⟨mm, c6, rfl, hmm6, hO6⟩
  have S6 := Lib.hid hO6
  have HM := Lib.hid hmm6
  clear hO6 hmm6 q0 q1 S5 KC
  by_cases hmn : mm < n
  · as_aux_lemma =>
    have hmz : (mm : Int) < (n : Int) := by omega
    have HL := Lib.hid (show gueV (m : Int) l = (0, 0, 2) by
      rw [HRR2.out, if_neg (by rw [HB2.out (by rw [← HM.out, decide_eq_true hmn])]; simp)])
    go_wp2_with fail
    go_ret3
    exact ⟨by rw [HL.out]; rfl, S6.out.bel⟩
  as_aux_lemma =>
  have hmz : decide (mm < n) = false := decide_eq_false hmn
  have HGB := Lib.hid (HB3.out HZ.out (by rw [← HM.out, decide_eq_false hmn]))
  have HL := Lib.hid (show gueV (m : Int) l = (1, (dst (l.map c.rest)).length, 0) by rw [HRR2.out, if_pos HGB.out])
  have HLB := Lib.hid (gueB_all HGB.out)
  have hB6 := (S6.out.bx 0 rfl).2.2
  obtain ⟨Bm, hBm⟩ : ∃ Bm, Bm = w6.heap.size := ⟨_, rfl⟩
  rw [← hBm] at hB6
  have U0 := Lib.hid (World.ownsMap_made (H := Unit) w6 Tryd.prog 41 (plainElem (H := Unit) Tryd.prog 4))
  have U1 := Lib.hid (below_alloc w6 (.map #[] 0))
  rw [← hBm] at U0 U1
  have HBM := Lib.hid hBm
  clear HRR2 HB1 HB2 HB3 HM hmn HX hBm hnmn znm znmw hbig
  go_upto_region 10 with fail
  rw [← HBM.out]
  generalize w6.alloc _ = w7 at *
  clear hmm
  go_wp2_with fail
  go_loopg [49] n (fun q u49 wr => ∃ i : Nat, i ≤ n ∧ u49 = .int .i64 ((i : Nat) : Int) ∧ Hid (i + q = n ∧ Below Bm w6 wr ∧ ∃ D, SetR D ((l.take i).map c.rest) ∧ wr.ownsMap Tryd.prog 41 (plainElem (H := Unit) Tryd.prog 4) Bm i D))
  case atStart => exact ⟨0, by omega, rfl, by omega, U1.out, _, SetR.start, U0.out⟩
  case round =>
    obtain ⟨i, hi, rfl, hI⟩ := hrel
    have I1 := Lib.hid hI.out.1
    have I2 := Lib.hid hI.out.2.1
    obtain ⟨D, hD1, hD2⟩ := hI.out.2.2
    have I3 := Lib.hid hD1
    have hown := hD2
    clear hI U0 U1 hD1 hD2
    by_cases hlt : i < n
    case neg => as_aux_lemma =>
      obtain rfl : i = n := by omega
      have hni : ¬ (i : Int) < (i : Int) := by omega
      have HE := Lib.hid (show Maps.size D = (dst (l.map c.rest)).length by rw [I3.out.2, List.take_of_length_le (by rw [← HN.out]; exact Nat.le_refl _)])
      have HBL := Lib.hid (below_step S6.out.bel (HBM.out ▸ I2.out))
      go_wp2_with (at_len; refine wpList_len_own _ rfl _ 91 rfl 41 4 Tryd.underlying91 (plainElem (H := Unit) Tryd.prog 4) Bm i D rfl hown ?_)
      go_ret3
      exact ⟨by rw [HL.out, HE.out]; rfl, HBL.out⟩
    have hix : (i : Int) < (n : Int) := by omega
    have hil : i < l.length := by rw [← HN.out]; exact hlt
    obtain ⟨b1, off1, hA1, k0, l0⟩ := (HR.out.below (below_step S6.out.bel (HBM.out ▸ I2.out))).u16 hil
    injection hA1 with hA1
    injection hA1 with hA1 hA2
    subst hA1 hA2
    have hx15 := HLB.out _ (List.getElem_mem hil)
    have HR1 := Lib.hid (K59.out l[i] hx15)
    have hrl := HRL.out l[i] hx15
    have HT := Lib.hid (show (l.take (i + 1)).map c.rest = (l.take i).map c.rest ++ [c.rest l[i]] by rw [List.take_succ_eq_append_getElem hil, List.map_append]; rfl)
    clear hx15
    generalize c.rest l[i] = y at *
    generalize l[i] = x at *
    clear hil
    have HP := Lib.hid (I3.out.put (hown.tidy keyedW) hrl)
    have HKY := keyOf_int_mk (P := Tryd.prog) Tryd.underlying41 (wf_u16 hrl)
    have lt6 : B6 < wr.heap.size := by have := I2.out.size; have := HBM.out; omega
    obtain ⟨t0', t1', t2', _⟩ := (S6.out.bx 0 rfl).c3
    have t0 := (I2.out.cell (p := ⟨B6, 0, none⟩) hB6).trans t0'
    have t1 := (I2.out.cell (p := ⟨B6, 1, none⟩) hB6).trans t1'
    have t2 := (I2.out.cell (p := ⟨B6, 2, none⟩) hB6).trans t2'
    clear t0' t1' t2'
    have HOWN := Lib.hid hown
    clear hown
    as_aux_lemma =>
    go_wp2_with fail
    refine (HR1.out _).mono ?_
    rintro e w8 ⟨rfl, hb8⟩
    have hown := HOWN.out.kept (grownB hb8) (by simp)
    have I4 := Lib.hid (show Below Bm w6 w8 by rw [HBM.out]; exact below_step (HBM.out ▸ I2.out) hb8)
    clear hb8 t0 t1 t2 k0 l0
    go_wp2_with (at_mapUpdate; refine wpList_mapUpdate_own _ rfl _ _ _ 91 rfl 41 4 keyedW Tryd.underlying91 (plainElem (H := Unit) Tryd.prog 4) Bm i D rfl hown (by unfold maxLen; omega) _ _ _ rfl rfl HKY _ [] (plainElem_bool Tryd.underlying4 true) ?_; intro w9 hown9 hgrow9)
    go_roundg (gk - 1)
    case measure => have := I1.out; omega
    case rel => exact ⟨i + 1, by omega, by go_num, by have := I1.out; omega, (I4.out.grown hgrow9 (by rw [HBM.out]; exact I4.out.size) (fun j hj => by cases hj; exact Nat.le_refl _)), _, by rw [HT.out]; exact HP.out, hown9⟩
theorem gue_take {l : List Nat} {i : Nat} (hi : i < l.length) (h : gueB (l.take i) = true) (hx : l[i] < 32768) (hn : l[i] ∉ l.take i) : gueB (l.take (i + 1)) = true := by
  simp only [gueB, Bool.and_eq_true, List.all_eq_true, decide_eq_true_eq] at *
  rw [List.take_succ_eq_append_getElem hi]
  refine ⟨fun y hy => ?_, List.nodup_append.2 ⟨h.2, by simp, fun a ha b hb e => ?_⟩⟩
  · rcases List.mem_append.1 hy with k | k
    · exact h.1 y k
    · rw [List.mem_singleton] at k; subst k; exact hx
  · rw [List.mem_singleton] at hb
    subst hb; subst e
    exact hn ha
theorem gue_big {l : List Nat} {i : Nat} (hi : i < l.length) (hx : ¬ l[i] < 32768) : gueB l = false := by
  simp only [gueB, Bool.and_eq_false_iff]
  left
  rw [Bool.eq_false_iff]
  intro h
  exact hx (by simpa using List.all_eq_true.1 h _ (List.getElem_mem hi))
theorem gue_dup {l : List Nat} {i j : Nat} (hi : i < l.length) (hji : j < i) (hx : l[j]'(by omega) = l[i]) : gueB l = false := by
  simp only [gueB, Bool.and_eq_false_iff]
  right
  rw [decide_eq_false_iff_not]
  intro h
  have := List.pairwise_iff_getElem.1 h j i (by omega) hi hji
  exact this hx
def fstB (c : Kd) (l : List Nat) (x j : Nat) : Bool := decide (c.rest x ∉ (l.take j).map c.rest)
theorem fst_step {c : Kd} {l : List Nat} {x j : Nat} (hj : j < l.length) : fstB c l x (j + 1) = (fstB c l x j && !decide (c.rest l[j] = c.rest x)) := by
  unfold fstB
  rw [List.take_succ_eq_append_getElem hj, List.map_append, Bool.eq_iff_iff]
  simp only [decide_eq_true_eq, List.mem_append, List.map_cons, List.map_nil, List.mem_singleton, Bool.and_eq_true, Bool.not_eq_true', decide_eq_false_iff_not, not_or]
  constructor
  · rintro ⟨h1, h2⟩; exact ⟨h1, fun e => h2 e.symm⟩
  · rintro ⟨h1, h2⟩; exact ⟨h1, fun e => h2 e.symm⟩
theorem mem_take_step {l : List Nat} {x j : Nat} (hj : j < l.length) (h : x ∉ l.take j) (hx : ¬ l[j] = x) : x ∉ l.take (j + 1) := by
  rw [List.take_succ_eq_append_getElem hj, List.mem_append, List.mem_singleton, not_or]
  exact ⟨h, fun e => hx e.symm⟩
def dstI (c : Kd) (l : List Nat) (i : Nat) : Nat := (dst ((l.take i).map c.rest)).length
theorem dstI_step {c : Kd} {l : List Nat} {i : Nat} (hi : i < l.length) : dstI c l (i + 1) = if fstB c l l[i] i = true then dstI c l i + 1 else dstI c l i := by
  unfold dstI fstB
  rw [List.take_succ_eq_append_getElem hi, List.map_append, List.map_cons, List.map_nil, dst_snoc]
  by_cases e : c.rest l[i] ∈ (l.take i).map c.rest
  · rw [if_pos (dst_mem.2 e), if_neg (by simpa using e)]
  · rw [if_neg (fun k => e (dst_mem.1 k)), if_pos (by simpa using e), List.length_append]
    rfl
set_option maxRecDepth 100000 in
set_option maxHeartbeats 8000000 in
theorem refGuess_any (k : Int) (l : List Nat) (A : Option Addr) (n cp : Nat) (w : World) (hr : Rd w A (u16s l)) (hn : n = l.length) :
    Calls Tryd.prog 56 #[.int .u8 k, .slice A n cp] w fun e w' => e = .returned (.tuple #[.int .i64 (gueV k l).1, .int .i64 (((gueV k l).2.1 : Nat) : Int), .int .i64 (gueV k l).2.2]) ∧ Below w.heap.size w w' := by
  have K29 := fun W => Kind_any k W
  cases hkb : kindB k
  · as_aux_lemma =>
    have HL := Lib.hid (show gueV k l = (0, 0, 2) by simp [gueV, gueF, hkb])
    rw [hkb] at K29
    replace K29 := Lib.hid K29
    clear hkb hr hn
    go_enter Tryd.func56, Tryd.ntmps56
    go_wp2_with fail
    refine (K29.out _).mono ?_
    rintro e w1 ⟨rfl, hb1⟩
    have S1 := Lib.hid ((Own.start w).ext hb1)
    clear hb1
    go_wp2_with fail
    go_ret3
    exact ⟨by rw [HL.out]; rfl, S1.out.bel⟩
  obtain ⟨m, rfl, hm1, hm3, hmt⟩ := kind_bd hkb
  have HRR := Lib.hid (show gueV (m : Int) l = if l.length < 1 ∨ 100 < l.length then (0, 0, 4) else if gueB l = true then (1, (dst (l.map (kd m).rest)).length, 0) else (0, 0, 2) by simp [gueV, gueF, hkb])
  rw [hkb] at K29
  replace K29 := Lib.hid K29
  have K60 := Lib.hid (fun x (hx : x < 2 ^ 15) W => refRest_any m hm1 hm3 x hx W)
  generalize kd m = c at *
  clear hkb hmt hm1 hm3
  have HR := Lib.hid (fun W (h : Below w.heap.size w W) => hr.below h)
  have HN := Lib.hid hn
  clear hr hn
  by_cases hn2 : n < 1 ∨ 100 < n
  case pos => as_aux_lemma =>
    have HL := Lib.hid (show gueV (m : Int) l = (0, 0, 4) by rw [HRR.out, if_pos (by rw [← HN.out]; exact hn2)])
    by_cases hn1 : n < 1
    · have hz : (n : Int) < 1 := by omega
      clear hn2 hn1
      go_enter Tryd.func56, Tryd.ntmps56
      go_wp2_with fail
      refine (K29.out _).mono ?_
      rintro e w1 ⟨rfl, hb1⟩
      have S1 := Lib.hid ((Own.start w).ext hb1)
      clear hb1
      go_wp2_with fail
      go_ret3
      exact ⟨by rw [HL.out]; rfl, S1.out.bel⟩
    · have hz : ¬ (n : Int) < 1 := by omega
      have hz2 : (100 : Int) < (n : Int) := by omega
      clear hn2 hn1
      go_enter Tryd.func56, Tryd.ntmps56
      go_wp2_with fail
      refine (K29.out _).mono ?_
      rintro e w1 ⟨rfl, hb1⟩
      have S1 := Lib.hid ((Own.start w).ext hb1)
      clear hb1
      go_wp2_with fail
      go_ret3
      exact ⟨by rw [HL.out]; rfl, S1.out.bel⟩
  as_aux_lemma =>
  have hz : ¬ (n : Int) < 1 := by omega
  have hz2 : ¬ (100 : Int) < (n : Int) := by omega
  have hn1 : 1 ≤ n ∧ n ≤ 100 := by omega
  have HRR2 := Lib.hid (show gueV (m : Int) l = if gueB l = true then (1, dstI c l n, 0) else (0, 0, 2) by rw [HRR.out, if_neg (by rw [← HN.out]; exact hn2), dstI, List.take_of_length_le (by rw [← HN.out]; exact Nat.le_refl _)])
  have HBAD := Lib.hid (fun h : gueB l = false => (show gueV (m : Int) l = (0, 0, 2) by rw [HRR2.out, if_neg (by rw [h]; simp)]))
  clear hn2 HRR
  go_enter Tryd.func56, Tryd.ntmps56
  go_wp2_with fail
  refine (K29.out _).mono ?_
  rintro e w1 ⟨rfl, hb1⟩
  have S1 := Lib.hid ((Own.start w).ext hb1)
  clear hb1
  go_wp2_with fail
  go_loopg [7, 8] n (fun q u7 u8 wr => ∃ (i N1 : Nat), (i ≤ n ∧ N1 ≤ i) ∧ u7 = .int .i64 ((N1 : Nat) : Int) ∧ u8 = .int .i64 ((i : Nat) : Int) ∧ Hid (i + q = n ∧ gueB (l.take i) = true ∧ N1 = dstI c l i ∧ Own w wr []))
  case atStart => exact ⟨0, 0, by omega, rfl, rfl, by omega, rfl, rfl, S1.out⟩
  case round =>
    obtain ⟨i, N1, hi, rfl, rfl, hI⟩ := hrel
    have I1 := Lib.hid hI.out.1
    have I2 := Lib.hid hI.out.2.1
    have I3 := Lib.hid hI.out.2.2.1
    have I4 := Lib.hid hI.out.2.2.2
    clear hI S1
    by_cases hlt : i < n
    case neg => as_aux_lemma =>
      obtain rfl : i = n := by omega
      have hni : ¬ (i : Int) < (i : Int) := by omega
      have HE := Lib.hid (show gueV (m : Int) l = (1, N1, 0) by
        have h := I2.out
        rw [List.take_of_length_le (by rw [← HN.out]; exact Nat.le_refl _)] at h
        rw [HRR2.out, if_pos h, I3.out])
      go_wp2_with fail
      go_ret3
      exact ⟨by rw [HE.out]; rfl, I4.out.bel⟩
    as_aux_lemma =>
    have hix : (i : Int) < (n : Int) := by omega
    have hil : i < l.length := by rw [← HN.out]; exact hlt
    obtain ⟨b0, off, rfl, k0, l0⟩ := (HR.out _ I4.out.bel).u16 hil
    have HK0 := Lib.hid (fun W (h : Below w.heap.size w W) => (show W.cell? ⟨b0, off + i, none⟩ = some (.int .u16 (l[i] : Nat)) ∧ b0 < W.heap.size by
      obtain ⟨b1, off1, hA1, k1, l1⟩ := (HR.out _ h).u16 hil
      injection hA1 with hA1
      injection hA1 with hA1 hA2
      subst hA1 hA2
      exact ⟨k1, l1⟩))
    obtain ⟨x, hx⟩ : ∃ x, x = l[i] := ⟨_, rfl⟩
    rw [← hx] at k0 HK0
    have HX := Lib.hid hx
    clear hx
    have zi1 : IntKind.i64.wrap ((i : Int) + 1) = ((i + 1 : Nat) : Int) := by rw [show (i : Int) + 1 = ((i + 1 : Nat) : Int) by omega]; exact IntWalk.i64_in _ (by omega)
    have zN1 : IntKind.i64.wrap ((N1 : Int) + 1) = ((N1 + 1 : Nat) : Int) := by rw [show (N1 : Int) + 1 = ((N1 + 1 : Nat) : Int) by omega]; exact IntWalk.i64_in _ (by omega)
    by_cases hxb : x < 32768
    case neg => as_aux_lemma =>
      have hxz : decide ((32768 : Int) ≤ (x : Int)) = true := decide_eq_true (by omega)
      have HL := Lib.hid (HBAD.out (gue_big hil (by rw [← HX.out]; exact hxb)))
      clear hxb
      go_wp2_with fail
      go_ret3
      exact ⟨by rw [HL.out]; rfl, I4.out.bel⟩
    as_aux_lemma =>
    have hxz : decide ((32768 : Int) ≤ (x : Int)) = false := decide_eq_false (by omega)
    have HXB := Lib.hid hxb
    have HIL := Lib.hid hil
    clear hxb
    obtain ⟨G1, rfl⟩ : ∃ G1 : Nat, G1 = gk := ⟨_, rfl⟩
    go_wp2_with fail
    go_loopg [9, 10] i (fun q u9 u10 wr => ∃ (j : Nat) (fb : Bool), j ≤ i ∧ u9 = .bool fb ∧ u10 = .int .i64 ((j : Nat) : Int) ∧ Hid (j + q = i ∧ x ∉ l.take j ∧ fb = fstB c l x j ∧ Own w wr []))
    case atStart => exact ⟨0, true, by omega, rfl, rfl, by omega, by simp, by simp [fstB], I4.out⟩
    case round =>
      obtain ⟨j, fb, hj, rfl, rfl, hI⟩ := hrel
      have J1 := Lib.hid hI.out.1
      have J2 := Lib.hid hI.out.2.1
      have J3 := Lib.hid hI.out.2.2.1
      have J4 := Lib.hid hI.out.2.2.2
      clear hI I4 k0 l0
      by_cases hjt : j < i
      case neg => as_aux_lemma =>
        obtain rfl : j = i := by omega
        have hni : ¬ (j : Int) < (j : Int) := by omega
        have HT := Lib.hid (gue_take HIL.out I2.out (by rw [← HX.out]; exact HXB.out) (by rw [← HX.out]; exact J2.out))
        have HD := Lib.hid (show dstI c l (j + 1) = if fb = true then N1 + 1 else N1 by rw [dstI_step HIL.out, ← HX.out, ← J3.out, ← I3.out])
        cases fb
        · go_wp2_with fail
          go_roundg (G1 - 1)
          case measure => have := I1.out; omega
          case rel => exact ⟨j + 1, N1, by omega, rfl, by go_num, by have := I1.out; omega, HT.out, by rw [HD.out]; rfl, J4.out⟩
        · go_wp2_with fail
          go_roundg (G1 - 1)
          case measure => have := I1.out; omega
          case rel => exact ⟨j + 1, N1 + 1, by omega, by go_num, by go_num, by have := I1.out; omega, HT.out, by rw [HD.out]; rfl, J4.out⟩
      as_aux_lemma =>
      have hjx : (j : Int) < (i : Int) := by omega
      have hjn : (j : Int) < (n : Int) := by omega
      have hjl : j < l.length := by have := HN.out; omega
      obtain ⟨b1, off1, hA1, k1, l1⟩ := (HR.out _ J4.out.bel).u16 hjl
      have HK1 := Lib.hid (fun W (h : Below w.heap.size w W) => (show W.cell? ⟨b0, off + j, none⟩ = some (.int .u16 (l[j] : Nat)) ∧ b0 < W.heap.size by
        obtain ⟨b1, off1, hA1, k1, l1⟩ := (HR.out _ h).u16 hjl
        injection hA1 with hA1
        injection hA1 with hA1 hA2
        subst hA1 hA2
        exact ⟨k1, l1⟩))
      clear hA1 k1 l1 b1 off1
      have zj1 : IntKind.i64.wrap ((j : Int) + 1) = ((j + 1 : Nat) : Int) := by rw [show (j : Int) + 1 = ((j + 1 : Nat) : Int) by omega]; exact IntWalk.i64_in _ (by omega)
      have HDUP := Lib.hid (fun h : l[j] = x => HBAD.out (gue_dup HIL.out hjt (by rw [h]; exact HX.out)))
      have HMT := Lib.hid (fun h : ¬ l[j] = x => mem_take_step hjl J2.out h)
      have HFS := Lib.hid (show fstB c l x (j + 1) = (fb && !decide (c.rest l[j] = c.rest x)) by rw [fst_step hjl, ← J3.out])
      have HPJ := Lib.hid (show l[j] ∈ l.take i by rw [List.mem_take_iff_getElem]; exact ⟨j, by omega, rfl⟩)
      have HYB := Lib.hid (show l[j] < 32768 from gueB_all I2.out _ HPJ.out)
      clear HPJ
      generalize l[j] = y at *
      clear hjl
      have fx0 := fun z : OwnOf w [] => (HK0.out z.wld z.own.bel).1
      have fl0 := fun z : OwnOf w [] => (HK0.out z.wld z.own.bel).2
      have fx1 := fun z : OwnOf w [] => (HK1.out z.wld z.own.bel).1
      have hne : Nonempty (OwnOf w []) := ⟨⟨_, J4.out⟩⟩
      go_upto_region 15 with fail
      by_cases hyx : y = x
      · as_aux_lemma =>
        have HL := Lib.hid (HDUP.out hyx)
        subst hyx
        refine wp_region_own J4.out (by kernel_rfl) (by kernel_rfl) ?_
        iterate 9 (go_big_quiet_step (fail))
        refine wpQuiet_nil ?_
        rintro w3 ⟨z, hz⟩
        have S3 := Lib.hid (show Own w w3 [] by rw [hz]; exact z.own)
        clear hz z hne fx0 fx1 fl0
        go_wp2_with fail
        go_ret3
        exact ⟨by rw [HL.out]; rfl, S3.out.bel⟩
      as_aux_lemma =>
      have hyz : ¬ (y : Int) = (x : Int) := by omega
      have hyz2 : ((y : Int) == (x : Int)) = false := by simp; omega
      have HM := Lib.hid (HMT.out hyx)
      clear hyx
      refine wp_region_own J4.out (by kernel_rfl) (by kernel_rfl) ?_
      iterate 9 (go_big_quiet_step (fail))
      refine wpQuiet_nil ?_
      rintro w3 ⟨z, hz⟩
      have S3 := Lib.hid (show Own w w3 [] by rw [hz]; exact z.own)
      clear hz z hne
      have hne : Nonempty (OwnOf w []) := ⟨⟨_, S3.out⟩⟩
      have KY := Lib.hid (fun W => K60.out y HYB.out W)
      have KX := Lib.hid (fun W => K60.out x HXB.out W)
      generalize c.rest y = ry at *
      generalize c.rest x = rx at *
      go_upto_region 17 with fail
      by_cases hre : ry = rx
      · as_aux_lemma =>
        have HF := Lib.hid (show fstB c l x (j + 1) = false by rw [HFS.out, decide_eq_true hre]; cases fb <;> rfl)
        subst hre
        refine wp_region_own S3.out (by kernel_rfl) (by kernel_rfl) ?_
        iterate 5 (go_big_quiet_step (fail))
        go_big_quiet_step ((go_at_call 60; exact own_of (KY.out _)))
        iterate 5 (go_big_quiet_step (fail))
        go_big_quiet_step ((go_at_call 60; exact own_of (KX.out _)))
        iterate 1 (go_big_quiet_step (fail))
        refine wpQuiet_nil ?_
        rintro w4 ⟨z, hz⟩
        have S4 := Lib.hid (show Own w w4 [] by rw [hz]; exact z.own)
        clear hz z hne fx0 fx1 fl0
        go_wp2_with fail
        go_roundg (gk - 1)
        case measure => have := J1.out; omega
        case rel => exact ⟨j + 1, false, by omega, rfl, by go_num, by have := J1.out; omega, HM.out, by rw [HF.out], S4.out⟩
      · as_aux_lemma =>
        have HF := Lib.hid (show fstB c l x (j + 1) = fb by rw [HFS.out, decide_eq_false hre]; cases fb <;> rfl)
        have hrz : ¬ (ry : Int) = (rx : Int) := by omega
        have hrz2 : ((ry : Int) == (rx : Int)) = false := by simp; omega
        clear hre
        refine wp_region_own S3.out (by kernel_rfl) (by kernel_rfl) ?_
        iterate 5 (go_big_quiet_step (fail))
        go_big_quiet_step ((go_at_call 60; exact own_of (KY.out _)))
        iterate 5 (go_big_quiet_step (fail))
        go_big_quiet_step ((go_at_call 60; exact own_of (KX.out _)))
        iterate 1 (go_big_quiet_step (fail))
        refine wpQuiet_nil ?_
        rintro w4 ⟨z, hz⟩
        have S4 := Lib.hid (show Own w w4 [] by rw [hz]; exact z.own)
        clear hz z hne fx0 fx1 fl0
        go_wp2_with fail
        go_roundg (gk - 1)
        case measure => have := J1.out; omega
        case rel => exact ⟨j + 1, fb, by omega, rfl, by go_num, by have := J1.out; omega, HM.out, HF.out.symm, S4.out⟩
end Go.Proofs.YtnienfgaidccpaaDoor
