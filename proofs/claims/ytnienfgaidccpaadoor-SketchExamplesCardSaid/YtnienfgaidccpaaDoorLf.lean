/- Sketch: Lock of the program. No condition. -/
import Derived.Test.YtnienfgaidccpaaDoorLe
namespace Go.Proofs.YtnienfgaidccpaaDoor
open Go.RowKit Go.Shelf
attribute [local go_sem] Oper.semAt_some

def lokB (l pl : List Int) (s : Int) : Bool := decide (1 ≤ l.length) && (decide (l.length ≤ 4) && (numB l && (setB pl && (decide (0 ≤ s) && decide (s ≤ 1000000)))))
/-- The vault's number at a place. -/
def lokF (l pl : List Int) (s : Int) (x : Nat) : Int := (valF l (x : Int) + if (x : Int) ∈ pl then 0 else 1 + (s + 7 * (x : Int) * x * x + 3 * (x : Int)) % 30) % 31
/-- What Lock returns. -/
def lokR (l pl : List Int) (s : Int) : List Int × Int := if lokB l pl s = true then (tab 31 (lokF l pl s), 0) else ([], 2)
set_option maxRecDepth 100000 in
set_option maxHeartbeats 4000000 in
theorem lock_any (l pl : List Int) (s : Int) (Al Ap : Option Addr) (nl np cl cp : Nat) (w : World) (hl : Rd w Al (i64s l)) (hp : Rd w Ap (i64s pl)) (hnl : nl = l.length) (hnp : np = pl.length) (hnl2 : nl ≤ 1000) (hnp2 : np ≤ 1000) :
    Calls Tryd.prog 38 #[.slice Al nl cl, .slice Ap np cp, .int .i64 s] w (IntsPost (lokR l pl s) w) := by
  have KN := numbers_any l Al nl cl w hl hnl (by omega)
  have KS := set_any pl Ap np cp w hp hnp (by omega)
  by_cases h1 : 1 ≤ nl
  case neg => as_aux_lemma =>
    have HL := Lib.hid (show lokR l pl s = ([], 2) by unfold lokR; rw [if_neg]; simp [lokB]; omega)
    have d1 : (nl : Int) < 1 := by omega
    clear hl hp hnl hnp hnl2 hnp2 KN KS h1
    go_enter Tryd.func38, Tryd.ntmps38
    go_wp2_with fail
    go_ret2
    exact ⟨none, 0, by rw [HL.out]; rfl, by rw [HL.out]; exact ((Own.start w).nil 3 1)⟩
  by_cases h4 : nl ≤ 4
  case neg => as_aux_lemma =>
    have HL := Lib.hid (show lokR l pl s = ([], 2) by unfold lokR; rw [if_neg]; simp [lokB]; omega)
    have d1 : ¬ (nl : Int) < 1 := by omega
    have d2 : (4 : Int) < (nl : Int) := by omega
    clear hl hp hnl hnp hnl2 hnp2 KN KS h1 h4
    go_enter Tryd.func38, Tryd.ntmps38
    go_wp2_with fail
    go_ret2
    exact ⟨none, 0, by rw [HL.out]; rfl, by rw [HL.out]; exact ((Own.start w).nil 3 1)⟩
  cases hnb : numB l
  · as_aux_lemma =>
    have HL := Lib.hid (show lokR l pl s = ([], 2) by unfold lokR; rw [if_neg]; simp [lokB, hnb])
    rw [hnb] at KN
    replace KN := Lib.hid KN
    have d1 : ¬ (nl : Int) < 1 := by omega
    have d2 : ¬ (4 : Int) < (nl : Int) := by omega
    clear hl hp hnl hnp hnl2 hnp2 KS hnb h1 h4
    go_enter Tryd.func38, Tryd.ntmps38
    go_wp2_with fail
    refine KN.out.mono ?_
    rintro e w2 ⟨rfl, rfl⟩
    go_wp2_with fail
    go_ret2
    exact ⟨none, 0, by rw [HL.out]; rfl, by rw [HL.out]; exact ((Own.start w).nil 3 1)⟩
  have HLI := Lib.hid (numB_in hnb)
  rw [hnb] at KN
  replace KN := Lib.hid KN
  cases hsb : setB pl
  · as_aux_lemma =>
    have HL := Lib.hid (show lokR l pl s = ([], 2) by unfold lokR; rw [if_neg]; simp [lokB, hsb])
    rw [hsb] at KS
    replace KS := Lib.hid KS
    have d1 : ¬ (nl : Int) < 1 := by omega
    have d2 : ¬ (4 : Int) < (nl : Int) := by omega
    clear hl hp hnl hnp hnl2 hnp2 hnb hsb h1 h4
    go_enter Tryd.func38, Tryd.ntmps38
    go_wp2_with fail
    refine KN.out.mono ?_
    rintro e w2 ⟨rfl, rfl⟩
    go_wp2_with fail
    refine KS.out.mono ?_
    rintro e w3 ⟨rfl, hb3⟩
    have S3 := Lib.hid ((Own.start w).ext hb3)
    clear hb3
    go_wp2_with fail
    go_ret2
    exact ⟨none, 0, by rw [HL.out]; rfl, by rw [HL.out]; exact (S3.out.nil 3 1)⟩
  rw [hsb] at KS
  replace KS := Lib.hid KS
  by_cases hs0 : 0 ≤ s
  case neg => as_aux_lemma =>
    have HL := Lib.hid (show lokR l pl s = ([], 2) by unfold lokR; rw [if_neg]; simp [lokB]; omega)
    have d1 : ¬ (nl : Int) < 1 := by omega
    have d2 : ¬ (4 : Int) < (nl : Int) := by omega
    have d3 : s < 0 := by omega
    clear hl hp hnl hnp hnl2 hnp2 hnb hsb h1 h4 hs0
    go_enter Tryd.func38, Tryd.ntmps38
    go_wp2_with fail
    refine KN.out.mono ?_
    rintro e w2 ⟨rfl, rfl⟩
    go_wp2_with fail
    refine KS.out.mono ?_
    rintro e w3 ⟨rfl, hb3⟩
    have S3 := Lib.hid ((Own.start w).ext hb3)
    clear hb3
    go_wp2_with fail
    go_ret2
    exact ⟨none, 0, by rw [HL.out]; rfl, by rw [HL.out]; exact (S3.out.nil 3 1)⟩
  by_cases hs1 : s ≤ 1000000
  case neg => as_aux_lemma =>
    have HL := Lib.hid (show lokR l pl s = ([], 2) by unfold lokR; rw [if_neg]; simp [lokB]; omega)
    have d1 : ¬ (nl : Int) < 1 := by omega
    have d2 : ¬ (4 : Int) < (nl : Int) := by omega
    have d3 : ¬ s < 0 := by omega
    have d4 : 1000000 < s := by omega
    clear hl hp hnl hnp hnl2 hnp2 hnb hsb h1 h4 hs0 hs1
    go_enter Tryd.func38, Tryd.ntmps38
    go_wp2_with fail
    refine KN.out.mono ?_
    rintro e w2 ⟨rfl, rfl⟩
    go_wp2_with fail
    refine KS.out.mono ?_
    rintro e w3 ⟨rfl, hb3⟩
    have S3 := Lib.hid ((Own.start w).ext hb3)
    clear hb3
    go_wp2_with fail
    go_ret2
    exact ⟨none, 0, by rw [HL.out]; rfl, by rw [HL.out]; exact (S3.out.nil 3 1)⟩
  have HL := Lib.hid (show lokR l pl s = (tab 31 (lokF l pl s), 0) by
    unfold lokR
    rw [if_pos (by simp only [lokB, hnb, hsb, Bool.true_and, Bool.and_eq_true, decide_eq_true_eq]; omega)])
  have d1 : ¬ (nl : Int) < 1 := by omega
  have d2 : ¬ (4 : Int) < (nl : Int) := by omega
  have d3 : ¬ s < 0 := by omega
  have d4 : ¬ 1000000 < s := by omega
  have KA := Lib.hid (fun (x : Nat) (hx : x < 31) W (h : Below w.heap.size w W) => at_any l Al nl cl (x : Int) W (hl.below h) hnl h1 (by omega) HLI.out (by omega))
  have KC := Lib.hid (fun (x : Nat) W (h : Below w.heap.size w W) => contains_any pl Ap np cp (x : Int) W (hp.below h) hnp (by omega))
  have HF := Lib.hid (fun (x : Nat) => (show lokF l pl s x = (valF l (x : Int) + if (x : Int) ∈ pl then 0 else 1 + (s + 7 * (x : Int) * x * x + 3 * (x : Int)) % 30) % 31 from rfl))
  have HM := Lib.hid (fun m W1 => mod_any m W1)
  have hmk : ∀ W : World, (Instr.makeSlice 61 (.int .i64 31) (.int .i64 31)).run Tryd.prog W = .ok (.slice (some ⟨W.heap.size, 0, none⟩) 31 31) (W.alloc (.cells (madeCells #[.int .i64 0] 31) 3)) := fun W => makeI 31 (by omega) W
  obtain ⟨G, hG⟩ : ∃ G, G = lokF l pl s := ⟨_, rfl⟩
  rw [← hG] at HL HF
  have HVR := Lib.hid (fun (x : Nat) => valF_range l (x : Int))
  clear hl hp hnl hnp hnb hsb hnl2 hnp2 h1 h4 hG
  as_aux_lemma =>
  go_enter Tryd.func38, Tryd.ntmps38
  go_wp2_with fail
  refine KN.out.mono ?_
  rintro e w2 ⟨rfl, rfl⟩
  go_wp2_with fail
  refine KS.out.mono ?_
  rintro e w3 ⟨rfl, hb3⟩
  have S3 := Lib.hid ((Own.start w).ext hb3)
  clear hb3
  go_upto_region 4 with fail
  have S4 := Lib.hid (((S3.out.new' 3 (madeCells #[.int .i64 0] 31) (B := w3.heap.size) rfl).asRow (size := 1) (n := 31) 0 rfl (by rw [madeI64, i64s_len, tab_len]) (by unfold maxLen; omega)).cast (qs := [row 3 1 (.slice (some ⟨w3.heap.size, 0, none⟩) 31 31) 31 (i64s (tab 31 fun j => if j < 0 then G j else 0))]) (by rw [madeI64]; rfl))
  generalize w3.alloc _ = w4 at *
  generalize w3.heap.size = B at *
  clear S3 hmk
  go_wp2_with fail
  go_loopg [40] 31 (fun q u40 wr => ∃ i : Nat, i ≤ 31 ∧ u40 = .int .i64 (i : Nat) ∧ Hid (i + q = 31 ∧ Own w wr [row 3 1 (.slice (some ⟨B, 0, none⟩) 31 31) 31 (i64s (tab 31 fun j => if j < i then G j else 0))]))
  case atStart => exact ⟨0, by omega, rfl, by omega, S4.out⟩
  case round =>
    obtain ⟨i, hi, rfl, hI⟩ := hrel
    have I1 := Lib.hid hI.out.1
    have I2 := Lib.hid hI.out.2
    clear hI S4
    by_cases hlt : i < 31
    case neg => as_aux_lemma =>
      have HE := Lib.hid (show (tab 31 fun j => if j < i then G j else 0) = tab 31 G from tab_congr fun j hj => if_pos (by omega))
      have hni : ¬ (i : Int) < 31 := by omega
      go_wp2_with fail
      go_ret2
      exact ⟨some ⟨B, 0, none⟩, 31, by rw [HL.out]; simp only [tab_len]; rfl, by rw [HL.out]; simp only [tab_len]; rw [← HE.out]; exact I2.out⟩
    have hix : (i : Int) < 31 := by omega
    have KA1 := Lib.hid (KA.out i hlt wr I2.out.bel)
    have KC1 := Lib.hid (KC.out i)
    have HF1 := Lib.hid (HF.out i)
    obtain ⟨v0, v1⟩ := HVR.out i
    have HS := Lib.hid (show (i64s (tab 31 fun j => if j < i then G j else 0)).set i (.int .i64 (G i)) = i64s (tab 31 fun j => if j < i + 1 then G j else 0) by
      rw [i64s_set, tab_set]
      congr 1
      refine tab_congr fun j hj => ?_
      by_cases e : j = i
      · subst e; simp
      · rw [if_neg e]
        by_cases e2 : j < i
        · rw [if_pos e2, if_pos (by omega)]
        · rw [if_neg e2, if_neg (by omega)])
    generalize valF l (i : Int) = a at *
    by_cases hin : (i : Int) ∈ pl
    · as_aux_lemma =>
      rw [decide_eq_true hin] at KC1
      rw [if_pos hin, Int.add_zero] at HF1
      clear hin
      have KM := Lib.hid (HM.out a)
      rw [← HF1.out] at KM
      generalize G i = g at *
      go_wp2_with fail
      refine KA1.out.mono ?_
      rintro e w5 ⟨rfl, hb5⟩
      have S5 := Lib.hid (I2.out.ext hb5)
      clear hb5
      go_wp2_with fail
      refine (KC1.out _ S5.out.bel).mono ?_
      rintro e w6 ⟨rfl, rfl⟩
      have lg := (S5.out.rowLt 0 rfl).1
      have lf := (S5.out.rowLt 0 rfl).2
      have c0 := S5.out.rowAt 0 rfl (j := i) (tab_i64 _ hlt)
      go_wp2_with fail
      refine (KM.out _).mono ?_
      rintro e w7 ⟨rfl, rfl⟩
      go_wp2_with fail
      go_roundg (gk - 1)
      case measure => have := I1.out; omega
      case rel => exact ⟨i + 1, by omega, by go_num, by have := I1.out; omega, by rw [← HS.out]; exact (S5.out.setRow 0 rfl i (.int .i64 g))⟩
    · as_aux_lemma =>
      rw [decide_eq_false hin] at KC1
      rw [if_neg hin] at HF1
      clear hin
      have m1 : 0 ≤ 7 * (i : Int) ∧ 7 * (i : Int) ≤ 210 := by omega
      have m2 : 0 ≤ 7 * (i : Int) * i ∧ 7 * (i : Int) * i ≤ 6300 := ⟨Int.mul_nonneg m1.1 (by omega), by have := Int.mul_le_mul m1.2 (show (i : Int) ≤ 30 by omega) (by omega) (by omega); omega⟩
      have m3 : 0 ≤ 7 * (i : Int) * i * i ∧ 7 * (i : Int) * i * i ≤ 189000 := ⟨Int.mul_nonneg m2.1 (by omega), by have := Int.mul_le_mul m2.2 (show (i : Int) ≤ 30 by omega) (by omega) (by omega); omega⟩
      have z1 : IntKind.i64.wrap (7 * (i : Int)) = 7 * (i : Int) := IntWalk.i64_in _ (by omega)
      have z2 : IntKind.i64.wrap (7 * (i : Int) * i) = 7 * (i : Int) * i := IntWalk.i64_in _ (by omega)
      have z3 : IntKind.i64.wrap (7 * (i : Int) * i * i) = 7 * (i : Int) * i * i := IntWalk.i64_in _ (by omega)
      have z5 : IntKind.i64.wrap (3 * (i : Int)) = 3 * (i : Int) := IntWalk.i64_in _ (by omega)
      have z4 : IntKind.i64.wrap (s + 7 * (i : Int) * i * i) = s + 7 * (i : Int) * i * i := by generalize 7 * (i : Int) * i * i = Q at *; exact IntWalk.i64_in _ (by omega)
      have z6 : IntKind.i64.wrap (s + 7 * (i : Int) * i * i + 3 * (i : Int)) = s + 7 * (i : Int) * i * i + 3 * (i : Int) := by generalize 7 * (i : Int) * i * i = Q at *; exact IntWalk.i64_in _ (by omega)
      have m4 : 0 ≤ s + 7 * (i : Int) * i * i + 3 * (i : Int) := by generalize 7 * (i : Int) * i * i = Q at *; omega
      have z7 : (s + 7 * (i : Int) * i * i + 3 * (i : Int)).tmod 30 = (s + 7 * (i : Int) * i * i + 3 * (i : Int)) % 30 := Int.tmod_eq_emod_of_nonneg m4
      have m5 : 0 ≤ (s + 7 * (i : Int) * i * i + 3 * (i : Int)) % 30 ∧ (s + 7 * (i : Int) * i * i + 3 * (i : Int)) % 30 < 30 := by generalize s + 7 * (i : Int) * i * i + 3 * (i : Int) = Q at *; omega
      have z8 : IntKind.i64.wrap ((s + 7 * (i : Int) * i * i + 3 * (i : Int)) % 30) = (s + 7 * (i : Int) * i * i + 3 * (i : Int)) % 30 := by generalize (s + 7 * (i : Int) * i * i + 3 * (i : Int)) % 30 = Q at *; exact IntWalk.i64_in _ (by omega)
      have z9 : IntKind.i64.wrap (1 + (s + 7 * (i : Int) * i * i + 3 * (i : Int)) % 30) = 1 + (s + 7 * (i : Int) * i * i + 3 * (i : Int)) % 30 := by generalize (s + 7 * (i : Int) * i * i + 3 * (i : Int)) % 30 = Q at *; exact IntWalk.i64_in _ (by omega)
      have z10 : IntKind.i64.wrap (a + (1 + (s + 7 * (i : Int) * i * i + 3 * (i : Int)) % 30)) = a + (1 + (s + 7 * (i : Int) * i * i + 3 * (i : Int)) % 30) := by generalize (s + 7 * (i : Int) * i * i + 3 * (i : Int)) % 30 = Q at *; exact IntWalk.i64_in _ (by omega)
      have KM := Lib.hid (HM.out (a + (1 + (s + 7 * (i : Int) * i * i + 3 * (i : Int)) % 30)))
      rw [← HF1.out] at KM
      generalize G i = g at *
      clear m1 m2 m3 m4 m5
      go_wp2_with fail
      refine KA1.out.mono ?_
      rintro e w5 ⟨rfl, hb5⟩
      have S5 := Lib.hid (I2.out.ext hb5)
      clear hb5
      go_wp2_with fail
      refine (KC1.out _ S5.out.bel).mono ?_
      rintro e w6 ⟨rfl, rfl⟩
      have lg := (S5.out.rowLt 0 rfl).1
      have lf := (S5.out.rowLt 0 rfl).2
      have c0 := S5.out.rowAt 0 rfl (j := i) (tab_i64 _ hlt)
      go_wp2_with fail
      refine (KM.out _).mono ?_
      rintro e w7 ⟨rfl, rfl⟩
      clear z1 z2 z3 z4 z5 z6 z7 z8 z9 z10
      go_wp2_with fail
      go_roundg (gk - 1)
      case measure => have := I1.out; omega
      case rel => exact ⟨i + 1, by omega, by go_num, by have := I1.out; omega, by rw [← HS.out]; exact (S5.out.setRow 0 rfl i (.int .i64 g))⟩
end Go.Proofs.YtnienfgaidccpaaDoor
