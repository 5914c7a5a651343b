/- Rates: the walk of RatesChances. No condition. -/
import Derived.Test.YtnalbchggjepdaaXc
namespace Go.Proofs.Ytnalbchggjepdaa
open Go.RowKit Go.Shelf
attribute [local go_sem] Oper.semAt_some

def blk : Value → Nat
  | .pointer (some ⟨b, _, _⟩) => b
  | _ => 0
theorem cha_is {l : List Int} {i : Nat} {x y : Int} (hi : i < l.length) (h : chaF (wo l i) l[i] = ((x, y), 0)) : y = (l.length : Int) ∧ x = ((atm l l[i] : Nat) : Int) ∧ 1 ≤ x ∧ x ≤ y := by
  obtain ⟨_, _, k3, k4⟩ := chaF_ok h
  rw [wo_len hi] at k4
  have := wo_atm hi
  have := atm_le l l[i]
  refine ⟨by omega, by omega, by omega, by omega⟩
def fewP (l : List Int) (k x : Int) : Bool := decide (((atm l x : Nat) : Int) ≤ k)
theorem few_law (l : List Int) {k : Int} (hk : 0 ≤ k) : ((l.countP (fewP l k) : Nat) : Int) ≤ k := by
  have := count_law l k.toNat
  have e : l.countP (fewP l k) = l.countP fun x => decide (atm l x ≤ k.toNat) := by
    refine List.countP_congr fun x _ => ?_
    rw [fewP, decide_eq_true_iff, decide_eq_true_iff]
    omega
  rw [e]
  omega
/-- The state of the region: the list without one score, and the chance in its own block. -/
def ChJ (w : World) (z : List Int) (n : Nat) (x y : Int) (L : Nat → Bool) (vs : Tmp → Value) (w' : World) : Prop :=
  Own w w' [cond (L 11) (box (blk (vs 8)) 23 [cond (L 12) (.int .i64 x) (.int .i64 0), cond (L 12) (.int .i64 y) (.int .i64 0)]) (row 3 1 (.slice none 0 0) 0 []), cond (L 2) (row 3 1 (vs 31) (n - 1) (ints z)) (row 3 1 (.slice none 0 0) 0 [])] ∧
    (L 11 = true → vs 8 = .pointer (some ⟨blk (vs 8), 0, none⟩))
set_option maxRecDepth 100000 in
set_option maxHeartbeats 4000000 in
theorem ratesChances_walk (KA : AliveOk) (A : Option Addr) (l : List Int) (n c : Nat) (k : Int) (w : World) (hr : Rd w A (ints l)) (hn : n = l.length) (hcap : n ≤ c) :
    Calls Try.prog 8 #[.slice A n c, .int .i64 k] w fun e w' => e = .returned (.bool true) ∧ Below w.heap.size w w' := by
  have S0 := Lib.hid (Own.start w)
  by_cases hbig : 61 < n ∨ k < 0
  · have hb : 61 < n ∨ k < 0 := hbig
    clear hr hn hcap hbig
    by_cases h1 : 61 < n
    · have hb : (61 : Int) < (n : Int) := by omega
      clear h1
      go_enter Try.func8, Try.ntmps8
      go_wp2_with fail
      refine (KA _).mono ?_
      rintro e w1 ⟨rfl, hb1⟩
      have S1 := Lib.hid (S0.out.ext hb1)
      clear hb1 S0
      go_wp2_with fail
      go_ret
      exact ⟨rfl, S1.out.bel⟩
    · have hb1 : ¬ (61 : Int) < (n : Int) := by omega
      have hb2 : k < 0 := by omega
      clear h1 hb
      go_enter Try.func8, Try.ntmps8
      go_wp2_with fail
      refine (KA _).mono ?_
      rintro e w1 ⟨rfl, hb1⟩
      have S1 := Lib.hid (S0.out.ext hb1)
      clear hb1 S0
      go_wp2_with fail
      go_ret
      exact ⟨rfl, S1.out.bel⟩
  have hb : ¬ (61 : Int) < (n : Int) := by omega
  have hb2 : ¬ k < 0 := by omega
  have hn61 : n ≤ 61 := by omega
  have HR := Lib.hid hr
  have HN := Lib.hid hn
  have HC := Lib.hid hcap
  have HFL := Lib.hid (few_law l (k := k) (by omega))
  clear hr hn hbig hcap
  go_enter Try.func8, Try.ntmps8
  go_wp2_with fail
  refine (KA _).mono ?_
  rintro e w1 ⟨rfl, hb1⟩
  have S1 := Lib.hid (S0.out.ext hb1)
  clear hb1 S0
  go_wp2_with fail
  go_loopg [6, 25] n (fun q u6 u25 wr => ∃ i a : Nat, (i ≤ n ∧ a ≤ i) ∧ u25 = .int .i64 (i : Nat) ∧ u6 = .int .i64 (a : Nat) ∧ Hid (i + q = n ∧ a = (l.take i).countP (fewP l k) ∧ Own w wr []))
  case atStart => exact ⟨0, 0, by omega, rfl, rfl, by omega, rfl, S1.out⟩
  case round =>
    obtain ⟨i, a, ⟨hi, hai⟩, rfl, rfl, hI⟩ := hrel
    have I1 := Lib.hid hI.out.1
    have I4 := Lib.hid hI.out.2.1
    have I2 := Lib.hid hI.out.2.2
    clear hI S1
    by_cases hlt : i < n
    · as_aux_lemma =>
      have hil : i < l.length := by rw [← HN.out]; exact hlt
      have hix : (i : Int) < (n : Int) := by omega
      obtain ⟨x, y, f, ht⟩ : ∃ a b c, chaF (wo l i) l[i] = ((a, b), c) := ⟨_, _, _, rfl⟩
      have K1 := Lib.hid (fun W (h : Below w.heap.size w W) => without_any A l n c i W (HR.out.below h) HN.out hlt (by omega) HC.out)
      have K2 := Lib.hid (fun A' c' W (h : Rd W A' (ints (wo l i))) => chance_any A' (wo l i) (n - 1) c' l[i] W h (by rw [wo_len hil, HN.out]) (by omega))
      rw [ht] at K2
      have HX := Lib.hid (fun (hf : f = 0) => cha_is hil (by rw [ht, hf] : chaF (wo l i) l[i] = ((x, y), 0)))
      rw [← HN.out] at HX
      have HCT := Lib.hid (keptP_take (fewP l k) hil)
      obtain ⟨bb, off, rfl, -, -⟩ := HR.out.int hil
      have HCELL := Lib.hid (fun W (h : Below w.heap.size w W) => (show W.cell? ⟨bb, off + i, none⟩ = some (.int .i64 l[i]) ∧ bb < W.heap.size by
        obtain ⟨b1, o1, e1, c1, c2⟩ := (HR.out.below h).int hil
        injection e1 with e1
        injection e1 with e1 e2
        subst e1 e2
        exact ⟨c1, c2⟩))
      have HFP := Lib.hid (show fewP l k l[i] = decide (((atm l l[i] : Nat) : Int) ≤ k) from rfl)
      generalize wo l i = z at *
      generalize fewP l k l[i] = fp at *
      generalize ((atm l l[i] : Nat) : Int) = at0 at *
      generalize l[i] = s at *
      clear hil ht
      go_upto_region 8 with (fail)
      refine wp_region_state 72 [(29, .slice (some ⟨bb, off, none⟩) n c), (30, .int .i64 (i : Nat)), (32, .slice (some ⟨bb, off, none⟩) n c), (33, .int .i64 (i : Nat)), (34, .pointer (some ⟨bb, off + i, none⟩)), (35, .int .i64 s), (36, .tuple #[.agg #[.int .i64 x, .int .i64 y], .int .i64 f]), (28, .tuple #[.agg #[.int .i64 x, .int .i64 y], .int .i64 f]), (37, .agg #[.int .i64 x, .int .i64 y]), (38, .int .i64 f), (9, .int .i64 f)] (ChJ w z n x y) (by kernel_rfl) (by kernel_rfl) [29, 30, 31, 32, 33, 34, 35, 36, 28, 37, 38, 8, 9] (by kernel_rfl) rfl (by kernel_rfl) 14 rfl ?_ ?_ ?_
      · exact fun L hL => ⟨(((I2.out.nil 3 1).nil 3 1).ext (Below.refl _ _).drew).cast (by simp [hL 11 (by decide), hL 2 (by decide)]), fun h => (by rw [hL 11 (by decide)] at h; cases h)⟩
      · refine ⟨StepS.of [] (by kernel_rfl) ?_, ?_⟩
        · intro L vs wq hL hA hC hJ
          unfold forAll
          exact StepV.val 29 (by kernel_rfl) (by kernel_rfl) rfl (by simp) rfl rfl hJ
        refine ⟨StepS.of [] (by kernel_rfl) ?_, ?_⟩
        · intro L vs wq hL hA hC hJ
          unfold forAll
          exact StepV.val 30 (by kernel_rfl) (by kernel_rfl) rfl (by simp) rfl rfl hJ
        refine ⟨StepS.of [29, 30] (by kernel_rfl) ?_, ?_⟩
        · intro L vs wq hL hA hC hJ h29 h30
          rw [(show vs 29 = .slice (some ⟨bb, off, none⟩) n c from h29), (show vs 30 = .int .i64 (i : Nat) from h30)]
          unfold forAll
          refine StepV.call (f := 47) (w1 := wq) (args := #[.slice (some ⟨bb, off, none⟩) n c, .int .i64 (i : Nat)]) 31 (by kernel_rfl) (by kernel_rfl) rfl (by simp [Act.put]) rfl ?_
          have K := Own.cast (qs := [cond (L 11) (box (blk (vs 8)) 23 [cond (L 12) (.int .i64 x) (.int .i64 0), cond (L 12) (.int .i64 y) (.int .i64 0)]) (row 3 1 (.slice none 0 0) 0 []), row 3 1 (.slice none 0 0) 0 []]) hJ.1 (by simp [hL])
          refine (K1.out wq K.bel).mono ?_
          rintro e w8 ⟨A8, c8, rfl, _, hO8⟩
          exact ⟨_, rfl, trivial, ((K.call hO8).sub [1, 0] (by decide) (qs := [cond (L 11) (box (blk (vs 8)) 23 [cond (L 12) (.int .i64 x) (.int .i64 0), cond (L 12) (.int .i64 y) (.int .i64 0)]) (row 3 1 (.slice none 0 0) 0 []), row 3 1 (.slice A8 (n - 1) c8) (n - 1) (ints z)]) rfl).cast (by simp [upd, updv]), hJ.2⟩
        refine ⟨StepS.of [] (by kernel_rfl) ?_, ?_⟩
        · intro L vs wq hL hA hC hJ
          unfold forAll
          exact StepV.val 32 (by kernel_rfl) (by kernel_rfl) rfl (by simp) rfl rfl hJ
        refine ⟨StepS.of [] (by kernel_rfl) ?_, ?_⟩
        · intro L vs wq hL hA hC hJ
          unfold forAll
          exact StepV.val 33 (by kernel_rfl) (by kernel_rfl) rfl (by simp) rfl rfl hJ
        refine ⟨StepS.of [32, 33] (by kernel_rfl) ?_, ?_⟩
        · intro L vs wq hL hA hC hJ h32 h33
          rw [(show vs 32 = .slice (some ⟨bb, off, none⟩) n c from h32), (show vs 33 = .int .i64 (i : Nat) from h33)]
          unfold forAll
          exact StepV.val 34 (by kernel_rfl) (by go_simp) rfl (by simp [Act.put]) rfl rfl hJ
        refine ⟨StepS.of [34] (by kernel_rfl) ?_, ?_⟩
        · intro L vs wq hL hA hC hJ h34
          rw [(show vs 34 = .pointer (some ⟨bb, off + i, none⟩) from h34)]
          unfold forAll
          obtain ⟨t0, t1⟩ := HCELL.out wq hJ.1.bel
          exact StepV.val 35 (by kernel_rfl) (by go_simp) rfl (by simp [Act.put]) rfl rfl hJ
        refine ⟨StepS.of [31, 35] (by kernel_rfl) ?_, ?_⟩
        · intro L vs wq hL hA hC hJ h31 h35
          rw [(show vs 35 = .int .i64 s from h35)]
          unfold forAll
          have h2 := afterS hA (i := 2) (by kernel_rfl)
          have K := Own.cast (qs := [cond (L 11) (box (blk (vs 8)) 23 [cond (L 12) (.int .i64 x) (.int .i64 0), cond (L 12) (.int .i64 y) (.int .i64 0)]) (row 3 1 (.slice none 0 0) 0 []), row 3 1 (vs 31) (n - 1) (ints z)]) hJ.1 (by simp [h2])
          obtain ⟨A8, c8, e8, hr8⟩ := rd_of_own (K.get 1 rfl)
          rw [e8]
          refine StepV.call (f := 27) (w1 := wq) (args := #[.slice A8 (n - 1) c8, .int .i64 s]) 36 (by kernel_rfl) (by kernel_rfl) rfl (by simp [Act.put]) rfl ?_
          refine (K2.out A8 c8 wq hr8.rd).mono ?_
          rintro e w8 ⟨rfl, hb8⟩
          exact ⟨_, rfl, rfl, hJ.1.ext hb8, hJ.2⟩
        refine ⟨StepS.of [36] (by kernel_rfl) ?_, ?_⟩
        · intro L vs wq hL hA hC hJ h36
          rw [(show vs 36 = .tuple #[.agg #[.int .i64 x, .int .i64 y], .int .i64 f] from h36)]
          unfold forAll
          exact StepV.val 28 (by kernel_rfl) (by kernel_rfl) rfl (by simp [Act.put]) rfl rfl hJ
        refine ⟨StepS.of [28] (by kernel_rfl) ?_, ?_⟩
        · intro L vs wq hL hA hC hJ h28
          rw [(show vs 28 = .tuple #[.agg #[.int .i64 x, .int .i64 y], .int .i64 f] from h28)]
          unfold forAll
          exact StepV.val 37 (by kernel_rfl) (by kernel_rfl) rfl (by simp [Act.put]) rfl rfl hJ
        refine ⟨StepS.of [28] (by kernel_rfl) ?_, ?_⟩
        · intro L vs wq hL hA hC hJ h28
          rw [(show vs 28 = .tuple #[.agg #[.int .i64 x, .int .i64 y], .int .i64 f] from h28)]
          unfold forAll
          exact StepV.val 38 (by kernel_rfl) (by kernel_rfl) rfl (by simp [Act.put]) rfl rfl hJ
        refine ⟨StepS.of [] (by kernel_rfl) ?_, ?_⟩
        · intro L vs wq hL hA hC hJ
          unfold forAll
          have h12 := hC.no (j := 12) (i := 11) (by kernel_rfl) hL
          have K := Own.cast (qs := [row 3 1 (.slice none 0 0) 0 [], cond (L 2) (row 3 1 (vs 31) (n - 1) (ints z)) (row 3 1 (.slice none 0 0) 0 [])]) hJ.1 (by simp [hL])
          have K2 := (K.tail.new' 23 #[.int .i64 0, .int .i64 0] (B := wq.heap.size) rfl)
          exact StepV.val 8 (v := .pointer (some ⟨wq.heap.size, 0, none⟩)) (w' := wq.alloc (.cells #[.int .i64 0, .int .i64 0] 23)) (by kernel_rfl) (by go_simp) rfl (by simp) rfl trivial ⟨K2.cast (by simp [upd, updv, h12, blk]), fun _ => rfl⟩
        refine ⟨StepS.of [8, 37] (by kernel_rfl) ?_, ?_⟩
        · intro L vs wq hL hA hC hJ h8 h37
          rw [(show vs 37 = .agg #[.int .i64 x, .int .i64 y] from h37)]
          unfold forAll
          have h11 := afterS hA (i := 11) (by kernel_rfl)
          have e8 := hJ.2 h11
          have K := Own.cast (qs := [box (blk (vs 8)) 23 [.int .i64 0, .int .i64 0], cond (L 2) (row 3 1 (vs 31) (n - 1) (ints z)) (row 3 1 (.slice none 0 0) 0 [])]) hJ.1 (by simp [hL, h11])
          generalize hbk : blk (vs 8) = B8 at *
          rw [e8]
          obtain ⟨t0, t1, tf⟩ := (K.bx 0 rfl).c2
          have tl := (K.bx 0 rfl).2.2
          have K2 := (K.set 0 rfl 0 (.int .i64 x)).set 0 rfl 1 (.int .i64 y)
          exact StepV.skip (by kernel_rfl) (by go_simp) rfl rfl ⟨K2.cast (by simp [upd, h11, hbk]), fun _ => by rw [hbk]; exact e8⟩
        refine ⟨StepS.of [38] (by kernel_rfl) ?_, ?_⟩
        · intro L vs wq hL hA hC hJ h38
          rw [(show vs 38 = .int .i64 f from h38)]
          unfold forAll
          exact StepV.val 9 (by kernel_rfl) (by kernel_rfl) rfl (by simp [Act.put]) rfl rfl hJ
        exact trivial
      · intro vs w3 hJ h29 h30 h31 h32 h33 h34 h35 h36 h28 h37 h38 h8 h9
        rw [(show vs 29 = .slice (some ⟨bb, off, none⟩) n c from h29), (show vs 30 = .int .i64 (i : Nat) from h30), (show vs 32 = .slice (some ⟨bb, off, none⟩) n c from h32), (show vs 33 = .int .i64 (i : Nat) from h33), (show vs 34 = .pointer (some ⟨bb, off + i, none⟩) from h34), (show vs 35 = .int .i64 s from h35), (show vs 36 = .tuple #[.agg #[.int .i64 x, .int .i64 y], .int .i64 f] from h36), (show vs 28 = .tuple #[.agg #[.int .i64 x, .int .i64 y], .int .i64 f] from h28), (show vs 37 = .agg #[.int .i64 x, .int .i64 y] from h37), (show vs 38 = .int .i64 f from h38), (show vs 9 = .int .i64 f from h9)]
        clear h29 h30 h31 h32 h33 h34 h35 h36 h28 h37 h38 h8 h9
        obtain ⟨K, K3⟩ := hJ
        have e8 := K3 rfl
        rw [e8]
        generalize blk (vs 8) = B8 at *
        have S3 := Lib.hid ((K.cast (qs := [box B8 23 [.int .i64 x, .int .i64 y], row 3 1 (vs 31) (n - 1) (ints z)]) rfl).sub [0] (by decide) (qs := [box B8 23 [.int .i64 x, .int .i64 y]]) rfl)
        clear K K3 e8
        unfold forAll
        simp only [Act.put, List.setIfInBounds_toArray, List.set_cons_zero, List.set_cons_succ]
        by_cases hf : f = 0
        case neg =>
          have hf' : (f == 0) = false := by simpa using hf
          as_aux_lemma =>
          go_wp2_with fail
          go_ret
          exact ⟨rfl, S3.out.bel⟩
        subst hf
        obtain ⟨rfl, q2, q3, q4⟩ := HX.out rfl
        rw [← q2] at HFP
        clear HX q2
        obtain ⟨t0, t1, _⟩ := (S3.out.bx 0 rfl).c2
        have tl := (S3.out.bx 0 rfl).2.2
        have q5 : ¬ x < 1 := by omega
        have q6 : ¬ (n : Int) < x := by omega
        clear q3 q4
        by_cases hxk : x ≤ k
        · as_aux_lemma =>
          have HA := Lib.hid (show a + 1 = (l.take (i + 1)).countP (fewP l k) by rw [HCT.out, ← I4.out, HFP.out]; simp [hxk])
          have z1 : IntKind.i64.wrap ((a : Int) + 1) = (a : Int) + 1 := IntWalk.i64_in _ (by omega)
          go_wp2_with fail
          go_roundg (gk - 1)
          case measure => have := I1.out; omega
          case rel => exact ⟨i + 1, a + 1, by omega, by go_num, by go_num, by have := I1.out; omega, HA.out, S3.out.tail⟩
        · as_aux_lemma =>
          have HA := Lib.hid (show a = (l.take (i + 1)).countP (fewP l k) by rw [HCT.out, ← I4.out, HFP.out]; simp [hxk])
          go_wp2_with fail
          go_roundg (gk - 1)
          case measure => have := I1.out; omega
          case rel => exact ⟨i + 1, a, by omega, by go_num, rfl, by have := I1.out; omega, HA.out, S3.out.tail⟩
    · as_aux_lemma =>
      obtain rfl : i = n := by omega
      have hni : ¬ (i : Int) < (i : Int) := by omega
      have HT : l.take i = l := by rw [List.take_of_length_le (by rw [← HN.out]; exact Nat.le_refl _)]
      have h4 : a = l.countP (fewP l k) := by have := I4.out; rwa [HT] at this
      have HL := HFL.out
      rw [← h4] at HL
      clear h4 HT I4 HFL
      go_wp2_with fail
      go_ret
      exact ⟨by first | rfl | simp [HL], I2.out.bel⟩
end Go.Proofs.Ytnalbchggjepdaa
