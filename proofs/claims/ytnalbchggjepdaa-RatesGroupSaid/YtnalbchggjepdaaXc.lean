/- Rates: the walk of RatesKept. No condition. -/
import Derived.Test.YtnalbchggjepdaaXa
namespace Go.Proofs.Ytnalbchggjepdaa
open Go.RowKit Go.Shelf
attribute [local go_sem] Oper.semAt_some

/-- Whether a score is accepted by the threshold of the others. -/
def keptP (l : List Int) (num den x : Int) : Bool := decide (((atm l x : Nat) : Int) ≤ plaF (l.length - 1) num den)
theorem keptP_is {l : List Int} {i : Nat} {num den t : Int} (hi : i < l.length) (h : thrF (wo l i) num den = (t, 0)) (h0 : 0 ≤ l[i]) (h1 : l[i] ≤ 1000) :
    shareB num den = true ∧ decide (l[i] ≤ t) = keptP l num den l[i] := by
  obtain ⟨_, k2, k3⟩ := thrF_ok h
  refine ⟨k2, ?_⟩
  rw [k3, keptP, decide_eq_decide, limF_le (by simp only [inB, decide_eq_true_eq]; omega) k2, wo_len hi]
  have := wo_atm hi
  omega
theorem keptP_take {l : List Int} {i : Nat} (p : Int → Bool) (hi : i < l.length) : (l.take (i + 1)).countP p = (l.take i).countP p + if p l[i] = true then 1 else 0 := by
  rw [List.take_succ_eq_append_getElem hi, List.countP_append, List.countP_singleton]
theorem call_ret {f : FuncId} {args : Array Value} {w : World} {u : Value} (h : Calls Try.prog f args w fun e w' => e = .returned u ∧ Below w.heap.size w w') :
    Calls Try.prog f args w fun e w' => ∃ v, e = .returned v ∧ Below w.heap.size w w' ∧ v = u := h.mono fun _ _ ⟨h1, h2⟩ => ⟨u, h1, h2, rfl⟩
theorem without_rd (A : Option Addr) (l : List Int) (n c i : Nat) (w : World) (hr : Rd w A (ints l)) (hn : n = l.length) (hi : i < n) (hnb : n ≤ 1000) (hcap : n ≤ c) :
    Calls Try.prog 47 #[.slice A n c, .int .i64 (i : Nat)] w fun e w' => ∃ v, e = .returned v ∧ Below w.heap.size w w' ∧ ∃ A' c', v = .slice A' (n - 1) c' ∧ Rd w' A' (ints (wo l i)) :=
  (without_any A l n c i w hr hn hi hnb hcap).mono fun _ _ ⟨A', c', h1, _, h3⟩ => ⟨_, h1, h3.bel, A', c', rfl, h3.rd 0 rfl⟩
set_option maxRecDepth 100000 in
set_option maxHeartbeats 4000000 in
theorem ratesKept_walk (KA : AliveOk) (A : Option Addr) (l : List Int) (n c : Nat) (num den : Int) (w : World) (hr : Rd w A (ints l)) (hn : n = l.length) (hcap : n ≤ c) :
    Calls Try.prog 7 #[.slice A n c, .agg #[.int .i64 num, .int .i64 den]] w fun e w' => e = .returned (.bool true) ∧ Below w.heap.size w w' := by
  obtain ⟨B, hB⟩ : ∃ B, B = w.heap.size := ⟨_, rfl⟩
  have S0 := Lib.hid ((Own.start w).new' 23 #[.int .i64 num, .int .i64 den] hB)
  replace hB := Lib.hid hB
  by_cases hbig : 61 < n ∨ n = 0
  · have hb : 61 < n ∨ n = 0 := hbig
    clear hr hn hcap hbig
    rcases hb with hb | rfl
    · have hb : (61 : Int) < (n : Int) := by omega
      go_enter Try.func7, Try.ntmps7
      go_wp2_with fail
      refine (KA _).mono ?_
      rintro e w1 ⟨rfl, hb1⟩
      have S1 := Lib.hid (S0.out.ext hb1)
      clear hb1 S0
      go_wp2_with fail
      go_ret
      exact ⟨rfl, S1.out.bel⟩
    · go_enter Try.func7, Try.ntmps7
      go_wp2_with fail
      refine (KA _).mono ?_
      rintro e w1 ⟨rfl, hb1⟩
      have S1 := Lib.hid (S0.out.ext hb1)
      clear hb1 S0
      go_wp2_with fail
      go_ret
      exact ⟨rfl, S1.out.bel⟩
  have hb : ¬ (61 : Int) < (n : Int) := by omega
  have hb2 : ((n : Int) == 0) = false := by simp; omega
  have hn61 : n ≤ 61 := by omega
  have hn0 : 0 < n := by omega
  have HR := Lib.hid hr
  have HN := Lib.hid hn
  have HC := Lib.hid hcap
  clear hr hn hbig hcap
  go_enter Try.func7, Try.ntmps7
  go_wp2_with fail
  refine (KA _).mono ?_
  rintro e w1 ⟨rfl, hb1⟩
  have S1 := Lib.hid (S0.out.ext hb1)
  clear hb1 S0
  rw [← hB.out]
  go_wp2_with fail
  go_loopg [6, 26] n (fun q u6 u26 wr => ∃ i a : Nat, (i ≤ n ∧ a ≤ i) ∧ u26 = .int .i64 (i : Nat) ∧ u6 = .int .i64 (a : Nat) ∧ Hid (i + q = n ∧ (i = 0 ∨ shareB num den = true) ∧ a = (l.take i).countP (keptP l num den) ∧ Own w wr [box B 23 [.int .i64 num, .int .i64 den]]))
  case atStart => exact ⟨0, 0, by omega, rfl, rfl, by omega, .inl rfl, rfl, S1.out⟩
  case round =>
    obtain ⟨i, a, ⟨hi, hai⟩, rfl, rfl, hI⟩ := hrel
    have I1 := Lib.hid hI.out.1
    have I3 := Lib.hid hI.out.2.1
    have I4 := Lib.hid hI.out.2.2.1
    have I2 := Lib.hid hI.out.2.2.2
    clear hI S1
    by_cases hlt : i < n
    · as_aux_lemma =>
      have hil : i < l.length := by rw [← HN.out]; exact hlt
      have hix : (i : Int) < (n : Int) := by omega
      obtain ⟨t, f, ht⟩ : ∃ a b, thrF (wo l i) num den = (a, b) := ⟨_, _, rfl⟩
      have K1 := Lib.hid (fun W (h : Below w.heap.size w W) => without_rd A l n c i W (HR.out.below h) HN.out hlt (by omega) HC.out)
      have K2 := Lib.hid (fun A' c' W (h : Rd W A' (ints (wo l i))) => threshold_any A' (wo l i) (n - 1) c' num den W h (by rw [wo_len hil, HN.out]) (by omega))
      rw [ht] at K2
      have HX := Lib.hid (fun (hf : f = 0) => keptP_is hil (by rw [ht, hf] : thrF (wo l i) num den = (t, 0)))
      have HCT := Lib.hid (keptP_take (keptP l num den) hil)
      have HCELL := Lib.hid (fun W (h : Below w.heap.size w W) => (HR.out.below h).int hil)
      generalize wo l i = z at *
      generalize l[i] = x at *
      clear hil ht
      go_upto_region 8 with (fail)
      refine wp_region_table 80 [(30, .is (.slice A n c)), (31, .is (.int .i64 (i : Nat))), (32, .rd (fun A c => .slice A (n - 1) c) (ints z)), (33, .is (.agg #[.int .i64 num, .int .i64 den])), (34, .is (.tuple #[.int .i64 t, .int .i64 f])), (29, .is (.tuple #[.int .i64 t, .int .i64 f])), (35, .is (.int .i64 t)), (36, .is (.int .i64 f)), (8, .is (.int .i64 t)), (9, .is (.int .i64 f))] (I2.out) (by kernel_rfl) (by kernel_rfl) [30, 31, 32, 33, 34, 29, 35, 36, 8, 9] (by kernel_rfl) rfl (by kernel_rfl) ?_ ?_
      · refine ⟨StepT.of [] (by kernel_rfl) ?_, ?_⟩
        · intro v hO
          exact StepG.val 30 (by kernel_rfl) (by kernel_rfl) rfl (by simp) rfl (Below.refl _ _) rfl
        refine ⟨StepT.of [] (by kernel_rfl) ?_, ?_⟩
        · intro v hO
          exact StepG.val 31 (by kernel_rfl) (by kernel_rfl) rfl (by simp) rfl (Below.refl _ _) rfl
        refine ⟨StepT.of [30, 31] (by kernel_rfl) ?_, ?_⟩
        · intro v hO x30 h30 x31 h31
          obtain rfl : x30 = (.slice A n c) := h30
          obtain rfl : x31 = (.int .i64 (i : Nat)) := h31
          exact StepG.call 32 (by kernel_rfl) (by kernel_rfl) rfl (by simp [Act.put]) rfl (K1.out v hO.bel)
        refine ⟨StepT.of [] (by kernel_rfl) ?_, ?_⟩
        · intro v hO
          obtain ⟨t0, t1, _⟩ := (hO.bx 0 rfl).c2
          have tl := (hO.bx 0 rfl).2.2
          exact StepG.val 33 (by kernel_rfl) (by go_simp) rfl (by simp) rfl (Below.refl _ _) rfl
        refine ⟨StepT.of [32, 33] (by kernel_rfl) ?_, ?_⟩
        · intro v hO x32 h32 x33 h33
          obtain ⟨A32, c32, rfl, r32⟩ := h32
          obtain rfl : x33 = (.agg #[.int .i64 num, .int .i64 den]) := h33
          exact StepG.call 34 (by kernel_rfl) (by kernel_rfl) rfl (by simp [Act.put]) rfl (call_ret (K2.out A32 c32 v r32))
        refine ⟨StepT.of [34] (by kernel_rfl) ?_, ?_⟩
        · intro v hO x34 h34
          obtain rfl : x34 = (.tuple #[.int .i64 t, .int .i64 f]) := h34
          exact StepG.val 29 (by kernel_rfl) (by kernel_rfl) rfl (by simp [Act.put]) rfl (Below.refl _ _) rfl
        refine ⟨StepT.of [29] (by kernel_rfl) ?_, ?_⟩
        · intro v hO x29 h29
          obtain rfl : x29 = (.tuple #[.int .i64 t, .int .i64 f]) := h29
          exact StepG.val 35 (by kernel_rfl) (by kernel_rfl) rfl (by simp [Act.put]) rfl (Below.refl _ _) rfl
        refine ⟨StepT.of [29] (by kernel_rfl) ?_, ?_⟩
        · intro v hO x29 h29
          obtain rfl : x29 = (.tuple #[.int .i64 t, .int .i64 f]) := h29
          exact StepG.val 36 (by kernel_rfl) (by kernel_rfl) rfl (by simp [Act.put]) rfl (Below.refl _ _) rfl
        refine ⟨StepT.of [35] (by kernel_rfl) ?_, ?_⟩
        · intro v hO x35 h35
          obtain rfl : x35 = (.int .i64 t) := h35
          exact StepG.val 8 (by kernel_rfl) (by kernel_rfl) rfl (by simp [Act.put]) rfl (Below.refl _ _) rfl
        refine ⟨StepT.of [36] (by kernel_rfl) ?_, ?_⟩
        · intro v hO x36 h36
          obtain rfl : x36 = (.int .i64 f) := h36
          exact StepG.val 9 (by kernel_rfl) (by kernel_rfl) rfl (by simp [Act.put]) rfl (Below.refl _ _) rfl
        exact trivial
      · intro w3 hO x30 h30 x31 h31 x32 h32 x33 h33 x34 h34 x29 h29 x35 h35 x36 h36 x8 h8 x9 h9
        obtain rfl : x30 = (.slice A n c) := h30
        obtain rfl : x31 = (.int .i64 (i : Nat)) := h31
        obtain ⟨A32, c32, rfl, r32⟩ := h32
        obtain rfl : x33 = (.agg #[.int .i64 num, .int .i64 den]) := h33
        obtain rfl : x34 = (.tuple #[.int .i64 t, .int .i64 f]) := h34
        obtain rfl : x29 = (.tuple #[.int .i64 t, .int .i64 f]) := h29
        obtain rfl : x35 = (.int .i64 t) := h35
        obtain rfl : x36 = (.int .i64 f) := h36
        obtain rfl : x8 = (.int .i64 t) := h8
        obtain rfl : x9 = (.int .i64 f) := h9
        have S3 := Lib.hid hO
        clear hO I2 r32
        unfold stepFor
        simp only [Act.put, List.setIfInBounds_toArray, List.set_cons_zero, List.set_cons_succ]
        by_cases hf : f = 0
        case neg =>
          have hf' : (f == 0) = false := by simpa using hf
          as_aux_lemma =>
          go_wp2_with fail
          go_ret
          exact ⟨rfl, S3.out.bel⟩
        subst hf
        have HX2 := Lib.hid (HX.out rfl)
        clear HX
        obtain ⟨bb, off, rfl, c0, hbs⟩ := HCELL.out w3 S3.out.bel
        by_cases hx0 : x < 0
        · as_aux_lemma =>
          go_wp2_with fail
          go_ret
          exact ⟨rfl, S3.out.bel⟩
        by_cases hx1 : 1000 < x
        · as_aux_lemma =>
          go_wp2_with fail
          go_ret
          exact ⟨rfl, S3.out.bel⟩
        obtain ⟨hs, hd⟩ := HX2.out (by omega) (by omega)
        rw [← hd] at HCT
        have HS := Lib.hid hs
        clear hs hd HX2
        by_cases hxt : x ≤ t
        · as_aux_lemma =>
          have HA := Lib.hid (show a + 1 = (l.take (i + 1)).countP (keptP l num den) by rw [HCT.out, ← I4.out]; simp [hxt])
          have z1 : IntKind.i64.wrap ((a : Int) + 1) = (a : Int) + 1 := IntWalk.i64_in _ (by omega)
          go_wp2_with fail
          go_roundg (gk - 1)
          case measure => have := I1.out; omega
          case rel => exact ⟨i + 1, a + 1, by omega, by go_num, by go_num, by have := I1.out; omega, .inr HS.out, HA.out, S3.out⟩
        · as_aux_lemma =>
          have HA := Lib.hid (show a = (l.take (i + 1)).countP (keptP l num den) by rw [HCT.out, ← I4.out]; simp [hxt])
          go_wp2_with fail
          go_roundg (gk - 1)
          case measure => have := I1.out; omega
          case rel => exact ⟨i + 1, a, by omega, by go_num, rfl, by have := I1.out; omega, .inr HS.out, HA.out, S3.out⟩
    · as_aux_lemma =>
      obtain rfl : i = n := by omega
      have hni : ¬ (i : Int) < (i : Int) := by omega
      have hsh : shareB num den = true := by
        rcases I3.out with h | h
        · omega
        · exact h
      have HL := kept_law (l := l) hsh (by rw [← HN.out]; exact hn0)
      have HT : l.take i = l := by rw [List.take_of_length_le (by rw [← HN.out]; exact Nat.le_refl _)]
      have h4 : a = l.countP (keptP l num den) := by have := I4.out; rwa [HT] at this
      change (((l.countP (keptP l num den) : Nat) : Int)) * den ≤ num * (l.length : Int) at HL
      rw [← h4, ← HN.out] at HL
      obtain ⟨s1, s2, s3⟩ := share_of hsh
      have p1 := mul_bd (a := (a : Int)) (b := den) (A := 61) (B := 1000) (by omega) (by omega) (by omega) (by omega)
      have p2 := mul_bd (a := num) (b := (i : Int)) (A := 1000) (B := 61) (by omega) (by omega) (by omega) (by omega)
      have z1 : IntKind.i64.wrap ((a : Int) * den) = (a : Int) * den := IntWalk.i64_in _ (by omega)
      have z2 : IntKind.i64.wrap (num * (i : Int)) = num * (i : Int) := IntWalk.i64_in _ (by omega)
      have K4 := Lib.hid (fun W => validShare_any num den W)
      rw [hsh] at K4
      clear p1 p2 s1 s2 s3 hsh h4 HT I4 I3
      obtain ⟨c0, c1, _⟩ := (I2.out.bx 0 rfl).c2
      have cl := (I2.out.bx 0 rfl).2.2
      go_wp2_with fail
      refine (K4.out _).mono ?_
      rintro e w5 ⟨rfl, hb5⟩
      have S5 := Lib.hid (I2.out.ext hb5)
      clear hb5 I2 K4 c0 c1 cl
      obtain ⟨c0, c1, _⟩ := (S5.out.bx 0 rfl).c2
      have cl := (S5.out.bx 0 rfl).2.2
      go_wp2_with fail
      go_ret
      exact ⟨by first | rfl | simp [HL], S5.out.bel⟩
end Go.Proofs.Ytnalbchggjepdaa
