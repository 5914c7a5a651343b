/- Rates: the thresholds of groups: the program. No condition. -/
import Derived.Test.YtnalbchggjepdaaGh
namespace Go.Proofs.Ytnalbchggjepdaa
open Go.RowKit Go.Maps Go.ChangeShapes Go.Shelf
attribute [local go_sem] Oper.semAt_some

theorem grown_setCell (w : World) (a : Addr) (u : Value) : w.grownBy (w.setCell a u) (some a.block) :=
  ⟨rfl, rfl, rfl, by simp, fun k _ hk => heap_setCell_other w a k u (fun e => hk (by rw [e]))⟩
theorem Ow.rd_in {w w' : World} {base : Nat} {A : Option Addr} {xs : List Value} (h : Ow w base A xs) (hs : w.heap.size ≤ w'.heap.size) (hk : ∀ b, base ≤ b → b < w.heap.size → w'.heap[b]? = w.heap[b]?) : Rd w' A xs := by
  rcases h with h | ⟨b, off, h1, h2, h3, h4, _⟩
  · exact .inl h
  · refine .inr ⟨b, off, h1, by omega, fun j u hu => ?_⟩
    have e := h4 j u hu
    unfold World.cell? at e ⊢
    rw [hk b h2 h3]
    exact e
theorem ints_set (Z : List Int) (g : Nat) (t : Int) : ints (Z.set g t) = (ints Z).set g (.int .i64 t) := by simp [ints, List.map_set]
set_option maxRecDepth 100000 in
set_option maxHeartbeats 8000000 in
theorem thresholds_any (A : Option Addr) (l : List Dbl) (n c : Nat) (num den : Int) (w : World) (hr : Rd w A (flat encD l)) (hn : n = l.length) (hl : n ≤ 1000000) :
    Calls Try.prog 34 #[.slice A n c, .agg #[.int .i64 num, .int .i64 den]] w fun e w' => ∃ A' c', e = .returned (.tuple #[.slice A' (thsN l num den) c', .int .i64 (thsE l num den)]) ∧ Own w w' [row 3 1 (.slice A' (thsN l num den) c') (thsN l num den) (ints (thsR l num den))] := by
  have HN := Lib.hid hn
  have HR := Lib.hid hr
  obtain ⟨B0, hB0⟩ : ∃ B, B = w.heap.size := ⟨_, rfl⟩
  have S0 := Lib.hid ((Own.start w).new' 23 #[.int .i64 num, .int .i64 den] hB0)
  replace hB0 := Lib.hid hB0
  have K1 := Lib.hid (checkTrials_any A l n c _ (hr.below S0.out.bel) hn hl)
  by_cases h0 : trlE l = 0
  case neg => as_aux_lemma =>
    have HE := Lib.hid (show thsE l num den = trlE l by unfold thsE; rw [if_neg h0])
    have HC := Lib.hid (show thsR l num den = [] ∧ thsN l num den = 0 by unfold thsR thsN; rw [HE.out, if_neg h0, if_neg h0]; exact ⟨rfl, rfl⟩)
    rw [HE.out, HC.out.1, HC.out.2]
    generalize trlE l = v at *
    have h0' : (v == 0) = false := by simpa using h0
    clear hr hn h0
    go_enter Try.func34, Try.ntmps34
    go_wp2_with fail
    refine K1.out.mono ?_
    rintro e w1 ⟨rfl, hb1⟩
    have S1 := Lib.hid ((S0.out.ext hb1).nil 3 1)
    clear hb1 K1 S0
    go_wp2_with fail
    go_ret2
    exact ⟨none, 0, rfl, S1.out.sub [0] (by decide) rfl⟩
  rw [h0] at K1
  obtain ⟨b1, b2, b3⟩ := trlE_ok h0
  have K2 := Lib.hid (fun W => checkShare_any num den W)
  cases h2 : shareB num den
  · as_aux_lemma =>
    have HE := Lib.hid (show thsE l num den = 2 by unfold thsE; rw [if_pos h0, h2]; rfl)
    have HC := Lib.hid (show thsR l num den = [] ∧ thsN l num den = 0 by unfold thsR thsN; rw [HE.out]; exact ⟨rfl, rfl⟩)
    rw [HE.out, HC.out.1, HC.out.2]
    rw [h2] at K2
    clear hr hn h0 h2 b1 b2 b3
    go_enter Try.func34, Try.ntmps34
    go_wp2_with fail
    refine K1.out.mono ?_
    rintro e w1 ⟨rfl, hb1⟩
    have S1 := Lib.hid (S0.out.ext hb1)
    clear hb1 K1 S0
    rw [← hB0.out]
    obtain ⟨c0, c1, _⟩ := (S1.out.bx 0 rfl).c2
    go_wp2_with fail
    refine (K2.out _).mono ?_
    rintro e w2 ⟨rfl, hb2⟩
    have S2 := Lib.hid ((S1.out.ext hb2).nil 3 1)
    clear hb2 K2 S1 c0 c1
    go_wp2_with fail
    go_ret2
    exact ⟨none, 0, rfl, S2.out.sub [0] (by decide) rfl⟩
  have HE := Lib.hid (show thsE l num den = 0 by unfold thsE; rw [if_pos h0, h2]; rfl)
  have HC := Lib.hid (show thsR l num den = thsF l num den ∧ thsN l num den = 8 by unfold thsR thsN; rw [HE.out]; exact ⟨rfl, rfl⟩)
  rw [HE.out, HC.out.1, HC.out.2]
  rw [h2] at K2
  obtain ⟨s1, s2⟩ := share_of h2
  have K3 := Lib.hid (fun W => limit_any none [] 0 0 num den W (Rd.nil _ _) rfl (by omega) rfl s1 s2)
  have K4 := Lib.hid (fun W (hb : Below w.heap.size w W) => groups_any A l n c W (hr.below hb) hn hl b2)
  have K5 := Lib.hid (fun A2 (g : Nat) nn cc W (h : Rd W A2 (ints (dif l (g : Nat)))) (h2 : nn = (dif l (g : Nat)).length) (h3 : nn ≤ 1000) => limit_any A2 (dif l (g : Nat)) nn cc num den W h h2 h3 (dif_fr b2 (g : Nat)) s1 s2)
  have HLN := Lib.hid (fun (g : Nat) => (show (dif l (g : Nat)).length ≤ 1000 by have := dif_len l (g : Nat); omega))
  have HOK := Lib.hid b2
  clear hr hn h0 h2 s1 s2 b1 b2 b3 HE HC
  go_enter Try.func34, Try.ntmps34
  go_wp2_with fail
  refine K1.out.mono ?_
  rintro e w1 ⟨rfl, hb1⟩
  have S1 := Lib.hid (S0.out.ext hb1)
  clear hb1 K1 S0
  rw [← hB0.out]
  obtain ⟨c0, c1, _⟩ := (S1.out.bx 0 rfl).c2
  go_wp2_with fail
  refine (K2.out _).mono ?_
  rintro e w2 ⟨rfl, hb2⟩
  have S2 := Lib.hid (S1.out.ext hb2)
  clear hb2 K2 S1 c0 c1
  obtain ⟨c0, c1, _⟩ := (S2.out.bx 0 rfl).c2
  go_wp2_with fail
  refine (K3.out _).mono ?_
  rintro e w3 ⟨rfl, hb3⟩
  have S3 := Lib.hid (S2.out.ext hb3)
  clear hb3 K3 S2 c0 c1
  generalize hz : limF [] num den = z at *
  replace hz := Lib.hid hz
  obtain ⟨B4, hB4⟩ : ∃ B, B = w3.heap.size := ⟨_, rfl⟩
  have S4 := Lib.hid (S3.out.new' 3 #[.int .i64 z] hB4)
  have K6 := Lib.hid (repeat_any B4 0 1 z _ ((S4.out.bx 0 rfl).1 0 _ rfl) (S4.out.bx 0 rfl).2.2)
  go_wp2_with fail
  rw [← hB4]
  clear hB4 S3
  generalize w3.alloc _ = w4 at *
  refine K6.out.mono ?_
  rintro e w5 ⟨B7, rfl, hO5⟩
  have S5 := Lib.hid ((S4.out.call hO5).sub [0, 2] (by decide) (qs := [row 3 1 (.slice (some ⟨B7, 0, none⟩) 8 8) 8 (ints (List.replicate 8 z)), box B0 23 [.int .i64 num, .int .i64 den]]) rfl)
  clear hO5 K6 S4
  have K7 := Lib.hid (K4.out w5 S5.out.bel)
  clear K4
  go_wp2_with fail
  refine K7.out.mono ?_
  rintro e w6 ⟨rfl, hb6, D, hG, hM⟩
  have h7 := (S5.out.rowLt (g := B7) 0 rfl).1
  have h8 := (S5.out.bx 1 rfl).2.2
  have S6 := Lib.hid (S5.out.ext hb6)
  have HG := Lib.hid hG
  obtain ⟨B, hB⟩ : ∃ B, B = w5.heap.size := ⟨_, rfl⟩
  rw [← hB] at hM h7 h8 ⊢
  have HMP := Lib.hid (groups_map hM)
  clear hb6 hG hM K7 S5 hB
  go_wp2_with (at_range; refine wpList_range_own _ rfl _ 110 rfl 3 36 keyedI Try.underlying110 (gR w6 (B + 1)) B n D rfl HMP.out ?_; intro wB hrg0 hg0 hs0)
  go_frame
  obtain ⟨r, hr⟩ : ∃ r, r = w6.heap.size := ⟨_, rfl⟩
  rw [← hr] at hrg0 ⊢
  have hBr : B < r := by rw [hr]; exact HMP.out.lt
  have H7 := Lib.hid h7
  have H8 := Lib.hid h8
  have HBR := Lib.hid hBr
  have HRW := Lib.hid (show w.heap.size ≤ r by rw [hr]; exact S6.out.size)
  have S7 := Lib.hid (S6.out.ext (below_of_grown hg0))
  have HK0 := Lib.hid (fun i (_ : B < i) (hi : i < r) => hg0.block i (by rw [← hr]; exact hi) (by simp))
  have HR0 := Lib.hid hrg0
  have HRS := Lib.hid hr
  clear hrg0 hg0 hs0 hr S6 HMP h7 h8 hBr
  go_loopg [8, 9] (Maps.size D) (fun q _ _ wr => ∃ left : Lit → Bool, ∃ Z : List Int, Hid (wr.ranges Try.prog 3 (gR w6 (B + 1)) B r n D left q ∧ (Z.length = 8 ∧ ∀ g : Nat, g < 8 → Z[g]? = some (if Maps.has D (.int .i64 (g : Nat)) && !left (.int .i64 (g : Nat)) then limF (dif l (g : Nat)) num den else z)) ∧ (∀ i, B < i → i < r → wr.heap[i]? = w6.heap[i]?) ∧ Own w wr [row 3 1 (.slice (some ⟨B7, 0, none⟩) 8 8) 8 (ints Z), box B0 23 [.int .i64 num, .int .i64 den]]))
  case atStart => exact ⟨_, List.replicate 8 z, HR0.out, ⟨by simp, fun g hg => by rw [List.getElem?_replicate, if_pos hg]; simp⟩, HK0.out, S7.out⟩
  case round =>
    obtain ⟨left, Z, hJ⟩ := hrel
    have J1 := Lib.hid hJ.out.1
    have J2 := Lib.hid hJ.out.2.1
    have J3 := Lib.hid hJ.out.2.2.1
    have J4 := Lib.hid hJ.out.2.2.2
    clear hJ HR0 HK0 S7
    go_wp2_with (at_next; refine wpList_next_ranges _ rfl _ rfl 3 keyedI (gR w6 (B + 1)) (Value.int .i64) slV keyInvI (gR_inv w6 (B + 1)) B r n D left gk rfl J1.out ?_ ?_)
    · intro hc0 hl0
      as_aux_lemma =>
      have HF := Lib.hid (show Z = thsF l num den by
        apply List.ext_getElem?
        intro g
        by_cases hg : g < 8
        · rw [J2.out.2 g hg, thsF_at _ _ _ hg, hl0]
          cases hh : Maps.has D (.int .i64 (g : Int))
          · rw [has_of_dif HG.out (wf_small (by omega)) hh, hz.out]; rfl
          · rfl
        · rw [List.getElem?_eq_none (by rw [J2.out.1]; omega), List.getElem?_eq_none (by rw [thsF_len]; omega)])
      clear hc0 hl0 J1 J2
      rw [HF.out] at J4
      go_wp2_with fail
      go_ret2
      exact ⟨some ⟨B7, 0, none⟩, 8, rfl, J4.out.sub [0] (by decide) rfl⟩
    · intro x A2 nn cc kl y1 y2 w8 cnt2 hk hlk hRy hat hrg2 hlt hg2 hs2 hen
      obtain ⟨q1, q2, q3, q4, q5⟩ := group_entry (c := (A2, nn, cc)) (y := (y1, y2)) HG.out hk hRy hat
      have hhas := Maps.has_true_of_atKey hat
      try simp only [slV] at hen
      try simp only [slV]
      have hx := dif_small HOK.out (g := x) (List.length_pos_iff.2 q5)
      obtain ⟨g, rfl⟩ := Int.eq_ofNat_of_zero_le hx.1
      have hg8 : g < 8 := by omega
      have HRG := Lib.hid hrg2
      have HLT := Lib.hid hlt
      have S8 := Lib.hid (J4.out.other hg2 (fun k hk => by
        injection hk with hk
        subst hk
        have h7 := H7.out
        have h8 := H8.out
        have hbr := HBR.out
        refine ⟨HRW.out, fun p hp => ?_⟩
        rcases List.mem_cons.1 hp with rfl | hp
        · intro e; injection e with e; dsimp only at e; omega
        · rcases List.mem_cons.1 hp with rfl | hp
          · intro e; injection e with e; omega
          · cases hp))
      have HK8 := Lib.hid (fun i (h1 : B < i) (h2 : i < r) => (hg2.block i (by have := J1.out.lt; omega) (by intro e; injection e with e; omega)).trans (J3.out i h1 h2))
      have HRD := Lib.hid (q4.rd_in (w' := w8) (by rw [← HRS.out]; exact Nat.le_of_lt HRG.out.lt) (fun b h1 h2 => HK8.out b (by omega) (by rw [HRS.out]; exact h2)))
      have Q1 := Lib.hid q1
      have Q3 := Lib.hid (show nn = (dif l (g : Nat)).length from q3)
      have HHAS := Lib.hid hhas
      have K8 := Lib.hid (fun W (hb : Below w8.heap.size w8 W) => K5.out A2 g nn cc W (HRD.out.below hb) Q3.out (by rw [Q3.out]; exact HLN.out g))
      clear hk hlk hRy hat hrg2 hlt hg2 hs2 q1 q2 q3 q4 q5 hhas hx J1 J3 J4
      as_aux_lemma =>
      obtain ⟨c0, c1, _⟩ := (S8.out.bx 1 rfl).c2
      go_wp2_with fail
      refine (K8.out _ (Below.refl _ _)).mono ?_
      rintro e w9 ⟨rfl, hb9⟩
      have S9 := Lib.hid (S8.out.ext hb9)
      have HR9 := Lib.hid (HRG.out.kept (grown_of_below' hb9) (by simp) (by simp))
      have HK9 := Lib.hid (fun i (h1 : B < i) (h2 : i < r) => (hb9.block i (by have := HRG.out.lt; omega)).trans (HK8.out i h1 h2))
      clear hb9 S8 HRG HK8 HRD c0 c1 K8 K5
      generalize ht : limF (dif l (g : Nat)) num den = t at *
      have HTT := Lib.hid ht
      clear ht
      obtain ⟨z0, hz0⟩ : ∃ z0, Z[g]? = some z0 := ⟨_, J2.out.2 g hg8⟩
      have u0 := S9.out.rowAt (g := B7) 0 rfl (u := .int .i64 z0) (j := g) (by simp [ints, hz0])
      obtain ⟨ul, uf⟩ := S9.out.rowLt (g := B7) 0 rfl
      have hgi : (g : Int) < 8 := by omega
      clear hz0
      go_wp2_with fail
      have S10 := Lib.hid (show Own w (w9.setCell ⟨B7, g, none⟩ (.int .i64 t)) [row 3 1 (.slice (some ⟨B7, 0, none⟩) 8 8) 8 (ints (Z.set g t)), box B0 23 [.int .i64 num, .int .i64 den]] from (S9.out.setRow 0 rfl g (.int .i64 t)).cast (by rw [ints_set]; rfl))
      have HR10 := Lib.hid (HR9.out.kept (grown_setCell w9 ⟨B7, g, none⟩ (.int .i64 t)) (by have := H7.out; intro e; injection e with e; simp at e; omega) (by have := H7.out; have := HBR.out; intro e; injection e with e; simp at e; omega))
      have HK10 := Lib.hid (fun i (h1 : B < i) (h2 : i < r) => ((grown_setCell w9 ⟨B7, g, none⟩ (.int .i64 t)).block i (by have := HR9.out.lt; omega) (by have := H7.out; intro e; injection e with e; simp at e; omega)).trans (HK9.out i h1 h2))
      clear S9 HR9 HK9 u0 ul uf
      generalize w9.setCell _ _ = w10 at *
      go_roundg cnt2
      case measure => exact HLT.out
      case rel => exact ⟨fun z => left z && !z.sameKey kl, Z.set g t, HR10.out, ⟨by rw [List.length_set]; exact J2.out.1, fun g' hg' => by
        rw [List.getElem?_set, J2.out.1, Q1.out]
        by_cases e : g = g'
        · subst e
          have h1 := HHAS.out
          rw [Q1.out] at h1
          rw [if_pos rfl, if_pos hg8, h1]
          simp [WideAt.sameKey_self (keyLit (wf_small (x := (g : Nat)) (by omega))), HTT.out]
        · have h1 := sameKey_ne (a := .int .i64 (g' : Nat)) (b := .int .i64 (g : Nat)) (fun k => e (by have := (Lit.int.inj k).2; omega))
          rw [if_neg e, J2.out.2 g' hg']
          simp [h1]⟩, HK10.out, S10.out⟩
end Go.Proofs.Ytnalbchggjepdaa
