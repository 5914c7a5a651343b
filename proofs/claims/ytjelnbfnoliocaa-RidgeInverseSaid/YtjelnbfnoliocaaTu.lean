/- Ridge: the walk of RidgeInverse. No condition. -/
import Derived.Test.YtjelnbfnoliocaaTm
import Derived.Test.YtjelnbfnoliocaaTl
import Derived.Test.YtjelnbfnoliocaaSt
namespace Go.Proofs.Ytjelnbfnoliocaa
open Go.RowKit Go.Shelf
attribute [local go_sem] Oper.semAt_some

set_option maxRecDepth 100000 in
set_option maxHeartbeats 4000000 in
theorem ridgeInverse_walk (sW sH dW dH b : Int) (P A A' : Option Addr) (pix dark light : List Int) (np cp n c n' c' : Nat) (w : World) (hp : Rd w P (u8s pix)) (hr : Rd w A (u8s dark)) (hr' : Rd w A' (u8s light)) (hnp : np = pix.length) (hn : n = dark.length) (hn' : n' = light.length) (U0 : U8 pix) (U1 : U8 dark) (U2 : U8 light) (hb : 0 ≤ b ∧ b ≤ 255) :
    Calls Try.prog 12 #[.agg #[.int .i64 sW, .int .i64 sH, .slice P np cp], .agg #[.int .i64 dW, .int .i64 dH, .slice A n c, .slice A' n' c'], .int .u8 b] w fun e w' => e = .returned (.bool true) ∧ Below w.heap.size w w' := by
  have S0 := Lib.hid (((Own.start w).new 24 #[.int .i64 sW, .int .i64 sH, .slice P np cp]).new' 26 #[.int .i64 dW, .int .i64 dH, .slice A n c, .slice A' n' c'] (B := w.heap.size + 1) (by simp))
  have HFP := Lib.hid (fun W1 (h : Below w.heap.size w W1) => hp.below h)
  have HFD := Lib.hid (fun W1 (h : Below w.heap.size w W1) => hr.below h)
  have HFL := Lib.hid (fun W1 (h : Below w.heap.size w W1) => hr'.below h)
  by_cases hs : seenF sW sH np dW dH dark light = 0
  case neg => as_aux_lemma =>
    have h10 : seenF sW sH np dW dH dark light = 10 ∨ seenF sW sH np dW dH dark light = 11 := by
      rcases seenF_cases sW sH np dW dH dark light with h | h
      · exact absurd h hs
      · exact h
    rcases h10 with h | h
    all_goals
      have K20 := Lib.hid (fun W1 h1 h2 h3 => binary_any sW sH dW dH P A A' pix dark light np cp n c n' c' W1 h1 h2 h3 hnp hn hn' U0 U1 U2 _ h)
      clear hp hr hr' hnp hn hn' hs h
      go_enter Try.func12, Try.ntmps12
      go_wp2_with fail
      refine (alive_any _).mono ?_
      rintro e w1 ⟨rfl, hb1⟩
      have S1 := Lib.hid (S0.out.ext hb1)
      clear hb1 S0
      obtain ⟨t1_0, t1_1, t1_2, _⟩ := (S1.out.bx 1 rfl).c3
      have lt1 := (S1.out.bx 1 rfl).2.2
      obtain ⟨t0_0, t0_1, t0_2, t0_3, _⟩ := (S1.out.bx 0 rfl).c4
      have lt0 := (S1.out.bx 0 rfl).2.2
      go_wp2_with fail
      refine (K20.out _ (HFP.out _ S1.out.bel) (HFD.out _ S1.out.bel) (HFL.out _ S1.out.bel)).mono ?_
      rintro e w2 ⟨Aa, ca, rfl, ho, hb2⟩
      have S2 := Lib.hid (S1.out.ext hb2)
      clear ho hb2 S1 t1_0 t1_1 t1_2 lt1 t0_0 t0_1 t0_2 t0_3 lt0
      go_wp2_with fail
      go_ret
      exact ⟨rfl, below_more S2.out.bel _⟩
  obtain ⟨ln, ln', hle, h1, hsz, hdv, hqW, hqH⟩ := seen_len hs
  have LD : dark.length = pix.length := by rw [ln, hnp]
  have LL : light.length = pix.length := by rw [ln', hnp]
  obtain ⟨bb1, bb2⟩ := hb
  have HOL := Lib.hid (show (offs pix dark light).length = np by rw [offs_len _ _ _ LD LL, hnp])
  obtain ⟨o2, ho2⟩ : ∃ o2, o2 = (offs pix dark light).map (fun v => -v) := ⟨_, rfl⟩
  have HOL2 := Lib.hid (show o2.length = np by rw [ho2, List.length_map, HOL.out])
  have TU := turned_ok (p := pix) hs hnp.symm U0 U1 U2
  have K20 := Lib.hid (fun W1 h1 h2 h3 => (show Calls Try.prog 20 #[.agg #[.int .i64 sW, .int .i64 sH, .slice P np cp], .agg #[.int .i64 dW, .int .i64 dH, .slice A n c, .slice A' n' c']] W1 (BinPost sW sH (neg (offs pix dark light)) 0 W1) from binary_any sW sH dW dH P A A' pix dark light np cp n c n' c' W1 h1 h2 h3 hnp hn hn' U0 U1 U2 0 hs))
  have K20b := Lib.hid (fun (hf : fitB b pix light np = true) P2 A2 A3 c2 c3 c4 W1 h1 h2 h3 => (show Calls Try.prog 20 #[.agg #[.int .i64 sW, .int .i64 sH, .slice P2 np c2], .agg #[.int .i64 dW, .int .i64 dH, .slice A2 np c3, .slice A3 np c4]] W1 (BinPost sW sH (neg (offs pix dark light)) 0 W1) by
    obtain ⟨e1, e2⟩ := moved_ok hs hnp.symm bb1 U0 U1 U2 hf
    have := binary_any sW sH dW dH P2 A2 A3 (mp (upB b) pix np) (mp (upB b) dark np) (mp (upB b) light np) np c2 np c3 np c4 W1 h1 h2 h3 (mp_len (by omega)).symm (mp_len (by omega)).symm (mp_len (by omega)).symm (mp_up_u8 _ _ _) (mp_up_u8 _ _ _) (mp_up_u8 _ _ _) 0 e2
    rw [binL, if_pos rfl, e1] at this
    exact this))
  have K20c := Lib.hid (fun P2 A2 A3 c2 c3 c4 W1 h1 h2 h3 => (show Calls Try.prog 20 #[.agg #[.int .i64 sW, .int .i64 sH, .slice P2 np c2], .agg #[.int .i64 dW, .int .i64 dH, .slice A2 np c3, .slice A3 np c4]] W1 (BinPost sW sH (neg o2) 0 W1) by
    have := binary_any sW sH dW dH P2 A2 A3 (mp opB pix np) (mp opB light np) (mp opB dark np) np c2 np c3 np c4 W1 h1 h2 h3 (mp_len (by omega)).symm (mp_len (by omega)).symm (mp_len (by omega)).symm (mp_op_u8 _ _) (mp_op_u8 _ _) (mp_op_u8 _ _) 0 TU.2
    rw [binL, if_pos rfl, TU.1, ← ho2] at this
    exact this))
  have K23 := Lib.hid (fun W1 h1 h2 h3 => (show Calls Try.prog 23 #[.agg #[.int .i64 sW, .int .i64 sH, .slice P np cp], .agg #[.int .i64 dW, .int .i64 dH, .slice A n c, .slice A' n' c'], .int .i64 0] W1 (SurePost (sures 0 (offs pix dark light)) 0 W1) by
    have h := sure_any sW sH dW dH 0 P A A' pix dark light np cp n c n' c' W1 h1 h2 h3 hnp hn hn' U0 U1 U2 0 hs
    have e : sureE 0 0 = 0 := by decide
    rw [sureL, e, if_pos rfl] at h
    exact h))
  have K22 := Lib.hid (fun A1 A2 c1 c2 W1 h h' => same_self sW sH A1 A2 (neg (offs pix dark light)) np c1 c2 W1 h h' (by simp [neg, HOL.out]) (by omega))
  have HKEY := Lib.hid (fun i a c s h1 h2 h3 => turned_key (o := offs pix dark light) (i := i) (a := a) (c := c) (s := s) h1 (by rw [← ho2]; exact h2) h3)
  have HNL := Lib.hid (show ∀ l : List Int, (neg l).length = l.length from fun l => by simp [neg])
  have HSL := Lib.hid (show ∀ (k : Int) (l : List Int), (sures k l).length = l.length from fun k l => by simp [sures])
  obtain ⟨bP, oP, rfl⟩ := rd_some hp (j := 0) (by rw [u8s_len]; omega)
  obtain ⟨bD, oD, rfl⟩ := rd_some hr (j := 0) (by rw [u8s_len]; omega)
  obtain ⟨bL, oL, rfl⟩ := rd_some hr' (j := 0) (by rw [u8s_len]; omega)
  have HCP := Lib.hid (fun W1 (h : Rd W1 (some ⟨bP, oP, none⟩) (u8s pix)) i (hi : i < pix.length) => (⟨rd_cell h (u8s_get' hi), rd_lt h (j := i) (by rw [u8s_len]; exact hi)⟩ : W1.cell? ⟨bP, oP + i, none⟩ = some (.int .u8 pix[i]) ∧ bP < W1.heap.size))
  have HCD := Lib.hid (fun W1 (h : Rd W1 (some ⟨bD, oD, none⟩) (u8s dark)) i (hi : i < dark.length) => (⟨rd_cell h (u8s_get' hi), rd_lt h (j := i) (by rw [u8s_len]; exact hi)⟩ : W1.cell? ⟨bD, oD + i, none⟩ = some (.int .u8 dark[i]) ∧ bD < W1.heap.size))
  have HCL := Lib.hid (fun W1 (h : Rd W1 (some ⟨bL, oL, none⟩) (u8s light)) i (hi : i < light.length) => (⟨rd_cell h (u8s_get' hi), rd_lt h (j := i) (by rw [u8s_len]; exact hi)⟩ : W1.cell? ⟨bL, oL + i, none⟩ = some (.int .u8 light[i]) ∧ bL < W1.heap.size))
  have HU := Lib.hid (⟨U0, U1, U2⟩ : U8 pix ∧ U8 dark ∧ U8 light)
  have HLN := Lib.hid (show np = pix.length ∧ np = dark.length ∧ np = light.length from ⟨hnp, by omega, by omega⟩)
  obtain rfl : np = n := by omega
  obtain rfl : np = n' := by omega
  clear hqW hqH hp hr hr' hnp hn hn' hs ln ln' hsz hdv LD LL U0 U1 U2 ho2 TU
  as_aux_lemma =>
    go_enter Try.func12, Try.ntmps12
    go_wp2_with fail
    refine (alive_any _).mono ?_
    rintro e w1 ⟨rfl, hb1⟩
    have S1 := Lib.hid (S0.out.ext hb1)
    clear hb1 S0
    obtain ⟨t1_0, t1_1, t1_2, _⟩ := (S1.out.bx 1 rfl).c3
    have lt1 := (S1.out.bx 1 rfl).2.2
    obtain ⟨t0_0, t0_1, t0_2, t0_3, _⟩ := (S1.out.bx 0 rfl).c4
    have lt0 := (S1.out.bx 0 rfl).2.2
    go_wp2_with fail
    refine (K20.out _ (HFP.out _ S1.out.bel) (HFD.out _ S1.out.bel) (HFL.out _ S1.out.bel)).mono ?_
    rintro e w2 ⟨Aa, ca, hret, ho, hb2⟩
    rw [HNL.out, HOL.out] at hret
    subst hret
    have S2 := Lib.hid ((S1.out.addSeen ho hb2).cast (qs := [seen Aa (bools (neg (offs pix dark light))), box (w.heap.size + 1) 26 [.int .i64 dW, .int .i64 dH, .slice (some ⟨bD, oD, none⟩) np c, .slice (some ⟨bL, oL, none⟩) np c'], box w.heap.size 24 [.int .i64 sW, .int .i64 sH, .slice (some ⟨bP, oP, none⟩) np cp]]) rfl)
    clear ho hb2 S1 t1_0 t1_1 t1_2 lt1 t0_0 t0_1 t0_2 t0_3 lt0
    go_upto_region 3 with fail
    have S3 := Lib.hid ((S2.out.new' 34 #[.int .i64 sW, .int .i64 sH, .slice Aa np ca] (B := w2.heap.size) rfl).cast (qs := [box w2.heap.size 34 [.int .i64 sW, .int .i64 sH, .slice Aa np ca], seen Aa (bools (neg (offs pix dark light))), box (w.heap.size + 1) 26 [.int .i64 dW, .int .i64 dH, .slice (some ⟨bD, oD, none⟩) np c, .slice (some ⟨bL, oL, none⟩) np c'], box w.heap.size 24 [.int .i64 sW, .int .i64 sH, .slice (some ⟨bP, oP, none⟩) np cp]]) rfl)
    generalize w2.alloc (.cells #[.int .i64 sW, .int .i64 sH, .slice Aa np ca] 34) = w3 at *
    generalize w2.heap.size = Ba at *
    clear S2
    obtain ⟨t3_0, t3_1, t3_2, _⟩ := (S3.out.bx 3 rfl).c3
    have lt3 := (S3.out.bx 3 rfl).2.2
    obtain ⟨t2_0, t2_1, t2_2, t2_3, _⟩ := (S3.out.bx 2 rfl).c4
    have lt2 := (S3.out.bx 2 rfl).2.2
    go_upto_region 6 with fail
    have S4 := Lib.hid ((S3.out.new' 24 #[.int .i64 sW, .int .i64 sH, .slice none 0 0] (B := w3.heap.size) rfl).cast (qs := [box w3.heap.size 24 [.int .i64 sW, .int .i64 sH, .slice none 0 0], box Ba 34 [.int .i64 sW, .int .i64 sH, .slice Aa np ca], seen Aa (bools (neg (offs pix dark light))), box (w.heap.size + 1) 26 [.int .i64 dW, .int .i64 dH, .slice (some ⟨bD, oD, none⟩) np c, .slice (some ⟨bL, oL, none⟩) np c'], box w.heap.size 24 [.int .i64 sW, .int .i64 sH, .slice (some ⟨bP, oP, none⟩) np cp]]) rfl)
    generalize w3.alloc (.cells #[.int .i64 sW, .int .i64 sH, .slice none 0 0] 24) = w4 at *
    generalize w3.heap.size = BU at *
    clear S3 t3_0 t3_1 t3_2 lt3 t2_0 t2_1 t2_2 t2_3 lt2
    obtain ⟨t4_0, t4_1, t4_2, _⟩ := (S4.out.bx 4 rfl).c3
    have lt4 := (S4.out.bx 4 rfl).2.2
    obtain ⟨t3_0, t3_1, t3_2, t3_3, _⟩ := (S4.out.bx 3 rfl).c4
    have lt3 := (S4.out.bx 3 rfl).2.2
    go_upto_region 7 with fail
    have S5 := Lib.hid ((S4.out.new' 26 #[.int .i64 dW, .int .i64 dH, .slice none 0 0, .slice none 0 0] (B := w4.heap.size) rfl).cast (qs := [box w4.heap.size 26 [.int .i64 dW, .int .i64 dH, .slice none 0 0, .slice none 0 0], box BU 24 [.int .i64 sW, .int .i64 sH, .slice none 0 0], box Ba 34 [.int .i64 sW, .int .i64 sH, .slice Aa np ca], seen Aa (bools (neg (offs pix dark light))), box (w.heap.size + 1) 26 [.int .i64 dW, .int .i64 dH, .slice (some ⟨bD, oD, none⟩) np c, .slice (some ⟨bL, oL, none⟩) np c'], box w.heap.size 24 [.int .i64 sW, .int .i64 sH, .slice (some ⟨bP, oP, none⟩) np cp]]) rfl)
    generalize w4.alloc (.cells #[.int .i64 dW, .int .i64 dH, .slice none 0 0, .slice none 0 0] 26) = w5 at *
    generalize w4.heap.size = BV at *
    clear S4 t4_0 t4_1 t4_2 lt4 t3_0 t3_1 t3_2 t3_3 lt3
    obtain ⟨t5_0, t5_1, t5_2, _⟩ := (S5.out.bx 5 rfl).c3
    have lt5 := (S5.out.bx 5 rfl).2.2
    obtain ⟨t4_0, t4_1, t4_2, t4_3, _⟩ := (S5.out.bx 4 rfl).c4
    have lt4 := (S5.out.bx 4 rfl).2.2
    go_upto_region 8 with fail
    have S6 := Lib.hid ((S5.out.new' 24 #[.int .i64 sW, .int .i64 sH, .slice none 0 0] (B := w5.heap.size) rfl).cast (qs := [box w5.heap.size 24 [.int .i64 sW, .int .i64 sH, .slice none 0 0], box BV 26 [.int .i64 dW, .int .i64 dH, .slice none 0 0, .slice none 0 0], box BU 24 [.int .i64 sW, .int .i64 sH, .slice none 0 0], box Ba 34 [.int .i64 sW, .int .i64 sH, .slice Aa np ca], seen Aa (bools (neg (offs pix dark light))), box (w.heap.size + 1) 26 [.int .i64 dW, .int .i64 dH, .slice (some ⟨bD, oD, none⟩) np c, .slice (some ⟨bL, oL, none⟩) np c'], box w.heap.size 24 [.int .i64 sW, .int .i64 sH, .slice (some ⟨bP, oP, none⟩) np cp]]) rfl)
    generalize w5.alloc (.cells #[.int .i64 sW, .int .i64 sH, .slice none 0 0] 24) = w6 at *
    generalize w5.heap.size = BW at *
    clear S5 t5_0 t5_1 t5_2 lt5 t4_0 t4_1 t4_2 t4_3 lt4
    obtain ⟨t6_0, t6_1, t6_2, _⟩ := (S6.out.bx 6 rfl).c3
    have lt6 := (S6.out.bx 6 rfl).2.2
    obtain ⟨t5_0, t5_1, t5_2, t5_3, _⟩ := (S6.out.bx 5 rfl).c4
    have lt5 := (S6.out.bx 5 rfl).2.2
    go_upto_region 9 with fail
    have S7 := Lib.hid ((S6.out.new' 26 #[.int .i64 dW, .int .i64 dH, .slice none 0 0, .slice none 0 0] (B := w6.heap.size) rfl).cast (qs := [box w6.heap.size 26 [.int .i64 dW, .int .i64 dH, .slice none 0 0, .slice none 0 0], box BW 24 [.int .i64 sW, .int .i64 sH, .slice none 0 0], box BV 26 [.int .i64 dW, .int .i64 dH, .slice none 0 0, .slice none 0 0], box BU 24 [.int .i64 sW, .int .i64 sH, .slice none 0 0], box Ba 34 [.int .i64 sW, .int .i64 sH, .slice Aa np ca], seen Aa (bools (neg (offs pix dark light))), box (w.heap.size + 1) 26 [.int .i64 dW, .int .i64 dH, .slice (some ⟨bD, oD, none⟩) np c, .slice (some ⟨bL, oL, none⟩) np c'], box w.heap.size 24 [.int .i64 sW, .int .i64 sH, .slice (some ⟨bP, oP, none⟩) np cp]]) rfl)
    generalize w6.alloc (.cells #[.int .i64 dW, .int .i64 dH, .slice none 0 0, .slice none 0 0] 26) = w7 at *
    generalize w6.heap.size = BX at *
    clear S6 t6_0 t6_1 t6_2 lt6 t5_0 t5_1 t5_2 t5_3 lt5
    have S8 := Lib.hid (((((((S7.out.nil 5 1).nil 5 1).nil 5 1).nil 5 1).nil 5 1).nil 5 1).cast (qs := [row 5 1 (.slice none 0 0) 0 [], row 5 1 (.slice none 0 0) 0 [], row 5 1 (.slice none 0 0) 0 [], row 5 1 (.slice none 0 0) 0 [], row 5 1 (.slice none 0 0) 0 [], row 5 1 (.slice none 0 0) 0 [], box BX 26 [.int .i64 dW, .int .i64 dH, .slice none 0 0, .slice none 0 0], box BW 24 [.int .i64 sW, .int .i64 sH, .slice none 0 0], box BV 26 [.int .i64 dW, .int .i64 dH, .slice none 0 0, .slice none 0 0], box BU 24 [.int .i64 sW, .int .i64 sH, .slice none 0 0], box Ba 34 [.int .i64 sW, .int .i64 sH, .slice Aa np ca], seen Aa (bools (neg (offs pix dark light))), box (w.heap.size + 1) 26 [.int .i64 dW, .int .i64 dH, .slice (some ⟨bD, oD, none⟩) np c, .slice (some ⟨bL, oL, none⟩) np c'], box w.heap.size 24 [.int .i64 sW, .int .i64 sH, .slice (some ⟨bP, oP, none⟩) np cp]]) rfl)
    clear S7
    obtain ⟨t13_0, t13_1, t13_2, _⟩ := (S8.out.bx 13 rfl).c3
    have lt13 := (S8.out.bx 13 rfl).2.2
    go_wp2_with fail
    clear t13_0 t13_1 t13_2 lt13
    go_loopg [14, 56] np (fun q u14 u56 wr => ∃ (i : Nat) (f : Bool) (AU : Option Addr) (cU : Nat) (AD : Option Addr) (cD : Nat) (AL : Option Addr) (cL : Nat) (AB : Option Addr) (cB : Nat) (AE : Option Addr) (cE : Nat) (AF : Option Addr) (cF : Nat), i ≤ np ∧ u14 = .bool f ∧ u56 = .int .i64 i ∧ Hid (f = fitB b pix light i ∧ i + q = np ∧ Own w wr [row 5 1 (.slice AU i cU) i (u8s (mp (upB b) pix i)), row 5 1 (.slice AD i cD) i (u8s (mp (upB b) dark i)), row 5 1 (.slice AL i cL) i (u8s (mp (upB b) light i)), row 5 1 (.slice AB i cB) i (u8s (mp opB pix i)), row 5 1 (.slice AE i cE) i (u8s (mp opB light i)), row 5 1 (.slice AF i cF) i (u8s (mp opB dark i)), box BX 26 [.int .i64 dW, .int .i64 dH, .slice AE i cE, .slice AF i cF], box BW 24 [.int .i64 sW, .int .i64 sH, .slice AB i cB], box BV 26 [.int .i64 dW, .int .i64 dH, .slice AD i cD, .slice AL i cL], box BU 24 [.int .i64 sW, .int .i64 sH, .slice AU i cU], box Ba 34 [.int .i64 sW, .int .i64 sH, .slice Aa np ca], seen Aa (bools (neg (offs pix dark light))), box (w.heap.size + 1) 26 [.int .i64 dW, .int .i64 dH, .slice (some ⟨bD, oD, none⟩) np c, .slice (some ⟨bL, oL, none⟩) np c'], box w.heap.size 24 [.int .i64 sW, .int .i64 sH, .slice (some ⟨bP, oP, none⟩) np cp]]))
    case atStart => exact ⟨0, true, none, 0, none, 0, none, 0, none, 0, none, 0, none, 0, by omega, rfl, rfl, (fitB_zero _ _ _).symm, by omega, S8.out⟩
    case round =>
      obtain ⟨i, f, AU, cU, AD, cD, AL, cL, AB, cB, AE, cE, AF, cF, hi, rfl, rfl, hI⟩ := hrel
      have I0 := Lib.hid hI.out.1
      have I1 := Lib.hid hI.out.2.1
      have I2 := Lib.hid hI.out.2.2
      clear hI S8
      by_cases hlt : i < np
      case neg => as_aux_lemma =>
        obtain rfl : i = np := by omega
        have HFI := Lib.hid (show f = fitB b pix light i from I0.out)
        clear I0 I1 hlt
        rcases f with _ | _
        · as_aux_lemma =>
          have X1 := Lib.hid (I2.out.sub [3, 4, 5, 6, 7, 10, 11, 12, 13] (by decide) (qs := [row 5 1 (.slice AB i cB) i (u8s (mp opB pix i)), row 5 1 (.slice AE i cE) i (u8s (mp opB light i)), row 5 1 (.slice AF i cF) i (u8s (mp opB dark i)), box BX 26 [.int .i64 dW, .int .i64 dH, .slice AE i cE, .slice AF i cF], box BW 24 [.int .i64 sW, .int .i64 sH, .slice AB i cB], box Ba 34 [.int .i64 sW, .int .i64 sH, .slice Aa i ca], seen Aa (bools (neg (offs pix dark light))), box (w.heap.size + 1) 26 [.int .i64 dW, .int .i64 dH, .slice (some ⟨bD, oD, none⟩) i c, .slice (some ⟨bL, oL, none⟩) i c'], box w.heap.size 24 [.int .i64 sW, .int .i64 sH, .slice (some ⟨bP, oP, none⟩) i cp]]) rfl)
          clear I2 HFI
          obtain ⟨t4_0, t4_1, t4_2, _⟩ := (X1.out.bx 4 rfl).c3
          have lt4 := (X1.out.bx 4 rfl).2.2
          obtain ⟨t3_0, t3_1, t3_2, t3_3, _⟩ := (X1.out.bx 3 rfl).c4
          have lt3 := (X1.out.bx 3 rfl).2.2
          go_wp2_with fail
          refine (K20c.out AB AE AF cB cE cF _ (X1.out.rd 0 rfl) (X1.out.rd 1 rfl) (X1.out.rd 2 rfl)).mono ?_
          rintro e w31 ⟨Ac, cc, hret, ho, hb31⟩
          rw [HNL.out, HOL2.out] at hret
          subst hret
          have S31 := Lib.hid ((X1.out.addSeen ho hb31).cast (qs := [seen Ac (bools (neg o2)), row 5 1 (.slice AB i cB) i (u8s (mp opB pix i)), row 5 1 (.slice AE i cE) i (u8s (mp opB light i)), row 5 1 (.slice AF i cF) i (u8s (mp opB dark i)), box BX 26 [.int .i64 dW, .int .i64 dH, .slice AE i cE, .slice AF i cF], box BW 24 [.int .i64 sW, .int .i64 sH, .slice AB i cB], box Ba 34 [.int .i64 sW, .int .i64 sH, .slice Aa i ca], seen Aa (bools (neg (offs pix dark light))), box (w.heap.size + 1) 26 [.int .i64 dW, .int .i64 dH, .slice (some ⟨bD, oD, none⟩) i c, .slice (some ⟨bL, oL, none⟩) i c'], box w.heap.size 24 [.int .i64 sW, .int .i64 sH, .slice (some ⟨bP, oP, none⟩) i cp]]) rfl)
          clear ho hb31 X1 t4_0 t4_1 t4_2 lt4 t3_0 t3_1 t3_2 t3_3 lt3
          go_upto_region 24 with fail
          have S32 := Lib.hid ((S31.out.new' 34 #[.int .i64 sW, .int .i64 sH, .slice Ac i cc] (B := w31.heap.size) rfl).cast (qs := [box w31.heap.size 34 [.int .i64 sW, .int .i64 sH, .slice Ac i cc], seen Ac (bools (neg o2)), row 5 1 (.slice AB i cB) i (u8s (mp opB pix i)), row 5 1 (.slice AE i cE) i (u8s (mp opB light i)), row 5 1 (.slice AF i cF) i (u8s (mp opB dark i)), box BX 26 [.int .i64 dW, .int .i64 dH, .slice AE i cE, .slice AF i cF], box BW 24 [.int .i64 sW, .int .i64 sH, .slice AB i cB], box Ba 34 [.int .i64 sW, .int .i64 sH, .slice Aa i ca], seen Aa (bools (neg (offs pix dark light))), box (w.heap.size + 1) 26 [.int .i64 dW, .int .i64 dH, .slice (some ⟨bD, oD, none⟩) i c, .slice (some ⟨bL, oL, none⟩) i c'], box w.heap.size 24 [.int .i64 sW, .int .i64 sH, .slice (some ⟨bP, oP, none⟩) i cp]]) rfl)
          generalize w31.alloc (.cells #[.int .i64 sW, .int .i64 sH, .slice Ac i cc] 34) = w32 at *
          generalize w31.heap.size = Bc at *
          clear S31
          have S33 := Lib.hid (S32.out.sub [0, 1, 7, 8, 9, 10] (by decide) (qs := [box Bc 34 [.int .i64 sW, .int .i64 sH, .slice Ac i cc], seen Ac (bools (neg o2)), box Ba 34 [.int .i64 sW, .int .i64 sH, .slice Aa i ca], seen Aa (bools (neg (offs pix dark light))), box (w.heap.size + 1) 26 [.int .i64 dW, .int .i64 dH, .slice (some ⟨bD, oD, none⟩) i c, .slice (some ⟨bL, oL, none⟩) i c'], box w.heap.size 24 [.int .i64 sW, .int .i64 sH, .slice (some ⟨bP, oP, none⟩) i cp]]) rfl)
          clear S32
          obtain ⟨t5_0, t5_1, t5_2, _⟩ := (S33.out.bx 5 rfl).c3
          have lt5 := (S33.out.bx 5 rfl).2.2
          obtain ⟨t4_0, t4_1, t4_2, t4_3, _⟩ := (S33.out.bx 4 rfl).c4
          have lt4 := (S33.out.bx 4 rfl).2.2
          go_wp2_with fail
          refine (K23.out _ (HFP.out _ S33.out.bel) (HFD.out _ S33.out.bel) (HFL.out _ S33.out.bel)).mono ?_
          rintro e w34 ⟨Al, cl, hret, ho, hb34⟩
          rw [HSL.out, HOL.out] at hret
          subst hret
          have S34 := Lib.hid ((S33.out.addSeen ho hb34).cast (qs := [seen Al (bools (sures 0 (offs pix dark light))), box Bc 34 [.int .i64 sW, .int .i64 sH, .slice Ac i cc], seen Ac (bools (neg o2)), box Ba 34 [.int .i64 sW, .int .i64 sH, .slice Aa i ca], seen Aa (bools (neg (offs pix dark light))), box (w.heap.size + 1) 26 [.int .i64 dW, .int .i64 dH, .slice (some ⟨bD, oD, none⟩) i c, .slice (some ⟨bL, oL, none⟩) i c'], box w.heap.size 24 [.int .i64 sW, .int .i64 sH, .slice (some ⟨bP, oP, none⟩) i cp]]) rfl)
          clear ho hb34 S33 t5_0 t5_1 t5_2 lt5 t4_0 t4_1 t4_2 t4_3 lt4
          have S35 := Lib.hid (S34.out.sub [0, 1, 2, 3, 4] (by decide) (qs := [seen Al (bools (sures 0 (offs pix dark light))), box Bc 34 [.int .i64 sW, .int .i64 sH, .slice Ac i cc], seen Ac (bools (neg o2)), box Ba 34 [.int .i64 sW, .int .i64 sH, .slice Aa i ca], seen Aa (bools (neg (offs pix dark light)))]) rfl)
          clear S34
          obtain ⟨ba, oa, rfl⟩ := rd_some (S35.out.rdS 4 rfl) (j := 0) (by rw [bools_len', HNL.out, HOL.out]; omega)
          obtain ⟨bc, oc, rfl⟩ := rd_some (S35.out.rdS 2 rfl) (j := 0) (by rw [bools_len', HNL.out, HOL2.out]; omega)
          obtain ⟨bl, ol, rfl⟩ := rd_some (S35.out.rdS 0 rfl) (j := 0) (by rw [bools_len', HSL.out, HOL.out]; omega)
          obtain ⟨t1_0, t1_1, t1_2, _⟩ := (S35.out.bx 1 rfl).c3
          have lt1 := (S35.out.bx 1 rfl).2.2
          obtain ⟨t3_0, t3_1, t3_2, _⟩ := (S35.out.bx 3 rfl).c3
          have lt3 := (S35.out.bx 3 rfl).2.2
          go_wp2_with fail
          clear t1_0 t1_1 t1_2 lt1 t3_0 t3_1 t3_2 lt3
          go_loopg [206] i (fun q u206 wr => ∃ j : Nat, j ≤ i ∧ u206 = .int .i64 j ∧ Hid (j + q = i ∧ Own w wr [seen (some ⟨bl, ol, none⟩) (bools (sures 0 (offs pix dark light))), box Bc 34 [.int .i64 sW, .int .i64 sH, .slice (some ⟨bc, oc, none⟩) i cc], seen (some ⟨bc, oc, none⟩) (bools (neg o2)), box Ba 34 [.int .i64 sW, .int .i64 sH, .slice (some ⟨ba, oa, none⟩) i ca], seen (some ⟨ba, oa, none⟩) (bools (neg (offs pix dark light)))]))
          case atStart => exact ⟨0, by omega, rfl, by omega, S35.out⟩
          case round =>
            obtain ⟨j, hj, rfl, hI⟩ := hrel
            have J1 := Lib.hid hI.out.1
            have J2 := Lib.hid hI.out.2
            clear hI S35
            by_cases hlt2 : j < i
            case neg => as_aux_lemma =>
              obtain rfl : j = i := by omega
              go_wp2_with fail
              go_ret
              exact ⟨rfl, J2.out.bel⟩
            have i2 : (j : Int) < (i : Int) := by omega
            obtain ⟨xa, hxa⟩ : ∃ b, (neg (offs pix dark light))[j]? = some b := ⟨_, List.getElem?_eq_getElem (by rw [HNL.out, HOL.out]; exact hlt2)⟩
            obtain ⟨xc, hxc⟩ : ∃ b, (neg o2)[j]? = some b := ⟨_, List.getElem?_eq_getElem (by rw [HNL.out, HOL2.out]; exact hlt2)⟩
            obtain ⟨xl, hxl⟩ : ∃ b, (sures 0 (offs pix dark light))[j]? = some b := ⟨_, List.getElem?_eq_getElem (by rw [HSL.out, HOL.out]; exact hlt2)⟩
            obtain ⟨kk1, kk2⟩ := HKEY.out j xa xc xl hxa hxc hxl
            have HXA := Lib.hid (bools_at hxa)
            have HXC := Lib.hid (bools_at hxc)
            have HXL := Lib.hid (bools_at hxl)
            clear hxa hxc hxl
            subst kk1
            rcases xa with _ | _ <;> rcases xc with _ | _
            case true.true => exact absurd kk2 (by decide)
            all_goals clear kk2
            all_goals
              obtain ⟨t1_0, t1_1, t1_2, _⟩ := (J2.out.bx 1 rfl).c3
              have lt1 := (J2.out.bx 1 rfl).2.2
              obtain ⟨t3_0, t3_1, t3_2, _⟩ := (J2.out.bx 3 rfl).c3
              have lt3 := (J2.out.bx 3 rfl).2.2
              have m0 := rd_cell (J2.out.rdS 0 rfl) HXL.out
              have m1 := rd_cell (J2.out.rdS 2 rfl) HXC.out
              have m2 := rd_cell (J2.out.rdS 4 rfl) HXA.out
              have n0 := rd_lt (J2.out.rdS 0 rfl) (j := j) (by rw [bools_len', HSL.out, HOL.out]; exact hlt2)
              have n1 := rd_lt (J2.out.rdS 2 rfl) (j := j) (by rw [bools_len', HNL.out, HOL2.out]; exact hlt2)
              have n2 := rd_lt (J2.out.rdS 4 rfl) (j := j) (by rw [bools_len', HNL.out, HOL.out]; exact hlt2)
              go_wp2_with fail
              go_roundg (gk - 1)
              case measure => have := J1.out; omega
              case rel => exact ⟨j + 1, by omega, by go_num, by have := J1.out; omega, J2.out⟩
        · as_aux_lemma =>
          obtain ⟨t9_0, t9_1, t9_2, _⟩ := (I2.out.bx 9 rfl).c3
          have lt9 := (I2.out.bx 9 rfl).2.2
          obtain ⟨t8_0, t8_1, t8_2, t8_3, _⟩ := (I2.out.bx 8 rfl).c4
          have lt8 := (I2.out.bx 8 rfl).2.2
          go_wp2_with fail
          refine (K20b.out HFI.out.symm AU AD AL cU cD cL _ (I2.out.rd 0 rfl) (I2.out.rd 1 rfl) (I2.out.rd 2 rfl)).mono ?_
          rintro e w21 ⟨Ab, cb, hret, ho, hb21⟩
          rw [HNL.out, HOL.out] at hret
          subst hret
          have S21 := Lib.hid ((I2.out.addSeen ho hb21).cast (qs := [seen Ab (bools (neg (offs pix dark light))), row 5 1 (.slice AU i cU) i (u8s (mp (upB b) pix i)), row 5 1 (.slice AD i cD) i (u8s (mp (upB b) dark i)), row 5 1 (.slice AL i cL) i (u8s (mp (upB b) light i)), row 5 1 (.slice AB i cB) i (u8s (mp opB pix i)), row 5 1 (.slice AE i cE) i (u8s (mp opB light i)), row 5 1 (.slice AF i cF) i (u8s (mp opB dark i)), box BX 26 [.int .i64 dW, .int .i64 dH, .slice AE i cE, .slice AF i cF], box BW 24 [.int .i64 sW, .int .i64 sH, .slice AB i cB], box BV 26 [.int .i64 dW, .int .i64 dH, .slice AD i cD, .slice AL i cL], box BU 24 [.int .i64 sW, .int .i64 sH, .slice AU i cU], box Ba 34 [.int .i64 sW, .int .i64 sH, .slice Aa i ca], seen Aa (bools (neg (offs pix dark light))), box (w.heap.size + 1) 26 [.int .i64 dW, .int .i64 dH, .slice (some ⟨bD, oD, none⟩) i c, .slice (some ⟨bL, oL, none⟩) i c'], box w.heap.size 24 [.int .i64 sW, .int .i64 sH, .slice (some ⟨bP, oP, none⟩) i cp]]) rfl)
          clear ho hb21 I2 t9_0 t9_1 t9_2 lt9 t8_0 t8_1 t8_2 t8_3 lt8
          go_upto_region 21 with fail
          have S22 := Lib.hid ((S21.out.new' 34 #[.int .i64 sW, .int .i64 sH, .slice Ab i cb] (B := w21.heap.size) rfl).cast (qs := [box w21.heap.size 34 [.int .i64 sW, .int .i64 sH, .slice Ab i cb], seen Ab (bools (neg (offs pix dark light))), row 5 1 (.slice AU i cU) i (u8s (mp (upB b) pix i)), row 5 1 (.slice AD i cD) i (u8s (mp (upB b) dark i)), row 5 1 (.slice AL i cL) i (u8s (mp (upB b) light i)), row 5 1 (.slice AB i cB) i (u8s (mp opB pix i)), row 5 1 (.slice AE i cE) i (u8s (mp opB light i)), row 5 1 (.slice AF i cF) i (u8s (mp opB dark i)), box BX 26 [.int .i64 dW, .int .i64 dH, .slice AE i cE, .slice AF i cF], box BW 24 [.int .i64 sW, .int .i64 sH, .slice AB i cB], box BV 26 [.int .i64 dW, .int .i64 dH, .slice AD i cD, .slice AL i cL], box BU 24 [.int .i64 sW, .int .i64 sH, .slice AU i cU], box Ba 34 [.int .i64 sW, .int .i64 sH, .slice Aa i ca], seen Aa (bools (neg (offs pix dark light))), box (w.heap.size + 1) 26 [.int .i64 dW, .int .i64 dH, .slice (some ⟨bD, oD, none⟩) i c, .slice (some ⟨bL, oL, none⟩) i c'], box w.heap.size 24 [.int .i64 sW, .int .i64 sH, .slice (some ⟨bP, oP, none⟩) i cp]]) rfl)
          generalize w21.alloc (.cells #[.int .i64 sW, .int .i64 sH, .slice Ab i cb] 34) = w22 at *
          generalize w21.heap.size = Bb at *
          clear S21
          obtain ⟨t0_0, t0_1, t0_2, _⟩ := (S22.out.bx 0 rfl).c3
          have lt0 := (S22.out.bx 0 rfl).2.2
          obtain ⟨t12_0, t12_1, t12_2, _⟩ := (S22.out.bx 12 rfl).c3
          have lt12 := (S22.out.bx 12 rfl).2.2
          go_wp2_with fail
          refine (K22.out Aa Ab ca cb _ (S22.out.rdS 13 rfl) (S22.out.rdS 1 rfl)).mono ?_
          rintro e w23 ⟨rfl, hb23⟩
          have S23 := Lib.hid (S22.out.ext hb23)
          clear hb23 S22 t0_0 t0_1 t0_2 lt0 t12_0 t12_1 t12_2 lt12
          have X1 := Lib.hid (S23.out.sub [5, 6, 7, 8, 9, 12, 13, 14, 15] (by decide) (qs := [row 5 1 (.slice AB i cB) i (u8s (mp opB pix i)), row 5 1 (.slice AE i cE) i (u8s (mp opB light i)), row 5 1 (.slice AF i cF) i (u8s (mp opB dark i)), box BX 26 [.int .i64 dW, .int .i64 dH, .slice AE i cE, .slice AF i cF], box BW 24 [.int .i64 sW, .int .i64 sH, .slice AB i cB], box Ba 34 [.int .i64 sW, .int .i64 sH, .slice Aa i ca], seen Aa (bools (neg (offs pix dark light))), box (w.heap.size + 1) 26 [.int .i64 dW, .int .i64 dH, .slice (some ⟨bD, oD, none⟩) i c, .slice (some ⟨bL, oL, none⟩) i c'], box w.heap.size 24 [.int .i64 sW, .int .i64 sH, .slice (some ⟨bP, oP, none⟩) i cp]]) rfl)
          clear S23
          obtain ⟨t4_0, t4_1, t4_2, _⟩ := (X1.out.bx 4 rfl).c3
          have lt4 := (X1.out.bx 4 rfl).2.2
          obtain ⟨t3_0, t3_1, t3_2, t3_3, _⟩ := (X1.out.bx 3 rfl).c4
          have lt3 := (X1.out.bx 3 rfl).2.2
          go_wp2_with fail
          refine (K20c.out AB AE AF cB cE cF _ (X1.out.rd 0 rfl) (X1.out.rd 1 rfl) (X1.out.rd 2 rfl)).mono ?_
          rintro e w31 ⟨Ac, cc, hret, ho, hb31⟩
          rw [HNL.out, HOL2.out] at hret
          subst hret
          have S31 := Lib.hid ((X1.out.addSeen ho hb31).cast (qs := [seen Ac (bools (neg o2)), row 5 1 (.slice AB i cB) i (u8s (mp opB pix i)), row 5 1 (.slice AE i cE) i (u8s (mp opB light i)), row 5 1 (.slice AF i cF) i (u8s (mp opB dark i)), box BX 26 [.int .i64 dW, .int .i64 dH, .slice AE i cE, .slice AF i cF], box BW 24 [.int .i64 sW, .int .i64 sH, .slice AB i cB], box Ba 34 [.int .i64 sW, .int .i64 sH, .slice Aa i ca], seen Aa (bools (neg (offs pix dark light))), box (w.heap.size + 1) 26 [.int .i64 dW, .int .i64 dH, .slice (some ⟨bD, oD, none⟩) i c, .slice (some ⟨bL, oL, none⟩) i c'], box w.heap.size 24 [.int .i64 sW, .int .i64 sH, .slice (some ⟨bP, oP, none⟩) i cp]]) rfl)
          clear ho hb31 X1 t4_0 t4_1 t4_2 lt4 t3_0 t3_1 t3_2 t3_3 lt3
          go_upto_region 24 with fail
          have S32 := Lib.hid ((S31.out.new' 34 #[.int .i64 sW, .int .i64 sH, .slice Ac i cc] (B := w31.heap.size) rfl).cast (qs := [box w31.heap.size 34 [.int .i64 sW, .int .i64 sH, .slice Ac i cc], seen Ac (bools (neg o2)), row 5 1 (.slice AB i cB) i (u8s (mp opB pix i)), row 5 1 (.slice AE i cE) i (u8s (mp opB light i)), row 5 1 (.slice AF i cF) i (u8s (mp opB dark i)), box BX 26 [.int .i64 dW, .int .i64 dH, .slice AE i cE, .slice AF i cF], box BW 24 [.int .i64 sW, .int .i64 sH, .slice AB i cB], box Ba 34 [.int .i64 sW, .int .i64 sH, .slice Aa i ca], seen Aa (bools (neg (offs pix dark light))), box (w.heap.size + 1) 26 [.int .i64 dW, .int .i64 dH, .slice (some ⟨bD, oD, none⟩) i c, .slice (some ⟨bL, oL, none⟩) i c'], box w.heap.size 24 [.int .i64 sW, .int .i64 sH, .slice (some ⟨bP, oP, none⟩) i cp]]) rfl)
          generalize w31.alloc (.cells #[.int .i64 sW, .int .i64 sH, .slice Ac i cc] 34) = w32 at *
          generalize w31.heap.size = Bc at *
          clear S31
          have S33 := Lib.hid (S32.out.sub [0, 1, 7, 8, 9, 10] (by decide) (qs := [box Bc 34 [.int .i64 sW, .int .i64 sH, .slice Ac i cc], seen Ac (bools (neg o2)), box Ba 34 [.int .i64 sW, .int .i64 sH, .slice Aa i ca], seen Aa (bools (neg (offs pix dark light))), box (w.heap.size + 1) 26 [.int .i64 dW, .int .i64 dH, .slice (some ⟨bD, oD, none⟩) i c, .slice (some ⟨bL, oL, none⟩) i c'], box w.heap.size 24 [.int .i64 sW, .int .i64 sH, .slice (some ⟨bP, oP, none⟩) i cp]]) rfl)
          clear S32
          obtain ⟨t5_0, t5_1, t5_2, _⟩ := (S33.out.bx 5 rfl).c3
          have lt5 := (S33.out.bx 5 rfl).2.2
          obtain ⟨t4_0, t4_1, t4_2, t4_3, _⟩ := (S33.out.bx 4 rfl).c4
          have lt4 := (S33.out.bx 4 rfl).2.2
          go_wp2_with fail
          refine (K23.out _ (HFP.out _ S33.out.bel) (HFD.out _ S33.out.bel) (HFL.out _ S33.out.bel)).mono ?_
          rintro e w34 ⟨Al, cl, hret, ho, hb34⟩
          rw [HSL.out, HOL.out] at hret
          subst hret
          have S34 := Lib.hid ((S33.out.addSeen ho hb34).cast (qs := [seen Al (bools (sures 0 (offs pix dark light))), box Bc 34 [.int .i64 sW, .int .i64 sH, .slice Ac i cc], seen Ac (bools (neg o2)), box Ba 34 [.int .i64 sW, .int .i64 sH, .slice Aa i ca], seen Aa (bools (neg (offs pix dark light))), box (w.heap.size + 1) 26 [.int .i64 dW, .int .i64 dH, .slice (some ⟨bD, oD, none⟩) i c, .slice (some ⟨bL, oL, none⟩) i c'], box w.heap.size 24 [.int .i64 sW, .int .i64 sH, .slice (some ⟨bP, oP, none⟩) i cp]]) rfl)
          clear ho hb34 S33 t5_0 t5_1 t5_2 lt5 t4_0 t4_1 t4_2 t4_3 lt4
          have S35 := Lib.hid (S34.out.sub [0, 1, 2, 3, 4] (by decide) (qs := [seen Al (bools (sures 0 (offs pix dark light))), box Bc 34 [.int .i64 sW, .int .i64 sH, .slice Ac i cc], seen Ac (bools (neg o2)), box Ba 34 [.int .i64 sW, .int .i64 sH, .slice Aa i ca], seen Aa (bools (neg (offs pix dark light)))]) rfl)
          clear S34
          obtain ⟨ba, oa, rfl⟩ := rd_some (S35.out.rdS 4 rfl) (j := 0) (by rw [bools_len', HNL.out, HOL.out]; omega)
          obtain ⟨bc, oc, rfl⟩ := rd_some (S35.out.rdS 2 rfl) (j := 0) (by rw [bools_len', HNL.out, HOL2.out]; omega)
          obtain ⟨bl, ol, rfl⟩ := rd_some (S35.out.rdS 0 rfl) (j := 0) (by rw [bools_len', HSL.out, HOL.out]; omega)
          obtain ⟨t1_0, t1_1, t1_2, _⟩ := (S35.out.bx 1 rfl).c3
          have lt1 := (S35.out.bx 1 rfl).2.2
          obtain ⟨t3_0, t3_1, t3_2, _⟩ := (S35.out.bx 3 rfl).c3
          have lt3 := (S35.out.bx 3 rfl).2.2
          go_wp2_with fail
          clear t1_0 t1_1 t1_2 lt1 t3_0 t3_1 t3_2 lt3
          go_loopg [206] i (fun q u206 wr => ∃ j : Nat, j ≤ i ∧ u206 = .int .i64 j ∧ Hid (j + q = i ∧ Own w wr [seen (some ⟨bl, ol, none⟩) (bools (sures 0 (offs pix dark light))), box Bc 34 [.int .i64 sW, .int .i64 sH, .slice (some ⟨bc, oc, none⟩) i cc], seen (some ⟨bc, oc, none⟩) (bools (neg o2)), box Ba 34 [.int .i64 sW, .int .i64 sH, .slice (some ⟨ba, oa, none⟩) i ca], seen (some ⟨ba, oa, none⟩) (bools (neg (offs pix dark light)))]))
          case atStart => exact ⟨0, by omega, rfl, by omega, S35.out⟩
          case round =>
            obtain ⟨j, hj, rfl, hI⟩ := hrel
            have J1 := Lib.hid hI.out.1
            have J2 := Lib.hid hI.out.2
            clear hI S35
            by_cases hlt2 : j < i
            case neg => as_aux_lemma =>
              obtain rfl : j = i := by omega
              go_wp2_with fail
              go_ret
              exact ⟨rfl, J2.out.bel⟩
            have i2 : (j : Int) < (i : Int) := by omega
            obtain ⟨xa, hxa⟩ : ∃ b, (neg (offs pix dark light))[j]? = some b := ⟨_, List.getElem?_eq_getElem (by rw [HNL.out, HOL.out]; exact hlt2)⟩
            obtain ⟨xc, hxc⟩ : ∃ b, (neg o2)[j]? = some b := ⟨_, List.getElem?_eq_getElem (by rw [HNL.out, HOL2.out]; exact hlt2)⟩
            obtain ⟨xl, hxl⟩ : ∃ b, (sures 0 (offs pix dark light))[j]? = some b := ⟨_, List.getElem?_eq_getElem (by rw [HSL.out, HOL.out]; exact hlt2)⟩
            obtain ⟨kk1, kk2⟩ := HKEY.out j xa xc xl hxa hxc hxl
            have HXA := Lib.hid (bools_at hxa)
            have HXC := Lib.hid (bools_at hxc)
            have HXL := Lib.hid (bools_at hxl)
            clear hxa hxc hxl
            subst kk1
            rcases xa with _ | _ <;> rcases xc with _ | _
            case true.true => exact absurd kk2 (by decide)
            all_goals clear kk2
            all_goals
              obtain ⟨t1_0, t1_1, t1_2, _⟩ := (J2.out.bx 1 rfl).c3
              have lt1 := (J2.out.bx 1 rfl).2.2
              obtain ⟨t3_0, t3_1, t3_2, _⟩ := (J2.out.bx 3 rfl).c3
              have lt3 := (J2.out.bx 3 rfl).2.2
              have m0 := rd_cell (J2.out.rdS 0 rfl) HXL.out
              have m1 := rd_cell (J2.out.rdS 2 rfl) HXC.out
              have m2 := rd_cell (J2.out.rdS 4 rfl) HXA.out
              have n0 := rd_lt (J2.out.rdS 0 rfl) (j := j) (by rw [bools_len', HSL.out, HOL.out]; exact hlt2)
              have n1 := rd_lt (J2.out.rdS 2 rfl) (j := j) (by rw [bools_len', HNL.out, HOL2.out]; exact hlt2)
              have n2 := rd_lt (J2.out.rdS 4 rfl) (j := j) (by rw [bools_len', HNL.out, HOL.out]; exact hlt2)
              go_wp2_with fail
              go_roundg (gk - 1)
              case measure => have := J1.out; omega
              case rel => exact ⟨j + 1, by omega, by go_num, by have := J1.out; omega, J2.out⟩
      as_aux_lemma =>
        have i1 : (i : Int) < (np : Int) := by omega
        obtain ⟨n1, n2, n3⟩ := HLN.out
        have hip : i < pix.length := by omega
        have hid : i < dark.length := by omega
        have hil : i < light.length := by omega
        obtain ⟨kP, lP⟩ := HCP.out _ (HFP.out _ I2.out.bel) i hip
        obtain ⟨kL, lL⟩ := HCL.out _ (HFL.out _ I2.out.bel) i hil
        have GP := Lib.hid (fun W1 h => HCP.out W1 (HFP.out _ h) i hip)
        have GD := Lib.hid (fun W1 h => HCD.out W1 (HFD.out _ h) i hid)
        have GL := Lib.hid (fun W1 h => HCL.out W1 (HFL.out _ h) i hil)
        have HFT := Lib.hid (fitB_succ (b := b) hip hil)
        have HUS := Lib.hid (mp_succ (f := upB b) hip)
        have HDS := Lib.hid (mp_succ (f := upB b) hid)
        have HLS := Lib.hid (mp_succ (f := upB b) hil)
        have HBS := Lib.hid (mp_succ (f := opB) hip)
        have HES := Lib.hid (mp_succ (f := opB) hil)
        have HFS := Lib.hid (mp_succ (f := opB) hid)
        obtain ⟨u1, u2⟩ := HU.out.1 pix[i] (List.getElem_mem hip)
        obtain ⟨u5, u6⟩ := HU.out.2.2 light[i] (List.getElem_mem hil)
        generalize pix[i] = p at *
        generalize dark[i] = d at *
        generalize light[i] = g at *
        have e1 : IntKind.i64.wrap (p + b) = p + b := IntWalk.i64_in _ (by omega)
        have e2 : IntKind.i64.wrap (g + b) = g + b := IntWalk.i64_in _ (by omega)
        clear hip hid hil n1 n2 n3
        obtain ⟨t13_0, t13_1, t13_2, _⟩ := (I2.out.bx 13 rfl).c3
        have lt13 := (I2.out.bx 13 rfl).2.2
        obtain ⟨t12_0, t12_1, t12_2, t12_3, _⟩ := (I2.out.bx 12 rfl).c4
        have lt12 := (I2.out.bx 12 rfl).2.2
        go_upto_region 13 with fail
        go_cut [14] (fun s14 wx => ∃ f1 : Bool, s14 = .bool f1 ∧ Hid (f1 = ((f && decide (p + b < 256)) && decide (g + b < 256)) ∧ wx = wr))
        case first => as_aux_lemma =>
          rcases f with _ | _
          · go_wp2_with fail
            go_meet
            exact ⟨false, rfl, rfl, rfl⟩
          by_cases c1 : p + b < 256
          case neg =>
            have c2 : decide (p + b < 256) = false := by simpa using c1
            go_wp2_with fail
            go_meet
            exact ⟨false, rfl, by rw [c2]; rfl, rfl⟩
          have c2 : decide (p + b < 256) = true := by simpa using c1
          by_cases c3 : g + b < 256
          case neg =>
            have c4 : decide (g + b < 256) = false := by simpa using c3
            go_wp2_with fail
            go_meet
            exact ⟨false, rfl, by rw [c2, c4]; rfl, rfl⟩
          have c4 : decide (g + b < 256) = true := by simpa using c3
          go_wp2_with fail
          go_meet
          exact ⟨true, rfl, by rw [c2, c4]; rfl, rfl⟩
        case rest => as_aux_lemma =>
          obtain ⟨f1, rfl, hcut2⟩ := hcut
          obtain ⟨hf1, rfl⟩ := hcut2.out
          have HF1 := Lib.hid (show f1 = fitB b pix light (i + 1) by rw [HFT.out, ← I0.out]; exact hf1)
          clear hf1 hcut2 e1 e2 u1 u2 u5 u6 kP lP kL lL HFT I0
          clear t13_0 t13_1 t13_2 lt13 t12_0 t12_1 t12_2 t12_3 lt12
          go_wp2_with fail
          have eU : IntKind.u8.wrap (p + b) = upB b p := rfl
          have eV : IntKind.u8.wrap (d + b) = upB b d := rfl
          have eW : IntKind.u8.wrap (g + b) = upB b g := rfl
          have eX : IntKind.u8.wrap (255 - p) = opB p := rfl
          have eY : IntKind.u8.wrap (255 - d) = opB d := rfl
          have eZ : IntKind.u8.wrap (255 - g) = opB g := rfl
          refine wp_region_state 266 [(84, .pointer (some ⟨BU, 2, none⟩)), (85, .slice AU i cU), (86, .pointer (some ⟨w.heap.size, 2, none⟩)), (87, .slice (some ⟨bP, oP, none⟩) np cp), (88, .int .i64 (i : Nat)), (89, .pointer (some ⟨bP, oP + i, none⟩)), (90, .int .u8 p), (91, .int .u8 b), (92, .int .u8 (upB b p)), (95, .pointer (some ⟨BU, 2, none⟩))] (fun L vs w' => Own w w' [cond (L 10) (row 5 1 (vs 94) (i + 1) (u8s (mp (upB b) pix (i + 1)))) (row 5 1 (.slice AU i cU) i (u8s (mp (upB b) pix i))), row 5 1 (.slice AD i cD) i (u8s (mp (upB b) dark i)), row 5 1 (.slice AL i cL) i (u8s (mp (upB b) light i)), row 5 1 (.slice AB i cB) i (u8s (mp opB pix i)), row 5 1 (.slice AE i cE) i (u8s (mp opB light i)), row 5 1 (.slice AF i cF) i (u8s (mp opB dark i)), box BX 26 [.int .i64 dW, .int .i64 dH, .slice AE i cE, .slice AF i cF], box BW 24 [.int .i64 sW, .int .i64 sH, .slice AB i cB], box BV 26 [.int .i64 dW, .int .i64 dH, .slice AD i cD, .slice AL i cL], box BU 24 [.int .i64 sW, .int .i64 sH, cond (L 12) (vs 94) (.slice AU i cU)], box Ba 34 [.int .i64 sW, .int .i64 sH, .slice Aa np ca], seen Aa (bools (neg (offs pix dark light))), box (w.heap.size + 1) 26 [.int .i64 dW, .int .i64 dH, .slice (some ⟨bD, oD, none⟩) np c, .slice (some ⟨bL, oL, none⟩) np c'], box w.heap.size 24 [.int .i64 sW, .int .i64 sH, .slice (some ⟨bP, oP, none⟩) np cp], cond (L 9) (row 5 1 (vs 93) 1 [.int .u8 (upB b p)]) (row 5 1 (.slice none 0 0) 0 [])]) (by kernel_rfl) (by kernel_rfl) [84, 85, 86, 87, 88, 89, 90, 91, 92, 93, 94, 95] (by kernel_rfl) rfl (by kernel_rfl) 13 rfl ?_ ?_ ?_
          · exact fun L hL => (((I2.out.nil 5 1).sub [1, 2, 3, 4, 5, 6, 7, 8, 9, 10, 11, 12, 13, 14, 0] (by decide) (qs := [row 5 1 (.slice AU i cU) i (u8s (mp (upB b) pix i)), row 5 1 (.slice AD i cD) i (u8s (mp (upB b) dark i)), row 5 1 (.slice AL i cL) i (u8s (mp (upB b) light i)), row 5 1 (.slice AB i cB) i (u8s (mp opB pix i)), row 5 1 (.slice AE i cE) i (u8s (mp opB light i)), row 5 1 (.slice AF i cF) i (u8s (mp opB dark i)), box BX 26 [.int .i64 dW, .int .i64 dH, .slice AE i cE, .slice AF i cF], box BW 24 [.int .i64 sW, .int .i64 sH, .slice AB i cB], box BV 26 [.int .i64 dW, .int .i64 dH, .slice AD i cD, .slice AL i cL], box BU 24 [.int .i64 sW, .int .i64 sH, .slice AU i cU], box Ba 34 [.int .i64 sW, .int .i64 sH, .slice Aa np ca], seen Aa (bools (neg (offs pix dark light))), box (w.heap.size + 1) 26 [.int .i64 dW, .int .i64 dH, .slice (some ⟨bD, oD, none⟩) np c, .slice (some ⟨bL, oL, none⟩) np c'], box w.heap.size 24 [.int .i64 sW, .int .i64 sH, .slice (some ⟨bP, oP, none⟩) np cp], row 5 1 (.slice none 0 0) 0 []]) rfl).ext (Below.refl _ _).drew).cast (by simp [hL 9 (by decide), hL 10 (by decide), hL 12 (by decide)])
          · refine ⟨StepS.of [] (by kernel_rfl) ?_, ?_⟩
            · intro L vs wq hL hA hC hJ
              unfold forAll
              exact StepV.val 84 (by kernel_rfl) (by kernel_rfl) rfl (by simp) rfl rfl hJ
            refine ⟨StepS.of [84] (by kernel_rfl) ?_, ?_⟩
            · intro L vs wq hL hA hC hJ h84
              rw [(show vs 84 = .pointer (some ⟨BU, 2, none⟩) from h84)]
              unfold forAll
              have hs := hC.no (j := 12) (i := 1) (by kernel_rfl) hL
              have t2 := (hJ.bx 9 rfl).1 2 _ rfl
              rw [hs] at t2
              simp only [cond_false] at t2
              exact StepV.val 85 (by kernel_rfl) (by go_simp) rfl (by simp [Act.put]) rfl rfl hJ
            refine ⟨StepS.of [] (by kernel_rfl) ?_, ?_⟩
            · intro L vs wq hL hA hC hJ
              unfold forAll
              exact StepV.val 86 (by kernel_rfl) (by kernel_rfl) rfl (by simp) rfl rfl hJ
            refine ⟨StepS.of [86] (by kernel_rfl) ?_, ?_⟩
            · intro L vs wq hL hA hC hJ h86
              rw [(show vs 86 = .pointer (some ⟨w.heap.size, 2, none⟩) from h86)]
              unfold forAll
              obtain ⟨t0, t1, t2, _⟩ := (hJ.bx 13 rfl).c3
              exact StepV.val 87 (by kernel_rfl) (by go_simp) rfl (by simp [Act.put]) rfl rfl hJ
            refine ⟨StepS.of [] (by kernel_rfl) ?_, ?_⟩
            · intro L vs wq hL hA hC hJ
              unfold forAll
              exact StepV.val 88 (by kernel_rfl) (by kernel_rfl) rfl (by simp) rfl rfl hJ
            refine ⟨StepS.of [87, 88] (by kernel_rfl) ?_, ?_⟩
            · intro L vs wq hL hA hC hJ h87 h88
              rw [(show vs 87 = .slice (some ⟨bP, oP, none⟩) np cp from h87), (show vs 88 = .int .i64 (i : Nat) from h88)]
              unfold forAll
              exact StepV.val 89 (by kernel_rfl) (by go_simp) rfl (by simp [Act.put]) rfl rfl hJ
            refine ⟨StepS.of [89] (by kernel_rfl) ?_, ?_⟩
            · intro L vs wq hL hA hC hJ h89
              rw [(show vs 89 = .pointer (some ⟨bP, oP + i, none⟩) from h89)]
              unfold forAll
              obtain ⟨kk, lk⟩ := GP.out _ hJ.bel
              exact StepV.val 90 (by kernel_rfl) (by go_simp) rfl (by simp [Act.put]) rfl rfl hJ
            refine ⟨StepS.of [] (by kernel_rfl) ?_, ?_⟩
            · intro L vs wq hL hA hC hJ
              unfold forAll
              exact StepV.val 91 (by kernel_rfl) (by kernel_rfl) rfl (by simp) rfl rfl hJ
            refine ⟨StepS.of [90, 91] (by kernel_rfl) ?_, ?_⟩
            · intro L vs wq hL hA hC hJ h90 h91
              rw [(show vs 90 = .int .u8 p from h90), (show vs 91 = .int .u8 b from h91)]
              unfold forAll
              exact StepV.val 92 (by kernel_rfl) (by go_simp) rfl (by simp [Act.put]) rfl rfl hJ
            refine ⟨StepS.of [92] (by kernel_rfl) ?_, ?_⟩
            · intro L vs wq hL hA hC hJ h92
              rw [(show vs 92 = .int .u8 (upB b p) from h92)]
              unfold forAll
              have ha := hC.no (j := 10) (i := 9) (by kernel_rfl) hL
              have hs := hC.no (j := 12) (i := 9) (by kernel_rfl) hL
              have K := Own.cast (qs := [row 5 1 (.slice AU i cU) i (u8s (mp (upB b) pix i)), row 5 1 (.slice AD i cD) i (u8s (mp (upB b) dark i)), row 5 1 (.slice AL i cL) i (u8s (mp (upB b) light i)), row 5 1 (.slice AB i cB) i (u8s (mp opB pix i)), row 5 1 (.slice AE i cE) i (u8s (mp opB light i)), row 5 1 (.slice AF i cF) i (u8s (mp opB dark i)), box BX 26 [.int .i64 dW, .int .i64 dH, .slice AE i cE, .slice AF i cF], box BW 24 [.int .i64 sW, .int .i64 sH, .slice AB i cB], box BV 26 [.int .i64 dW, .int .i64 dH, .slice AD i cD, .slice AL i cL], box BU 24 [.int .i64 sW, .int .i64 sH, .slice AU i cU], box Ba 34 [.int .i64 sW, .int .i64 sH, .slice Aa np ca], seen Aa (bools (neg (offs pix dark light))), box (w.heap.size + 1) 26 [.int .i64 dW, .int .i64 dH, .slice (some ⟨bD, oD, none⟩) np c, .slice (some ⟨bL, oL, none⟩) np c'], box w.heap.size 24 [.int .i64 sW, .int .i64 sH, .slice (some ⟨bP, oP, none⟩) np cp], row 5 1 (.slice none 0 0) 0 []]) hJ (by simp [hL, ha, hs])
              have K2 := (K.new' 5 #[.int .u8 (upB b p)] (B := wq.heap.size) rfl).asRow (size := 1) (n := 1) 0 rfl rfl (by unfold maxLen; omega)
              have K3 := K2.sub [1, 2, 3, 4, 5, 6, 7, 8, 9, 10, 11, 12, 13, 14, 0] (by decide) (qs := [row 5 1 (.slice AU i cU) i (u8s (mp (upB b) pix i)), row 5 1 (.slice AD i cD) i (u8s (mp (upB b) dark i)), row 5 1 (.slice AL i cL) i (u8s (mp (upB b) light i)), row 5 1 (.slice AB i cB) i (u8s (mp opB pix i)), row 5 1 (.slice AE i cE) i (u8s (mp opB light i)), row 5 1 (.slice AF i cF) i (u8s (mp opB dark i)), box BX 26 [.int .i64 dW, .int .i64 dH, .slice AE i cE, .slice AF i cF], box BW 24 [.int .i64 sW, .int .i64 sH, .slice AB i cB], box BV 26 [.int .i64 dW, .int .i64 dH, .slice AD i cD, .slice AL i cL], box BU 24 [.int .i64 sW, .int .i64 sH, .slice AU i cU], box Ba 34 [.int .i64 sW, .int .i64 sH, .slice Aa np ca], seen Aa (bools (neg (offs pix dark light))), box (w.heap.size + 1) 26 [.int .i64 dW, .int .i64 dH, .slice (some ⟨bD, oD, none⟩) np c, .slice (some ⟨bL, oL, none⟩) np c'], box w.heap.size 24 [.int .i64 sW, .int .i64 sH, .slice (some ⟨bP, oP, none⟩) np cp], row 5 1 (.slice (some ⟨wq.heap.size, 0, none⟩) 1 1) 1 [.int .u8 (upB b p)]]) rfl
              exact StepV.val 93 (v := .slice (some ⟨wq.heap.size, 0, none⟩) 1 1) (w' := wq.alloc (.cells #[.int .u8 (upB b p)] 5)) (by kernel_rfl) (by go_simp) rfl (by simp [Act.put]) rfl trivial (K3.cast (by simp [upd, updv, ha, hs]))
            refine ⟨StepS.of [85, 93] (by kernel_rfl) ?_, ?_⟩
            · intro L vs wq hL hA hC hJ h85 h93
              rw [(show vs 85 = .slice AU i cU from h85)]
              unfold forAll
              have hb := afterS hA (i := 9) (by kernel_rfl)
              have hs := hC.no (j := 12) (i := 10) (by kernel_rfl) hL
              have K := Own.cast (qs := [row 5 1 (.slice AU i cU) i (u8s (mp (upB b) pix i)), row 5 1 (.slice AD i cD) i (u8s (mp (upB b) dark i)), row 5 1 (.slice AL i cL) i (u8s (mp (upB b) light i)), row 5 1 (.slice AB i cB) i (u8s (mp opB pix i)), row 5 1 (.slice AE i cE) i (u8s (mp opB light i)), row 5 1 (.slice AF i cF) i (u8s (mp opB dark i)), box BX 26 [.int .i64 dW, .int .i64 dH, .slice AE i cE, .slice AF i cF], box BW 24 [.int .i64 sW, .int .i64 sH, .slice AB i cB], box BV 26 [.int .i64 dW, .int .i64 dH, .slice AD i cD, .slice AL i cL], box BU 24 [.int .i64 sW, .int .i64 sH, .slice AU i cU], box Ba 34 [.int .i64 sW, .int .i64 sH, .slice Aa np ca], seen Aa (bools (neg (offs pix dark light))), box (w.heap.size + 1) 26 [.int .i64 dW, .int .i64 dH, .slice (some ⟨bD, oD, none⟩) np c, .slice (some ⟨bL, oL, none⟩) np c'], box w.heap.size 24 [.int .i64 sW, .int .i64 sH, .slice (some ⟨bP, oP, none⟩) np cp], row 5 1 (vs 93) 1 [.int .u8 (upB b p)]]) hJ (by simp [hL, hb, hs])
              obtain ⟨A8, c8, e8, ho8⟩ := rd_of_own (K.get 14 rfl)
              rw [e8]
              refine StepV.app 94 rfl (.tmp 85) (.tmp 93) 22 rfl rfl (by simp [Act.put]) rfl st22 0 K rfl (by simp [Act.eval, Act.put]) (by simp [Act.eval, Act.put]; rfl) (i + 1) (u8s (mp (upB b) pix (i + 1))) [.int .u8 (upB b p)] rfl (by rw [HUS.out]; simp [u8s]) ho8.rd rfl (by simp [Value.oneCell']) (by unfold maxLen; omega) (by omega) ?_
              intro A9 c9 w9 hO9
              exact ⟨trivial, hO9.cast (by simp [upd, updv, hb, hs, e8])⟩
            refine ⟨StepS.of [] (by kernel_rfl) ?_, ?_⟩
            · intro L vs wq hL hA hC hJ
              unfold forAll
              exact StepV.val 95 (by kernel_rfl) (by kernel_rfl) rfl (by simp) rfl rfl hJ
            refine ⟨StepS.of [95, 94] (by kernel_rfl) ?_, ?_⟩
            · intro L vs wq hL hA hC hJ h95 h94
              rw [(show vs 95 = .pointer (some ⟨BU, 2, none⟩) from h95)]
              unfold forAll
              have ha := afterS hA (i := 10) (by kernel_rfl)
              have hb := hC.yes (j := 10) (i := 9) (by kernel_rfl) ha
              have K := Own.cast (qs := [row 5 1 (vs 94) (i + 1) (u8s (mp (upB b) pix (i + 1))), row 5 1 (.slice AD i cD) i (u8s (mp (upB b) dark i)), row 5 1 (.slice AL i cL) i (u8s (mp (upB b) light i)), row 5 1 (.slice AB i cB) i (u8s (mp opB pix i)), row 5 1 (.slice AE i cE) i (u8s (mp opB light i)), row 5 1 (.slice AF i cF) i (u8s (mp opB dark i)), box BX 26 [.int .i64 dW, .int .i64 dH, .slice AE i cE, .slice AF i cF], box BW 24 [.int .i64 sW, .int .i64 sH, .slice AB i cB], box BV 26 [.int .i64 dW, .int .i64 dH, .slice AD i cD, .slice AL i cL], box BU 24 [.int .i64 sW, .int .i64 sH, .slice AU i cU], box Ba 34 [.int .i64 sW, .int .i64 sH, .slice Aa np ca], seen Aa (bools (neg (offs pix dark light))), box (w.heap.size + 1) 26 [.int .i64 dW, .int .i64 dH, .slice (some ⟨bD, oD, none⟩) np c, .slice (some ⟨bL, oL, none⟩) np c'], box w.heap.size 24 [.int .i64 sW, .int .i64 sH, .slice (some ⟨bP, oP, none⟩) np cp], row 5 1 (vs 93) 1 [.int .u8 (upB b p)]]) hJ (by simp [hL, hb, ha])
              obtain ⟨A9, c9, e9, _⟩ := rd_of_own (K.get 0 rfl)
              rw [e9]
              have t0 := (K.bx 9 rfl).1 2 _ rfl
              have tf := (K.bx 9 rfl).2.1
              have tl := (K.bx 9 rfl).2.2
              exact StepV.skip (by kernel_rfl) (by go_simp) rfl rfl ((K.set 9 rfl 2 (.slice A9 (i + 1) c9)).cast (by simp [upd, hb, ha, e9]))
            exact trivial
          · intro vs v14 hJ h84 h85 h86 h87 h88 h89 h90 h91 h92 h93 h94 h95
            rw [(show vs 84 = .pointer (some ⟨BU, 2, none⟩) from h84), (show vs 85 = .slice AU i cU from h85), (show vs 86 = .pointer (some ⟨w.heap.size, 2, none⟩) from h86), (show vs 87 = .slice (some ⟨bP, oP, none⟩) np cp from h87), (show vs 88 = .int .i64 (i : Nat) from h88), (show vs 89 = .pointer (some ⟨bP, oP + i, none⟩) from h89), (show vs 90 = .int .u8 p from h90), (show vs 91 = .int .u8 b from h91), (show vs 92 = .int .u8 (upB b p) from h92), (show vs 95 = .pointer (some ⟨BU, 2, none⟩) from h95)]
            clear h84 h85 h86 h87 h88 h89 h90 h91 h92 h93 h94 h95
            have K := Own.cast (qs := [row 5 1 (vs 94) (i + 1) (u8s (mp (upB b) pix (i + 1))), row 5 1 (.slice AD i cD) i (u8s (mp (upB b) dark i)), row 5 1 (.slice AL i cL) i (u8s (mp (upB b) light i)), row 5 1 (.slice AB i cB) i (u8s (mp opB pix i)), row 5 1 (.slice AE i cE) i (u8s (mp opB light i)), row 5 1 (.slice AF i cF) i (u8s (mp opB dark i)), box BX 26 [.int .i64 dW, .int .i64 dH, .slice AE i cE, .slice AF i cF], box BW 24 [.int .i64 sW, .int .i64 sH, .slice AB i cB], box BV 26 [.int .i64 dW, .int .i64 dH, .slice AD i cD, .slice AL i cL], box BU 24 [.int .i64 sW, .int .i64 sH, vs 94], box Ba 34 [.int .i64 sW, .int .i64 sH, .slice Aa np ca], seen Aa (bools (neg (offs pix dark light))), box (w.heap.size + 1) 26 [.int .i64 dW, .int .i64 dH, .slice (some ⟨bD, oD, none⟩) np c, .slice (some ⟨bL, oL, none⟩) np c'], box w.heap.size 24 [.int .i64 sW, .int .i64 sH, .slice (some ⟨bP, oP, none⟩) np cp], row 5 1 (vs 93) 1 [.int .u8 (upB b p)]]) hJ rfl
            obtain ⟨AU1, cU1, e0, _⟩ := rd_of_own (K.get 0 rfl)
            obtain ⟨_, _, f0, _⟩ := rd_of_own (K.get 14 rfl)
            rw [e0] at K
            rw [e0, f0]
            have R14 := Lib.hid (K.sub [0, 1, 2, 3, 4, 5, 6, 7, 8, 9, 10, 11, 12, 13] (by decide) (qs := [row 5 1 (.slice AU1 (i + 1) cU1) (i + 1) (u8s (mp (upB b) pix (i + 1))), row 5 1 (.slice AD i cD) i (u8s (mp (upB b) dark i)), row 5 1 (.slice AL i cL) i (u8s (mp (upB b) light i)), row 5 1 (.slice AB i cB) i (u8s (mp opB pix i)), row 5 1 (.slice AE i cE) i (u8s (mp opB light i)), row 5 1 (.slice AF i cF) i (u8s (mp opB dark i)), box BX 26 [.int .i64 dW, .int .i64 dH, .slice AE i cE, .slice AF i cF], box BW 24 [.int .i64 sW, .int .i64 sH, .slice AB i cB], box BV 26 [.int .i64 dW, .int .i64 dH, .slice AD i cD, .slice AL i cL], box BU 24 [.int .i64 sW, .int .i64 sH, .slice AU1 (i + 1) cU1], box Ba 34 [.int .i64 sW, .int .i64 sH, .slice Aa np ca], seen Aa (bools (neg (offs pix dark light))), box (w.heap.size + 1) 26 [.int .i64 dW, .int .i64 dH, .slice (some ⟨bD, oD, none⟩) np c, .slice (some ⟨bL, oL, none⟩) np c'], box w.heap.size 24 [.int .i64 sW, .int .i64 sH, .slice (some ⟨bP, oP, none⟩) np cp]]) rfl)
            clear K hJ e0 f0
            unfold forAll
            simp only [Act.put, List.setIfInBounds_toArray, List.set_cons_zero, List.set_cons_succ]
            clear I2
            go_wp2_with fail
            refine wp_region_state 266 [(96, .pointer (some ⟨BV, 2, none⟩)), (97, .slice AD i cD), (98, .pointer (some ⟨w.heap.size + 1, 2, none⟩)), (99, .slice (some ⟨bD, oD, none⟩) np c), (100, .int .i64 (i : Nat)), (101, .pointer (some ⟨bD, oD + i, none⟩)), (102, .int .u8 d), (103, .int .u8 b), (104, .int .u8 (upB b d)), (107, .pointer (some ⟨BV, 3, none⟩)), (108, .slice AL i cL), (109, .pointer (some ⟨w.heap.size + 1, 3, none⟩)), (110, .slice (some ⟨bL, oL, none⟩) np c'), (111, .int .i64 (i : Nat)), (112, .pointer (some ⟨bL, oL + i, none⟩)), (113, .int .u8 g), (114, .int .u8 b), (115, .int .u8 (upB b g)), (118, .pointer (some ⟨BV, 2, none⟩)), (119, .pointer (some ⟨BV, 3, none⟩))] (fun L vs w' => Own w w' [row 5 1 (.slice AU1 (i + 1) cU1) (i + 1) (u8s (mp (upB b) pix (i + 1))), cond (L 10) (row 5 1 (vs 106) (i + 1) (u8s (mp (upB b) dark (i + 1)))) (row 5 1 (.slice AD i cD) i (u8s (mp (upB b) dark i))), cond (L 21) (row 5 1 (vs 117) (i + 1) (u8s (mp (upB b) light (i + 1)))) (row 5 1 (.slice AL i cL) i (u8s (mp (upB b) light i))), row 5 1 (.slice AB i cB) i (u8s (mp opB pix i)), row 5 1 (.slice AE i cE) i (u8s (mp opB light i)), row 5 1 (.slice AF i cF) i (u8s (mp opB dark i)), box BX 26 [.int .i64 dW, .int .i64 dH, .slice AE i cE, .slice AF i cF], box BW 24 [.int .i64 sW, .int .i64 sH, .slice AB i cB], box BV 26 [.int .i64 dW, .int .i64 dH, cond (L 23) (vs 106) (.slice AD i cD), cond (L 25) (vs 117) (.slice AL i cL)], box BU 24 [.int .i64 sW, .int .i64 sH, .slice AU1 (i + 1) cU1], box Ba 34 [.int .i64 sW, .int .i64 sH, .slice Aa np ca], seen Aa (bools (neg (offs pix dark light))), box (w.heap.size + 1) 26 [.int .i64 dW, .int .i64 dH, .slice (some ⟨bD, oD, none⟩) np c, .slice (some ⟨bL, oL, none⟩) np c'], box w.heap.size 24 [.int .i64 sW, .int .i64 sH, .slice (some ⟨bP, oP, none⟩) np cp], cond (L 9) (row 5 1 (vs 105) 1 [.int .u8 (upB b d)]) (row 5 1 (.slice none 0 0) 0 []), cond (L 20) (row 5 1 (vs 116) 1 [.int .u8 (upB b g)]) (row 5 1 (.slice none 0 0) 0 [])]) (by kernel_rfl) (by kernel_rfl) [96, 97, 98, 99, 100, 101, 102, 103, 104, 105, 106, 107, 108, 109, 110, 111, 112, 113, 114, 115, 116, 117, 118, 119] (by kernel_rfl) rfl (by kernel_rfl) 26 rfl ?_ ?_ ?_
            · exact fun L hL => ((((R14.out.nil 5 1).nil 5 1).sub [2, 3, 4, 5, 6, 7, 8, 9, 10, 11, 12, 13, 14, 15, 0, 1] (by decide) (qs := [row 5 1 (.slice AU1 (i + 1) cU1) (i + 1) (u8s (mp (upB b) pix (i + 1))), row 5 1 (.slice AD i cD) i (u8s (mp (upB b) dark i)), row 5 1 (.slice AL i cL) i (u8s (mp (upB b) light i)), row 5 1 (.slice AB i cB) i (u8s (mp opB pix i)), row 5 1 (.slice AE i cE) i (u8s (mp opB light i)), row 5 1 (.slice AF i cF) i (u8s (mp opB dark i)), box BX 26 [.int .i64 dW, .int .i64 dH, .slice AE i cE, .slice AF i cF], box BW 24 [.int .i64 sW, .int .i64 sH, .slice AB i cB], box BV 26 [.int .i64 dW, .int .i64 dH, .slice AD i cD, .slice AL i cL], box BU 24 [.int .i64 sW, .int .i64 sH, .slice AU1 (i + 1) cU1], box Ba 34 [.int .i64 sW, .int .i64 sH, .slice Aa np ca], seen Aa (bools (neg (offs pix dark light))), box (w.heap.size + 1) 26 [.int .i64 dW, .int .i64 dH, .slice (some ⟨bD, oD, none⟩) np c, .slice (some ⟨bL, oL, none⟩) np c'], box w.heap.size 24 [.int .i64 sW, .int .i64 sH, .slice (some ⟨bP, oP, none⟩) np cp], row 5 1 (.slice none 0 0) 0 [], row 5 1 (.slice none 0 0) 0 []]) rfl).ext (Below.refl _ _).drew).cast (by simp [hL 9 (by decide), hL 10 (by decide), hL 23 (by decide), hL 20 (by decide), hL 21 (by decide), hL 25 (by decide)])
            · refine ⟨StepS.of [] (by kernel_rfl) ?_, ?_⟩
              · intro L vs wq hL hA hC hJ
                unfold forAll
                exact StepV.val 96 (by kernel_rfl) (by kernel_rfl) rfl (by simp) rfl rfl hJ
              refine ⟨StepS.of [96] (by kernel_rfl) ?_, ?_⟩
              · intro L vs wq hL hA hC hJ h96
                rw [(show vs 96 = .pointer (some ⟨BV, 2, none⟩) from h96)]
                unfold forAll
                have hs := hC.no (j := 23) (i := 1) (by kernel_rfl) hL
                have t2 := (hJ.bx 8 rfl).1 2 _ rfl
                rw [hs] at t2
                simp only [cond_false] at t2
                exact StepV.val 97 (by kernel_rfl) (by go_simp) rfl (by simp [Act.put]) rfl rfl hJ
              refine ⟨StepS.of [] (by kernel_rfl) ?_, ?_⟩
              · intro L vs wq hL hA hC hJ
                unfold forAll
                exact StepV.val 98 (by kernel_rfl) (by kernel_rfl) rfl (by simp) rfl rfl hJ
              refine ⟨StepS.of [98] (by kernel_rfl) ?_, ?_⟩
              · intro L vs wq hL hA hC hJ h98
                rw [(show vs 98 = .pointer (some ⟨w.heap.size + 1, 2, none⟩) from h98)]
                unfold forAll
                obtain ⟨t0, t1, t2, t3, _⟩ := (hJ.bx 12 rfl).c4
                exact StepV.val 99 (by kernel_rfl) (by go_simp) rfl (by simp [Act.put]) rfl rfl hJ
              refine ⟨StepS.of [] (by kernel_rfl) ?_, ?_⟩
              · intro L vs wq hL hA hC hJ
                unfold forAll
                exact StepV.val 100 (by kernel_rfl) (by kernel_rfl) rfl (by simp) rfl rfl hJ
              refine ⟨StepS.of [99, 100] (by kernel_rfl) ?_, ?_⟩
              · intro L vs wq hL hA hC hJ h99 h100
                rw [(show vs 99 = .slice (some ⟨bD, oD, none⟩) np c from h99), (show vs 100 = .int .i64 (i : Nat) from h100)]
                unfold forAll
                exact StepV.val 101 (by kernel_rfl) (by go_simp) rfl (by simp [Act.put]) rfl rfl hJ
              refine ⟨StepS.of [101] (by kernel_rfl) ?_, ?_⟩
              · intro L vs wq hL hA hC hJ h101
                rw [(show vs 101 = .pointer (some ⟨bD, oD + i, none⟩) from h101)]
                unfold forAll
                obtain ⟨kk, lk⟩ := GD.out _ hJ.bel
                exact StepV.val 102 (by kernel_rfl) (by go_simp) rfl (by simp [Act.put]) rfl rfl hJ
              refine ⟨StepS.of [] (by kernel_rfl) ?_, ?_⟩
              · intro L vs wq hL hA hC hJ
                unfold forAll
                exact StepV.val 103 (by kernel_rfl) (by kernel_rfl) rfl (by simp) rfl rfl hJ
              refine ⟨StepS.of [102, 103] (by kernel_rfl) ?_, ?_⟩
              · intro L vs wq hL hA hC hJ h102 h103
                rw [(show vs 102 = .int .u8 d from h102), (show vs 103 = .int .u8 b from h103)]
                unfold forAll
                exact StepV.val 104 (by kernel_rfl) (by go_simp) rfl (by simp [Act.put]) rfl rfl hJ
              refine ⟨StepS.of [104] (by kernel_rfl) ?_, ?_⟩
              · intro L vs wq hL hA hC hJ h104
                rw [(show vs 104 = .int .u8 (upB b d) from h104)]
                unfold forAll
                have ha := hC.no (j := 10) (i := 9) (by kernel_rfl) hL
                have hs := hC.no (j := 23) (i := 9) (by kernel_rfl) hL
                have K := Own.cast (qs := [row 5 1 (.slice AU1 (i + 1) cU1) (i + 1) (u8s (mp (upB b) pix (i + 1))), row 5 1 (.slice AD i cD) i (u8s (mp (upB b) dark i)), cond (L 21) (row 5 1 (vs 117) (i + 1) (u8s (mp (upB b) light (i + 1)))) (row 5 1 (.slice AL i cL) i (u8s (mp (upB b) light i))), row 5 1 (.slice AB i cB) i (u8s (mp opB pix i)), row 5 1 (.slice AE i cE) i (u8s (mp opB light i)), row 5 1 (.slice AF i cF) i (u8s (mp opB dark i)), box BX 26 [.int .i64 dW, .int .i64 dH, .slice AE i cE, .slice AF i cF], box BW 24 [.int .i64 sW, .int .i64 sH, .slice AB i cB], box BV 26 [.int .i64 dW, .int .i64 dH, .slice AD i cD, cond (L 25) (vs 117) (.slice AL i cL)], box BU 24 [.int .i64 sW, .int .i64 sH, .slice AU1 (i + 1) cU1], box Ba 34 [.int .i64 sW, .int .i64 sH, .slice Aa np ca], seen Aa (bools (neg (offs pix dark light))), box (w.heap.size + 1) 26 [.int .i64 dW, .int .i64 dH, .slice (some ⟨bD, oD, none⟩) np c, .slice (some ⟨bL, oL, none⟩) np c'], box w.heap.size 24 [.int .i64 sW, .int .i64 sH, .slice (some ⟨bP, oP, none⟩) np cp], row 5 1 (.slice none 0 0) 0 [], cond (L 20) (row 5 1 (vs 116) 1 [.int .u8 (upB b g)]) (row 5 1 (.slice none 0 0) 0 [])]) hJ (by simp [hL, ha, hs])
                have K2 := (K.new' 5 #[.int .u8 (upB b d)] (B := wq.heap.size) rfl).asRow (size := 1) (n := 1) 0 rfl rfl (by unfold maxLen; omega)
                have K3 := K2.sub [1, 2, 3, 4, 5, 6, 7, 8, 9, 10, 11, 12, 13, 14, 0, 16] (by decide) (qs := [row 5 1 (.slice AU1 (i + 1) cU1) (i + 1) (u8s (mp (upB b) pix (i + 1))), row 5 1 (.slice AD i cD) i (u8s (mp (upB b) dark i)), cond (L 21) (row 5 1 (vs 117) (i + 1) (u8s (mp (upB b) light (i + 1)))) (row 5 1 (.slice AL i cL) i (u8s (mp (upB b) light i))), row 5 1 (.slice AB i cB) i (u8s (mp opB pix i)), row 5 1 (.slice AE i cE) i (u8s (mp opB light i)), row 5 1 (.slice AF i cF) i (u8s (mp opB dark i)), box BX 26 [.int .i64 dW, .int .i64 dH, .slice AE i cE, .slice AF i cF], box BW 24 [.int .i64 sW, .int .i64 sH, .slice AB i cB], box BV 26 [.int .i64 dW, .int .i64 dH, .slice AD i cD, cond (L 25) (vs 117) (.slice AL i cL)], box BU 24 [.int .i64 sW, .int .i64 sH, .slice AU1 (i + 1) cU1], box Ba 34 [.int .i64 sW, .int .i64 sH, .slice Aa np ca], seen Aa (bools (neg (offs pix dark light))), box (w.heap.size + 1) 26 [.int .i64 dW, .int .i64 dH, .slice (some ⟨bD, oD, none⟩) np c, .slice (some ⟨bL, oL, none⟩) np c'], box w.heap.size 24 [.int .i64 sW, .int .i64 sH, .slice (some ⟨bP, oP, none⟩) np cp], row 5 1 (.slice (some ⟨wq.heap.size, 0, none⟩) 1 1) 1 [.int .u8 (upB b d)], cond (L 20) (row 5 1 (vs 116) 1 [.int .u8 (upB b g)]) (row 5 1 (.slice none 0 0) 0 [])]) rfl
                exact StepV.val 105 (v := .slice (some ⟨wq.heap.size, 0, none⟩) 1 1) (w' := wq.alloc (.cells #[.int .u8 (upB b d)] 5)) (by kernel_rfl) (by go_simp) rfl (by simp [Act.put]) rfl trivial (K3.cast (by simp [upd, updv, ha, hs]))
              refine ⟨StepS.of [97, 105] (by kernel_rfl) ?_, ?_⟩
              · intro L vs wq hL hA hC hJ h97 h105
                rw [(show vs 97 = .slice AD i cD from h97)]
                unfold forAll
                have hb := afterS hA (i := 9) (by kernel_rfl)
                have hs := hC.no (j := 23) (i := 10) (by kernel_rfl) hL
                have K := Own.cast (qs := [row 5 1 (.slice AU1 (i + 1) cU1) (i + 1) (u8s (mp (upB b) pix (i + 1))), row 5 1 (.slice AD i cD) i (u8s (mp (upB b) dark i)), cond (L 21) (row 5 1 (vs 117) (i + 1) (u8s (mp (upB b) light (i + 1)))) (row 5 1 (.slice AL i cL) i (u8s (mp (upB b) light i))), row 5 1 (.slice AB i cB) i (u8s (mp opB pix i)), row 5 1 (.slice AE i cE) i (u8s (mp opB light i)), row 5 1 (.slice AF i cF) i (u8s (mp opB dark i)), box BX 26 [.int .i64 dW, .int .i64 dH, .slice AE i cE, .slice AF i cF], box BW 24 [.int .i64 sW, .int .i64 sH, .slice AB i cB], box BV 26 [.int .i64 dW, .int .i64 dH, .slice AD i cD, cond (L 25) (vs 117) (.slice AL i cL)], box BU 24 [.int .i64 sW, .int .i64 sH, .slice AU1 (i + 1) cU1], box Ba 34 [.int .i64 sW, .int .i64 sH, .slice Aa np ca], seen Aa (bools (neg (offs pix dark light))), box (w.heap.size + 1) 26 [.int .i64 dW, .int .i64 dH, .slice (some ⟨bD, oD, none⟩) np c, .slice (some ⟨bL, oL, none⟩) np c'], box w.heap.size 24 [.int .i64 sW, .int .i64 sH, .slice (some ⟨bP, oP, none⟩) np cp], row 5 1 (vs 105) 1 [.int .u8 (upB b d)], cond (L 20) (row 5 1 (vs 116) 1 [.int .u8 (upB b g)]) (row 5 1 (.slice none 0 0) 0 [])]) hJ (by simp [hL, hb, hs])
                obtain ⟨A8, c8, e8, ho8⟩ := rd_of_own (K.get 14 rfl)
                rw [e8]
                refine StepV.app 106 rfl (.tmp 97) (.tmp 105) 22 rfl rfl (by simp [Act.put]) rfl st22 1 K rfl (by simp [Act.eval, Act.put]) (by simp [Act.eval, Act.put]; rfl) (i + 1) (u8s (mp (upB b) dark (i + 1))) [.int .u8 (upB b d)] rfl (by rw [HDS.out]; simp [u8s]) ho8.rd rfl (by simp [Value.oneCell']) (by unfold maxLen; omega) (by omega) ?_
                intro A9 c9 w9 hO9
                exact ⟨trivial, hO9.cast (by simp [upd, updv, hb, hs, e8])⟩
              refine ⟨StepS.of [] (by kernel_rfl) ?_, ?_⟩
              · intro L vs wq hL hA hC hJ
                unfold forAll
                exact StepV.val 107 (by kernel_rfl) (by kernel_rfl) rfl (by simp) rfl rfl hJ
              refine ⟨StepS.of [107] (by kernel_rfl) ?_, ?_⟩
              · intro L vs wq hL hA hC hJ h107
                rw [(show vs 107 = .pointer (some ⟨BV, 3, none⟩) from h107)]
                unfold forAll
                have hs := hC.no (j := 25) (i := 12) (by kernel_rfl) hL
                have t2 := (hJ.bx 8 rfl).1 3 _ rfl
                rw [hs] at t2
                simp only [cond_false] at t2
                exact StepV.val 108 (by kernel_rfl) (by go_simp) rfl (by simp [Act.put]) rfl rfl hJ
              refine ⟨StepS.of [] (by kernel_rfl) ?_, ?_⟩
              · intro L vs wq hL hA hC hJ
                unfold forAll
                exact StepV.val 109 (by kernel_rfl) (by kernel_rfl) rfl (by simp) rfl rfl hJ
              refine ⟨StepS.of [109] (by kernel_rfl) ?_, ?_⟩
              · intro L vs wq hL hA hC hJ h109
                rw [(show vs 109 = .pointer (some ⟨w.heap.size + 1, 3, none⟩) from h109)]
                unfold forAll
                obtain ⟨t0, t1, t2, t3, _⟩ := (hJ.bx 12 rfl).c4
                exact StepV.val 110 (by kernel_rfl) (by go_simp) rfl (by simp [Act.put]) rfl rfl hJ
              refine ⟨StepS.of [] (by kernel_rfl) ?_, ?_⟩
              · intro L vs wq hL hA hC hJ
                unfold forAll
                exact StepV.val 111 (by kernel_rfl) (by kernel_rfl) rfl (by simp) rfl rfl hJ
              refine ⟨StepS.of [110, 111] (by kernel_rfl) ?_, ?_⟩
              · intro L vs wq hL hA hC hJ h110 h111
                rw [(show vs 110 = .slice (some ⟨bL, oL, none⟩) np c' from h110), (show vs 111 = .int .i64 (i : Nat) from h111)]
                unfold forAll
                exact StepV.val 112 (by kernel_rfl) (by go_simp) rfl (by simp [Act.put]) rfl rfl hJ
              refine ⟨StepS.of [112] (by kernel_rfl) ?_, ?_⟩
              · intro L vs wq hL hA hC hJ h112
                rw [(show vs 112 = .pointer (some ⟨bL, oL + i, none⟩) from h112)]
                unfold forAll
                obtain ⟨kk, lk⟩ := GL.out _ hJ.bel
                exact StepV.val 113 (by kernel_rfl) (by go_simp) rfl (by simp [Act.put]) rfl rfl hJ
              refine ⟨StepS.of [] (by kernel_rfl) ?_, ?_⟩
              · intro L vs wq hL hA hC hJ
                unfold forAll
                exact StepV.val 114 (by kernel_rfl) (by kernel_rfl) rfl (by simp) rfl rfl hJ
              refine ⟨StepS.of [113, 114] (by kernel_rfl) ?_, ?_⟩
              · intro L vs wq hL hA hC hJ h113 h114
                rw [(show vs 113 = .int .u8 g from h113), (show vs 114 = .int .u8 b from h114)]
                unfold forAll
                exact StepV.val 115 (by kernel_rfl) (by go_simp) rfl (by simp [Act.put]) rfl rfl hJ
              refine ⟨StepS.of [115] (by kernel_rfl) ?_, ?_⟩
              · intro L vs wq hL hA hC hJ h115
                rw [(show vs 115 = .int .u8 (upB b g) from h115)]
                unfold forAll
                have ha := hC.no (j := 21) (i := 20) (by kernel_rfl) hL
                have hs := hC.no (j := 25) (i := 20) (by kernel_rfl) hL
                have K := Own.cast (qs := [row 5 1 (.slice AU1 (i + 1) cU1) (i + 1) (u8s (mp (upB b) pix (i + 1))), cond (L 10) (row 5 1 (vs 106) (i + 1) (u8s (mp (upB b) dark (i + 1)))) (row 5 1 (.slice AD i cD) i (u8s (mp (upB b) dark i))), row 5 1 (.slice AL i cL) i (u8s (mp (upB b) light i)), row 5 1 (.slice AB i cB) i (u8s (mp opB pix i)), row 5 1 (.slice AE i cE) i (u8s (mp opB light i)), row 5 1 (.slice AF i cF) i (u8s (mp opB dark i)), box BX 26 [.int .i64 dW, .int .i64 dH, .slice AE i cE, .slice AF i cF], box BW 24 [.int .i64 sW, .int .i64 sH, .slice AB i cB], box BV 26 [.int .i64 dW, .int .i64 dH, cond (L 23) (vs 106) (.slice AD i cD), .slice AL i cL], box BU 24 [.int .i64 sW, .int .i64 sH, .slice AU1 (i + 1) cU1], box Ba 34 [.int .i64 sW, .int .i64 sH, .slice Aa np ca], seen Aa (bools (neg (offs pix dark light))), box (w.heap.size + 1) 26 [.int .i64 dW, .int .i64 dH, .slice (some ⟨bD, oD, none⟩) np c, .slice (some ⟨bL, oL, none⟩) np c'], box w.heap.size 24 [.int .i64 sW, .int .i64 sH, .slice (some ⟨bP, oP, none⟩) np cp], cond (L 9) (row 5 1 (vs 105) 1 [.int .u8 (upB b d)]) (row 5 1 (.slice none 0 0) 0 []), row 5 1 (.slice none 0 0) 0 []]) hJ (by simp [hL, ha, hs])
                have K2 := (K.new' 5 #[.int .u8 (upB b g)] (B := wq.heap.size) rfl).asRow (size := 1) (n := 1) 0 rfl rfl (by unfold maxLen; omega)
                have K3 := K2.sub [1, 2, 3, 4, 5, 6, 7, 8, 9, 10, 11, 12, 13, 14, 15, 0] (by decide) (qs := [row 5 1 (.slice AU1 (i + 1) cU1) (i + 1) (u8s (mp (upB b) pix (i + 1))), cond (L 10) (row 5 1 (vs 106) (i + 1) (u8s (mp (upB b) dark (i + 1)))) (row 5 1 (.slice AD i cD) i (u8s (mp (upB b) dark i))), row 5 1 (.slice AL i cL) i (u8s (mp (upB b) light i)), row 5 1 (.slice AB i cB) i (u8s (mp opB pix i)), row 5 1 (.slice AE i cE) i (u8s (mp opB light i)), row 5 1 (.slice AF i cF) i (u8s (mp opB dark i)), box BX 26 [.int .i64 dW, .int .i64 dH, .slice AE i cE, .slice AF i cF], box BW 24 [.int .i64 sW, .int .i64 sH, .slice AB i cB], box BV 26 [.int .i64 dW, .int .i64 dH, cond (L 23) (vs 106) (.slice AD i cD), .slice AL i cL], box BU 24 [.int .i64 sW, .int .i64 sH, .slice AU1 (i + 1) cU1], box Ba 34 [.int .i64 sW, .int .i64 sH, .slice Aa np ca], seen Aa (bools (neg (offs pix dark light))), box (w.heap.size + 1) 26 [.int .i64 dW, .int .i64 dH, .slice (some ⟨bD, oD, none⟩) np c, .slice (some ⟨bL, oL, none⟩) np c'], box w.heap.size 24 [.int .i64 sW, .int .i64 sH, .slice (some ⟨bP, oP, none⟩) np cp], cond (L 9) (row 5 1 (vs 105) 1 [.int .u8 (upB b d)]) (row 5 1 (.slice none 0 0) 0 []), row 5 1 (.slice (some ⟨wq.heap.size, 0, none⟩) 1 1) 1 [.int .u8 (upB b g)]]) rfl
                exact StepV.val 116 (v := .slice (some ⟨wq.heap.size, 0, none⟩) 1 1) (w' := wq.alloc (.cells #[.int .u8 (upB b g)] 5)) (by kernel_rfl) (by go_simp) rfl (by simp [Act.put]) rfl trivial (K3.cast (by simp [upd, updv, ha, hs]))
              refine ⟨StepS.of [108, 116] (by kernel_rfl) ?_, ?_⟩
              · intro L vs wq hL hA hC hJ h108 h116
                rw [(show vs 108 = .slice AL i cL from h108)]
                unfold forAll
                have hb := afterS hA (i := 20) (by kernel_rfl)
                have hs := hC.no (j := 25) (i := 21) (by kernel_rfl) hL
                have K := Own.cast (qs := [row 5 1 (.slice AU1 (i + 1) cU1) (i + 1) (u8s (mp (upB b) pix (i + 1))), cond (L 10) (row 5 1 (vs 106) (i + 1) (u8s (mp (upB b) dark (i + 1)))) (row 5 1 (.slice AD i cD) i (u8s (mp (upB b) dark i))), row 5 1 (.slice AL i cL) i (u8s (mp (upB b) light i)), row 5 1 (.slice AB i cB) i (u8s (mp opB pix i)), row 5 1 (.slice AE i cE) i (u8s (mp opB light i)), row 5 1 (.slice AF i cF) i (u8s (mp opB dark i)), box BX 26 [.int .i64 dW, .int .i64 dH, .slice AE i cE, .slice AF i cF], box BW 24 [.int .i64 sW, .int .i64 sH, .slice AB i cB], box BV 26 [.int .i64 dW, .int .i64 dH, cond (L 23) (vs 106) (.slice AD i cD), .slice AL i cL], box BU 24 [.int .i64 sW, .int .i64 sH, .slice AU1 (i + 1) cU1], box Ba 34 [.int .i64 sW, .int .i64 sH, .slice Aa np ca], seen Aa (bools (neg (offs pix dark light))), box (w.heap.size + 1) 26 [.int .i64 dW, .int .i64 dH, .slice (some ⟨bD, oD, none⟩) np c, .slice (some ⟨bL, oL, none⟩) np c'], box w.heap.size 24 [.int .i64 sW, .int .i64 sH, .slice (some ⟨bP, oP, none⟩) np cp], cond (L 9) (row 5 1 (vs 105) 1 [.int .u8 (upB b d)]) (row 5 1 (.slice none 0 0) 0 []), row 5 1 (vs 116) 1 [.int .u8 (upB b g)]]) hJ (by simp [hL, hb, hs])
                obtain ⟨A8, c8, e8, ho8⟩ := rd_of_own (K.get 15 rfl)
                rw [e8]
                refine StepV.app 117 rfl (.tmp 108) (.tmp 116) 22 rfl rfl (by simp [Act.put]) rfl st22 2 K rfl (by simp [Act.eval, Act.put]) (by simp [Act.eval, Act.put]; rfl) (i + 1) (u8s (mp (upB b) light (i + 1))) [.int .u8 (upB b g)] rfl (by rw [HLS.out]; simp [u8s]) ho8.rd rfl (by simp [Value.oneCell']) (by unfold maxLen; omega) (by omega) ?_
                intro A9 c9 w9 hO9
                exact ⟨trivial, hO9.cast (by simp [upd, updv, hb, hs, e8])⟩
              refine ⟨StepS.of [] (by kernel_rfl) ?_, ?_⟩
              · intro L vs wq hL hA hC hJ
                unfold forAll
                exact StepV.val 118 (by kernel_rfl) (by kernel_rfl) rfl (by simp) rfl rfl hJ
              refine ⟨StepS.of [118, 106] (by kernel_rfl) ?_, ?_⟩
              · intro L vs wq hL hA hC hJ h118 h106
                rw [(show vs 118 = .pointer (some ⟨BV, 2, none⟩) from h118)]
                unfold forAll
                have ha := afterS hA (i := 10) (by kernel_rfl)
                have hb := hC.yes (j := 10) (i := 9) (by kernel_rfl) ha
                have K := Own.cast (qs := [row 5 1 (.slice AU1 (i + 1) cU1) (i + 1) (u8s (mp (upB b) pix (i + 1))), row 5 1 (vs 106) (i + 1) (u8s (mp (upB b) dark (i + 1))), cond (L 21) (row 5 1 (vs 117) (i + 1) (u8s (mp (upB b) light (i + 1)))) (row 5 1 (.slice AL i cL) i (u8s (mp (upB b) light i))), row 5 1 (.slice AB i cB) i (u8s (mp opB pix i)), row 5 1 (.slice AE i cE) i (u8s (mp opB light i)), row 5 1 (.slice AF i cF) i (u8s (mp opB dark i)), box BX 26 [.int .i64 dW, .int .i64 dH, .slice AE i cE, .slice AF i cF], box BW 24 [.int .i64 sW, .int .i64 sH, .slice AB i cB], box BV 26 [.int .i64 dW, .int .i64 dH, .slice AD i cD, cond (L 25) (vs 117) (.slice AL i cL)], box BU 24 [.int .i64 sW, .int .i64 sH, .slice AU1 (i + 1) cU1], box Ba 34 [.int .i64 sW, .int .i64 sH, .slice Aa np ca], seen Aa (bools (neg (offs pix dark light))), box (w.heap.size + 1) 26 [.int .i64 dW, .int .i64 dH, .slice (some ⟨bD, oD, none⟩) np c, .slice (some ⟨bL, oL, none⟩) np c'], box w.heap.size 24 [.int .i64 sW, .int .i64 sH, .slice (some ⟨bP, oP, none⟩) np cp], row 5 1 (vs 105) 1 [.int .u8 (upB b d)], cond (L 20) (row 5 1 (vs 116) 1 [.int .u8 (upB b g)]) (row 5 1 (.slice none 0 0) 0 [])]) hJ (by simp [hL, hb, ha])
                obtain ⟨A9, c9, e9, _⟩ := rd_of_own (K.get 1 rfl)
                rw [e9]
                have t0 := (K.bx 8 rfl).1 2 _ rfl
                have tf := (K.bx 8 rfl).2.1
                have tl := (K.bx 8 rfl).2.2
                exact StepV.skip (by kernel_rfl) (by go_simp) rfl rfl ((K.set 8 rfl 2 (.slice A9 (i + 1) c9)).cast (by simp [upd, hb, ha, e9]))
              refine ⟨StepS.of [] (by kernel_rfl) ?_, ?_⟩
              · intro L vs wq hL hA hC hJ
                unfold forAll
                exact StepV.val 119 (by kernel_rfl) (by kernel_rfl) rfl (by simp) rfl rfl hJ
              refine ⟨StepS.of [119, 117] (by kernel_rfl) ?_, ?_⟩
              · intro L vs wq hL hA hC hJ h119 h117
                rw [(show vs 119 = .pointer (some ⟨BV, 3, none⟩) from h119)]
                unfold forAll
                have ha := afterS hA (i := 21) (by kernel_rfl)
                have hb := hC.yes (j := 21) (i := 20) (by kernel_rfl) ha
                have K := Own.cast (qs := [row 5 1 (.slice AU1 (i + 1) cU1) (i + 1) (u8s (mp (upB b) pix (i + 1))), cond (L 10) (row 5 1 (vs 106) (i + 1) (u8s (mp (upB b) dark (i + 1)))) (row 5 1 (.slice AD i cD) i (u8s (mp (upB b) dark i))), row 5 1 (vs 117) (i + 1) (u8s (mp (upB b) light (i + 1))), row 5 1 (.slice AB i cB) i (u8s (mp opB pix i)), row 5 1 (.slice AE i cE) i (u8s (mp opB light i)), row 5 1 (.slice AF i cF) i (u8s (mp opB dark i)), box BX 26 [.int .i64 dW, .int .i64 dH, .slice AE i cE, .slice AF i cF], box BW 24 [.int .i64 sW, .int .i64 sH, .slice AB i cB], box BV 26 [.int .i64 dW, .int .i64 dH, cond (L 23) (vs 106) (.slice AD i cD), .slice AL i cL], box BU 24 [.int .i64 sW, .int .i64 sH, .slice AU1 (i + 1) cU1], box Ba 34 [.int .i64 sW, .int .i64 sH, .slice Aa np ca], seen Aa (bools (neg (offs pix dark light))), box (w.heap.size + 1) 26 [.int .i64 dW, .int .i64 dH, .slice (some ⟨bD, oD, none⟩) np c, .slice (some ⟨bL, oL, none⟩) np c'], box w.heap.size 24 [.int .i64 sW, .int .i64 sH, .slice (some ⟨bP, oP, none⟩) np cp], cond (L 9) (row 5 1 (vs 105) 1 [.int .u8 (upB b d)]) (row 5 1 (.slice none 0 0) 0 []), row 5 1 (vs 116) 1 [.int .u8 (upB b g)]]) hJ (by simp [hL, hb, ha])
                obtain ⟨A9, c9, e9, _⟩ := rd_of_own (K.get 2 rfl)
                rw [e9]
                have t0 := (K.bx 8 rfl).1 3 _ rfl
                have tf := (K.bx 8 rfl).2.1
                have tl := (K.bx 8 rfl).2.2
                exact StepV.skip (by kernel_rfl) (by go_simp) rfl rfl ((K.set 8 rfl 3 (.slice A9 (i + 1) c9)).cast (by simp [upd, hb, ha, e9]))
              exact trivial
            · intro vs v15 hJ h96 h97 h98 h99 h100 h101 h102 h103 h104 h105 h106 h107 h108 h109 h110 h111 h112 h113 h114 h115 h116 h117 h118 h119
              rw [(show vs 96 = .pointer (some ⟨BV, 2, none⟩) from h96), (show vs 97 = .slice AD i cD from h97), (show vs 98 = .pointer (some ⟨w.heap.size + 1, 2, none⟩) from h98), (show vs 99 = .slice (some ⟨bD, oD, none⟩) np c from h99), (show vs 100 = .int .i64 (i : Nat) from h100), (show vs 101 = .pointer (some ⟨bD, oD + i, none⟩) from h101), (show vs 102 = .int .u8 d from h102), (show vs 103 = .int .u8 b from h103), (show vs 104 = .int .u8 (upB b d) from h104), (show vs 107 = .pointer (some ⟨BV, 3, none⟩) from h107), (show vs 108 = .slice AL i cL from h108), (show vs 109 = .pointer (some ⟨w.heap.size + 1, 3, none⟩) from h109), (show vs 110 = .slice (some ⟨bL, oL, none⟩) np c' from h110), (show vs 111 = .int .i64 (i : Nat) from h111), (show vs 112 = .pointer (some ⟨bL, oL + i, none⟩) from h112), (show vs 113 = .int .u8 g from h113), (show vs 114 = .int .u8 b from h114), (show vs 115 = .int .u8 (upB b g) from h115), (show vs 118 = .pointer (some ⟨BV, 2, none⟩) from h118), (show vs 119 = .pointer (some ⟨BV, 3, none⟩) from h119)]
              clear h96 h97 h98 h99 h100 h101 h102 h103 h104 h105 h106 h107 h108 h109 h110 h111 h112 h113 h114 h115 h116 h117 h118 h119
              have K := Own.cast (qs := [row 5 1 (.slice AU1 (i + 1) cU1) (i + 1) (u8s (mp (upB b) pix (i + 1))), row 5 1 (vs 106) (i + 1) (u8s (mp (upB b) dark (i + 1))), row 5 1 (vs 117) (i + 1) (u8s (mp (upB b) light (i + 1))), row 5 1 (.slice AB i cB) i (u8s (mp opB pix i)), row 5 1 (.slice AE i cE) i (u8s (mp opB light i)), row 5 1 (.slice AF i cF) i (u8s (mp opB dark i)), box BX 26 [.int .i64 dW, .int .i64 dH, .slice AE i cE, .slice AF i cF], box BW 24 [.int .i64 sW, .int .i64 sH, .slice AB i cB], box BV 26 [.int .i64 dW, .int .i64 dH, vs 106, vs 117], box BU 24 [.int .i64 sW, .int .i64 sH, .slice AU1 (i + 1) cU1], box Ba 34 [.int .i64 sW, .int .i64 sH, .slice Aa np ca], seen Aa (bools (neg (offs pix dark light))), box (w.heap.size + 1) 26 [.int .i64 dW, .int .i64 dH, .slice (some ⟨bD, oD, none⟩) np c, .slice (some ⟨bL, oL, none⟩) np c'], box w.heap.size 24 [.int .i64 sW, .int .i64 sH, .slice (some ⟨bP, oP, none⟩) np cp], row 5 1 (vs 105) 1 [.int .u8 (upB b d)], row 5 1 (vs 116) 1 [.int .u8 (upB b g)]]) hJ rfl
              obtain ⟨AD1, cD1, e0, _⟩ := rd_of_own (K.get 1 rfl)
              obtain ⟨_, _, f0, _⟩ := rd_of_own (K.get 14 rfl)
              obtain ⟨AL1, cL1, e1, _⟩ := rd_of_own (K.get 2 rfl)
              obtain ⟨_, _, f1, _⟩ := rd_of_own (K.get 15 rfl)
              rw [e0, e1] at K
              rw [e0, e1, f0, f1]
              have R15 := Lib.hid (K.sub [0, 1, 2, 3, 4, 5, 6, 7, 8, 9, 10, 11, 12, 13] (by decide) (qs := [row 5 1 (.slice AU1 (i + 1) cU1) (i + 1) (u8s (mp (upB b) pix (i + 1))), row 5 1 (.slice AD1 (i + 1) cD1) (i + 1) (u8s (mp (upB b) dark (i + 1))), row 5 1 (.slice AL1 (i + 1) cL1) (i + 1) (u8s (mp (upB b) light (i + 1))), row 5 1 (.slice AB i cB) i (u8s (mp opB pix i)), row 5 1 (.slice AE i cE) i (u8s (mp opB light i)), row 5 1 (.slice AF i cF) i (u8s (mp opB dark i)), box BX 26 [.int .i64 dW, .int .i64 dH, .slice AE i cE, .slice AF i cF], box BW 24 [.int .i64 sW, .int .i64 sH, .slice AB i cB], box BV 26 [.int .i64 dW, .int .i64 dH, .slice AD1 (i + 1) cD1, .slice AL1 (i + 1) cL1], box BU 24 [.int .i64 sW, .int .i64 sH, .slice AU1 (i + 1) cU1], box Ba 34 [.int .i64 sW, .int .i64 sH, .slice Aa np ca], seen Aa (bools (neg (offs pix dark light))), box (w.heap.size + 1) 26 [.int .i64 dW, .int .i64 dH, .slice (some ⟨bD, oD, none⟩) np c, .slice (some ⟨bL, oL, none⟩) np c'], box w.heap.size 24 [.int .i64 sW, .int .i64 sH, .slice (some ⟨bP, oP, none⟩) np cp]]) rfl)
              clear K hJ e0 e1 f0 f1
              unfold forAll
              simp only [Act.put, List.setIfInBounds_toArray, List.set_cons_zero, List.set_cons_succ]
              clear R14
              go_wp2_with fail
              refine wp_region_state 266 [(120, .pointer (some ⟨BW, 2, none⟩)), (121, .slice AB i cB), (122, .pointer (some ⟨w.heap.size, 2, none⟩)), (123, .slice (some ⟨bP, oP, none⟩) np cp), (124, .int .i64 (i : Nat)), (125, .pointer (some ⟨bP, oP + i, none⟩)), (126, .int .u8 p), (127, .int .u8 (opB p)), (130, .pointer (some ⟨BW, 2, none⟩))] (fun L vs w' => Own w w' [row 5 1 (.slice AU1 (i + 1) cU1) (i + 1) (u8s (mp (upB b) pix (i + 1))), row 5 1 (.slice AD1 (i + 1) cD1) (i + 1) (u8s (mp (upB b) dark (i + 1))), row 5 1 (.slice AL1 (i + 1) cL1) (i + 1) (u8s (mp (upB b) light (i + 1))), cond (L 9) (row 5 1 (vs 129) (i + 1) (u8s (mp opB pix (i + 1)))) (row 5 1 (.slice AB i cB) i (u8s (mp opB pix i))), row 5 1 (.slice AE i cE) i (u8s (mp opB light i)), row 5 1 (.slice AF i cF) i (u8s (mp opB dark i)), box BX 26 [.int .i64 dW, .int .i64 dH, .slice AE i cE, .slice AF i cF], box BW 24 [.int .i64 sW, .int .i64 sH, cond (L 11) (vs 129) (.slice AB i cB)], box BV 26 [.int .i64 dW, .int .i64 dH, .slice AD1 (i + 1) cD1, .slice AL1 (i + 1) cL1], box BU 24 [.int .i64 sW, .int .i64 sH, .slice AU1 (i + 1) cU1], box Ba 34 [.int .i64 sW, .int .i64 sH, .slice Aa np ca], seen Aa (bools (neg (offs pix dark light))), box (w.heap.size + 1) 26 [.int .i64 dW, .int .i64 dH, .slice (some ⟨bD, oD, none⟩) np c, .slice (some ⟨bL, oL, none⟩) np c'], box w.heap.size 24 [.int .i64 sW, .int .i64 sH, .slice (some ⟨bP, oP, none⟩) np cp], cond (L 8) (row 5 1 (vs 128) 1 [.int .u8 (opB p)]) (row 5 1 (.slice none 0 0) 0 [])]) (by kernel_rfl) (by kernel_rfl) [120, 121, 122, 123, 124, 125, 126, 127, 128, 129, 130] (by kernel_rfl) rfl (by kernel_rfl) 12 rfl ?_ ?_ ?_
              · exact fun L hL => (((R15.out.nil 5 1).sub [1, 2, 3, 4, 5, 6, 7, 8, 9, 10, 11, 12, 13, 14, 0] (by decide) (qs := [row 5 1 (.slice AU1 (i + 1) cU1) (i + 1) (u8s (mp (upB b) pix (i + 1))), row 5 1 (.slice AD1 (i + 1) cD1) (i + 1) (u8s (mp (upB b) dark (i + 1))), row 5 1 (.slice AL1 (i + 1) cL1) (i + 1) (u8s (mp (upB b) light (i + 1))), row 5 1 (.slice AB i cB) i (u8s (mp opB pix i)), row 5 1 (.slice AE i cE) i (u8s (mp opB light i)), row 5 1 (.slice AF i cF) i (u8s (mp opB dark i)), box BX 26 [.int .i64 dW, .int .i64 dH, .slice AE i cE, .slice AF i cF], box BW 24 [.int .i64 sW, .int .i64 sH, .slice AB i cB], box BV 26 [.int .i64 dW, .int .i64 dH, .slice AD1 (i + 1) cD1, .slice AL1 (i + 1) cL1], box BU 24 [.int .i64 sW, .int .i64 sH, .slice AU1 (i + 1) cU1], box Ba 34 [.int .i64 sW, .int .i64 sH, .slice Aa np ca], seen Aa (bools (neg (offs pix dark light))), box (w.heap.size + 1) 26 [.int .i64 dW, .int .i64 dH, .slice (some ⟨bD, oD, none⟩) np c, .slice (some ⟨bL, oL, none⟩) np c'], box w.heap.size 24 [.int .i64 sW, .int .i64 sH, .slice (some ⟨bP, oP, none⟩) np cp], row 5 1 (.slice none 0 0) 0 []]) rfl).ext (Below.refl _ _).drew).cast (by simp [hL 8 (by decide), hL 9 (by decide), hL 11 (by decide)])
              · refine ⟨StepS.of [] (by kernel_rfl) ?_, ?_⟩
                · intro L vs wq hL hA hC hJ
                  unfold forAll
                  exact StepV.val 120 (by kernel_rfl) (by kernel_rfl) rfl (by simp) rfl rfl hJ
                refine ⟨StepS.of [120] (by kernel_rfl) ?_, ?_⟩
                · intro L vs wq hL hA hC hJ h120
                  rw [(show vs 120 = .pointer (some ⟨BW, 2, none⟩) from h120)]
                  unfold forAll
                  have hs := hC.no (j := 11) (i := 1) (by kernel_rfl) hL
                  have t2 := (hJ.bx 7 rfl).1 2 _ rfl
                  rw [hs] at t2
                  simp only [cond_false] at t2
                  exact StepV.val 121 (by kernel_rfl) (by go_simp) rfl (by simp [Act.put]) rfl rfl hJ
                refine ⟨StepS.of [] (by kernel_rfl) ?_, ?_⟩
                · intro L vs wq hL hA hC hJ
                  unfold forAll
                  exact StepV.val 122 (by kernel_rfl) (by kernel_rfl) rfl (by simp) rfl rfl hJ
                refine ⟨StepS.of [122] (by kernel_rfl) ?_, ?_⟩
                · intro L vs wq hL hA hC hJ h122
                  rw [(show vs 122 = .pointer (some ⟨w.heap.size, 2, none⟩) from h122)]
                  unfold forAll
                  obtain ⟨t0, t1, t2, _⟩ := (hJ.bx 13 rfl).c3
                  exact StepV.val 123 (by kernel_rfl) (by go_simp) rfl (by simp [Act.put]) rfl rfl hJ
                refine ⟨StepS.of [] (by kernel_rfl) ?_, ?_⟩
                · intro L vs wq hL hA hC hJ
                  unfold forAll
                  exact StepV.val 124 (by kernel_rfl) (by kernel_rfl) rfl (by simp) rfl rfl hJ
                refine ⟨StepS.of [123, 124] (by kernel_rfl) ?_, ?_⟩
                · intro L vs wq hL hA hC hJ h123 h124
                  rw [(show vs 123 = .slice (some ⟨bP, oP, none⟩) np cp from h123), (show vs 124 = .int .i64 (i : Nat) from h124)]
                  unfold forAll
                  exact StepV.val 125 (by kernel_rfl) (by go_simp) rfl (by simp [Act.put]) rfl rfl hJ
                refine ⟨StepS.of [125] (by kernel_rfl) ?_, ?_⟩
                · intro L vs wq hL hA hC hJ h125
                  rw [(show vs 125 = .pointer (some ⟨bP, oP + i, none⟩) from h125)]
                  unfold forAll
                  obtain ⟨kk, lk⟩ := GP.out _ hJ.bel
                  exact StepV.val 126 (by kernel_rfl) (by go_simp) rfl (by simp [Act.put]) rfl rfl hJ
                refine ⟨StepS.of [126] (by kernel_rfl) ?_, ?_⟩
                · intro L vs wq hL hA hC hJ h126
                  rw [(show vs 126 = .int .u8 p from h126)]
                  unfold forAll
                  exact StepV.val 127 (by kernel_rfl) (by go_simp) rfl (by simp [Act.put]) rfl rfl hJ
                refine ⟨StepS.of [127] (by kernel_rfl) ?_, ?_⟩
                · intro L vs wq hL hA hC hJ h127
                  rw [(show vs 127 = .int .u8 (opB p) from h127)]
                  unfold forAll
                  have ha := hC.no (j := 9) (i := 8) (by kernel_rfl) hL
                  have hs := hC.no (j := 11) (i := 8) (by kernel_rfl) hL
                  have K := Own.cast (qs := [row 5 1 (.slice AU1 (i + 1) cU1) (i + 1) (u8s (mp (upB b) pix (i + 1))), row 5 1 (.slice AD1 (i + 1) cD1) (i + 1) (u8s (mp (upB b) dark (i + 1))), row 5 1 (.slice AL1 (i + 1) cL1) (i + 1) (u8s (mp (upB b) light (i + 1))), row 5 1 (.slice AB i cB) i (u8s (mp opB pix i)), row 5 1 (.slice AE i cE) i (u8s (mp opB light i)), row 5 1 (.slice AF i cF) i (u8s (mp opB dark i)), box BX 26 [.int .i64 dW, .int .i64 dH, .slice AE i cE, .slice AF i cF], box BW 24 [.int .i64 sW, .int .i64 sH, .slice AB i cB], box BV 26 [.int .i64 dW, .int .i64 dH, .slice AD1 (i + 1) cD1, .slice AL1 (i + 1) cL1], box BU 24 [.int .i64 sW, .int .i64 sH, .slice AU1 (i + 1) cU1], box Ba 34 [.int .i64 sW, .int .i64 sH, .slice Aa np ca], seen Aa (bools (neg (offs pix dark light))), box (w.heap.size + 1) 26 [.int .i64 dW, .int .i64 dH, .slice (some ⟨bD, oD, none⟩) np c, .slice (some ⟨bL, oL, none⟩) np c'], box w.heap.size 24 [.int .i64 sW, .int .i64 sH, .slice (some ⟨bP, oP, none⟩) np cp], row 5 1 (.slice none 0 0) 0 []]) hJ (by simp [hL, ha, hs])
                  have K2 := (K.new' 5 #[.int .u8 (opB p)] (B := wq.heap.size) rfl).asRow (size := 1) (n := 1) 0 rfl rfl (by unfold maxLen; omega)
                  have K3 := K2.sub [1, 2, 3, 4, 5, 6, 7, 8, 9, 10, 11, 12, 13, 14, 0] (by decide) (qs := [row 5 1 (.slice AU1 (i + 1) cU1) (i + 1) (u8s (mp (upB b) pix (i + 1))), row 5 1 (.slice AD1 (i + 1) cD1) (i + 1) (u8s (mp (upB b) dark (i + 1))), row 5 1 (.slice AL1 (i + 1) cL1) (i + 1) (u8s (mp (upB b) light (i + 1))), row 5 1 (.slice AB i cB) i (u8s (mp opB pix i)), row 5 1 (.slice AE i cE) i (u8s (mp opB light i)), row 5 1 (.slice AF i cF) i (u8s (mp opB dark i)), box BX 26 [.int .i64 dW, .int .i64 dH, .slice AE i cE, .slice AF i cF], box BW 24 [.int .i64 sW, .int .i64 sH, .slice AB i cB], box BV 26 [.int .i64 dW, .int .i64 dH, .slice AD1 (i + 1) cD1, .slice AL1 (i + 1) cL1], box BU 24 [.int .i64 sW, .int .i64 sH, .slice AU1 (i + 1) cU1], box Ba 34 [.int .i64 sW, .int .i64 sH, .slice Aa np ca], seen Aa (bools (neg (offs pix dark light))), box (w.heap.size + 1) 26 [.int .i64 dW, .int .i64 dH, .slice (some ⟨bD, oD, none⟩) np c, .slice (some ⟨bL, oL, none⟩) np c'], box w.heap.size 24 [.int .i64 sW, .int .i64 sH, .slice (some ⟨bP, oP, none⟩) np cp], row 5 1 (.slice (some ⟨wq.heap.size, 0, none⟩) 1 1) 1 [.int .u8 (opB p)]]) rfl
                  exact StepV.val 128 (v := .slice (some ⟨wq.heap.size, 0, none⟩) 1 1) (w' := wq.alloc (.cells #[.int .u8 (opB p)] 5)) (by kernel_rfl) (by go_simp) rfl (by simp [Act.put]) rfl trivial (K3.cast (by simp [upd, updv, ha, hs]))
                refine ⟨StepS.of [121, 128] (by kernel_rfl) ?_, ?_⟩
                · intro L vs wq hL hA hC hJ h121 h128
                  rw [(show vs 121 = .slice AB i cB from h121)]
                  unfold forAll
                  have hb := afterS hA (i := 8) (by kernel_rfl)
                  have hs := hC.no (j := 11) (i := 9) (by kernel_rfl) hL
                  have K := Own.cast (qs := [row 5 1 (.slice AU1 (i + 1) cU1) (i + 1) (u8s (mp (upB b) pix (i + 1))), row 5 1 (.slice AD1 (i + 1) cD1) (i + 1) (u8s (mp (upB b) dark (i + 1))), row 5 1 (.slice AL1 (i + 1) cL1) (i + 1) (u8s (mp (upB b) light (i + 1))), row 5 1 (.slice AB i cB) i (u8s (mp opB pix i)), row 5 1 (.slice AE i cE) i (u8s (mp opB light i)), row 5 1 (.slice AF i cF) i (u8s (mp opB dark i)), box BX 26 [.int .i64 dW, .int .i64 dH, .slice AE i cE, .slice AF i cF], box BW 24 [.int .i64 sW, .int .i64 sH, .slice AB i cB], box BV 26 [.int .i64 dW, .int .i64 dH, .slice AD1 (i + 1) cD1, .slice AL1 (i + 1) cL1], box BU 24 [.int .i64 sW, .int .i64 sH, .slice AU1 (i + 1) cU1], box Ba 34 [.int .i64 sW, .int .i64 sH, .slice Aa np ca], seen Aa (bools (neg (offs pix dark light))), box (w.heap.size + 1) 26 [.int .i64 dW, .int .i64 dH, .slice (some ⟨bD, oD, none⟩) np c, .slice (some ⟨bL, oL, none⟩) np c'], box w.heap.size 24 [.int .i64 sW, .int .i64 sH, .slice (some ⟨bP, oP, none⟩) np cp], row 5 1 (vs 128) 1 [.int .u8 (opB p)]]) hJ (by simp [hL, hb, hs])
                  obtain ⟨A8, c8, e8, ho8⟩ := rd_of_own (K.get 14 rfl)
                  rw [e8]
                  refine StepV.app 129 rfl (.tmp 121) (.tmp 128) 22 rfl rfl (by simp [Act.put]) rfl st22 3 K rfl (by simp [Act.eval, Act.put]) (by simp [Act.eval, Act.put]; rfl) (i + 1) (u8s (mp opB pix (i + 1))) [.int .u8 (opB p)] rfl (by rw [HBS.out]; simp [u8s]) ho8.rd rfl (by simp [Value.oneCell']) (by unfold maxLen; omega) (by omega) ?_
                  intro A9 c9 w9 hO9
                  exact ⟨trivial, hO9.cast (by simp [upd, updv, hb, hs, e8])⟩
                refine ⟨StepS.of [] (by kernel_rfl) ?_, ?_⟩
                · intro L vs wq hL hA hC hJ
                  unfold forAll
                  exact StepV.val 130 (by kernel_rfl) (by kernel_rfl) rfl (by simp) rfl rfl hJ
                refine ⟨StepS.of [130, 129] (by kernel_rfl) ?_, ?_⟩
                · intro L vs wq hL hA hC hJ h130 h129
                  rw [(show vs 130 = .pointer (some ⟨BW, 2, none⟩) from h130)]
                  unfold forAll
                  have ha := afterS hA (i := 9) (by kernel_rfl)
                  have hb := hC.yes (j := 9) (i := 8) (by kernel_rfl) ha
                  have K := Own.cast (qs := [row 5 1 (.slice AU1 (i + 1) cU1) (i + 1) (u8s (mp (upB b) pix (i + 1))), row 5 1 (.slice AD1 (i + 1) cD1) (i + 1) (u8s (mp (upB b) dark (i + 1))), row 5 1 (.slice AL1 (i + 1) cL1) (i + 1) (u8s (mp (upB b) light (i + 1))), row 5 1 (vs 129) (i + 1) (u8s (mp opB pix (i + 1))), row 5 1 (.slice AE i cE) i (u8s (mp opB light i)), row 5 1 (.slice AF i cF) i (u8s (mp opB dark i)), box BX 26 [.int .i64 dW, .int .i64 dH, .slice AE i cE, .slice AF i cF], box BW 24 [.int .i64 sW, .int .i64 sH, .slice AB i cB], box BV 26 [.int .i64 dW, .int .i64 dH, .slice AD1 (i + 1) cD1, .slice AL1 (i + 1) cL1], box BU 24 [.int .i64 sW, .int .i64 sH, .slice AU1 (i + 1) cU1], box Ba 34 [.int .i64 sW, .int .i64 sH, .slice Aa np ca], seen Aa (bools (neg (offs pix dark light))), box (w.heap.size + 1) 26 [.int .i64 dW, .int .i64 dH, .slice (some ⟨bD, oD, none⟩) np c, .slice (some ⟨bL, oL, none⟩) np c'], box w.heap.size 24 [.int .i64 sW, .int .i64 sH, .slice (some ⟨bP, oP, none⟩) np cp], row 5 1 (vs 128) 1 [.int .u8 (opB p)]]) hJ (by simp [hL, hb, ha])
                  obtain ⟨A9, c9, e9, _⟩ := rd_of_own (K.get 3 rfl)
                  rw [e9]
                  have t0 := (K.bx 7 rfl).1 2 _ rfl
                  have tf := (K.bx 7 rfl).2.1
                  have tl := (K.bx 7 rfl).2.2
                  exact StepV.skip (by kernel_rfl) (by go_simp) rfl rfl ((K.set 7 rfl 2 (.slice A9 (i + 1) c9)).cast (by simp [upd, hb, ha, e9]))
                exact trivial
              · intro vs v16 hJ h120 h121 h122 h123 h124 h125 h126 h127 h128 h129 h130
                rw [(show vs 120 = .pointer (some ⟨BW, 2, none⟩) from h120), (show vs 121 = .slice AB i cB from h121), (show vs 122 = .pointer (some ⟨w.heap.size, 2, none⟩) from h122), (show vs 123 = .slice (some ⟨bP, oP, none⟩) np cp from h123), (show vs 124 = .int .i64 (i : Nat) from h124), (show vs 125 = .pointer (some ⟨bP, oP + i, none⟩) from h125), (show vs 126 = .int .u8 p from h126), (show vs 127 = .int .u8 (opB p) from h127), (show vs 130 = .pointer (some ⟨BW, 2, none⟩) from h130)]
                clear h120 h121 h122 h123 h124 h125 h126 h127 h128 h129 h130
                have K := Own.cast (qs := [row 5 1 (.slice AU1 (i + 1) cU1) (i + 1) (u8s (mp (upB b) pix (i + 1))), row 5 1 (.slice AD1 (i + 1) cD1) (i + 1) (u8s (mp (upB b) dark (i + 1))), row 5 1 (.slice AL1 (i + 1) cL1) (i + 1) (u8s (mp (upB b) light (i + 1))), row 5 1 (vs 129) (i + 1) (u8s (mp opB pix (i + 1))), row 5 1 (.slice AE i cE) i (u8s (mp opB light i)), row 5 1 (.slice AF i cF) i (u8s (mp opB dark i)), box BX 26 [.int .i64 dW, .int .i64 dH, .slice AE i cE, .slice AF i cF], box BW 24 [.int .i64 sW, .int .i64 sH, vs 129], box BV 26 [.int .i64 dW, .int .i64 dH, .slice AD1 (i + 1) cD1, .slice AL1 (i + 1) cL1], box BU 24 [.int .i64 sW, .int .i64 sH, .slice AU1 (i + 1) cU1], box Ba 34 [.int .i64 sW, .int .i64 sH, .slice Aa np ca], seen Aa (bools (neg (offs pix dark light))), box (w.heap.size + 1) 26 [.int .i64 dW, .int .i64 dH, .slice (some ⟨bD, oD, none⟩) np c, .slice (some ⟨bL, oL, none⟩) np c'], box w.heap.size 24 [.int .i64 sW, .int .i64 sH, .slice (some ⟨bP, oP, none⟩) np cp], row 5 1 (vs 128) 1 [.int .u8 (opB p)]]) hJ rfl
                obtain ⟨AB1, cB1, e0, _⟩ := rd_of_own (K.get 3 rfl)
                obtain ⟨_, _, f0, _⟩ := rd_of_own (K.get 14 rfl)
                rw [e0] at K
                rw [e0, f0]
                have R16 := Lib.hid (K.sub [0, 1, 2, 3, 4, 5, 6, 7, 8, 9, 10, 11, 12, 13] (by decide) (qs := [row 5 1 (.slice AU1 (i + 1) cU1) (i + 1) (u8s (mp (upB b) pix (i + 1))), row 5 1 (.slice AD1 (i + 1) cD1) (i + 1) (u8s (mp (upB b) dark (i + 1))), row 5 1 (.slice AL1 (i + 1) cL1) (i + 1) (u8s (mp (upB b) light (i + 1))), row 5 1 (.slice AB1 (i + 1) cB1) (i + 1) (u8s (mp opB pix (i + 1))), row 5 1 (.slice AE i cE) i (u8s (mp opB light i)), row 5 1 (.slice AF i cF) i (u8s (mp opB dark i)), box BX 26 [.int .i64 dW, .int .i64 dH, .slice AE i cE, .slice AF i cF], box BW 24 [.int .i64 sW, .int .i64 sH, .slice AB1 (i + 1) cB1], box BV 26 [.int .i64 dW, .int .i64 dH, .slice AD1 (i + 1) cD1, .slice AL1 (i + 1) cL1], box BU 24 [.int .i64 sW, .int .i64 sH, .slice AU1 (i + 1) cU1], box Ba 34 [.int .i64 sW, .int .i64 sH, .slice Aa np ca], seen Aa (bools (neg (offs pix dark light))), box (w.heap.size + 1) 26 [.int .i64 dW, .int .i64 dH, .slice (some ⟨bD, oD, none⟩) np c, .slice (some ⟨bL, oL, none⟩) np c'], box w.heap.size 24 [.int .i64 sW, .int .i64 sH, .slice (some ⟨bP, oP, none⟩) np cp]]) rfl)
                clear K hJ e0 f0
                unfold forAll
                simp only [Act.put, List.setIfInBounds_toArray, List.set_cons_zero, List.set_cons_succ]
                clear R15
                go_wp2_with fail
                refine wp_region_state 266 [(131, .pointer (some ⟨BX, 2, none⟩)), (132, .slice AE i cE), (133, .pointer (some ⟨w.heap.size + 1, 3, none⟩)), (134, .slice (some ⟨bL, oL, none⟩) np c'), (135, .int .i64 (i : Nat)), (136, .pointer (some ⟨bL, oL + i, none⟩)), (137, .int .u8 g), (138, .int .u8 (opB g)), (141, .pointer (some ⟨BX, 3, none⟩)), (142, .slice AF i cF), (143, .pointer (some ⟨w.heap.size + 1, 2, none⟩)), (144, .slice (some ⟨bD, oD, none⟩) np c), (145, .int .i64 (i : Nat)), (146, .pointer (some ⟨bD, oD + i, none⟩)), (147, .int .u8 d), (148, .int .u8 (opB d)), (151, .pointer (some ⟨BX, 2, none⟩)), (152, .pointer (some ⟨BX, 3, none⟩))] (fun L vs w' => Own w w' [row 5 1 (.slice AU1 (i + 1) cU1) (i + 1) (u8s (mp (upB b) pix (i + 1))), row 5 1 (.slice AD1 (i + 1) cD1) (i + 1) (u8s (mp (upB b) dark (i + 1))), row 5 1 (.slice AL1 (i + 1) cL1) (i + 1) (u8s (mp (upB b) light (i + 1))), row 5 1 (.slice AB1 (i + 1) cB1) (i + 1) (u8s (mp opB pix (i + 1))), cond (L 9) (row 5 1 (vs 140) (i + 1) (u8s (mp opB light (i + 1)))) (row 5 1 (.slice AE i cE) i (u8s (mp opB light i))), cond (L 19) (row 5 1 (vs 150) (i + 1) (u8s (mp opB dark (i + 1)))) (row 5 1 (.slice AF i cF) i (u8s (mp opB dark i))), box BX 26 [.int .i64 dW, .int .i64 dH, cond (L 21) (vs 140) (.slice AE i cE), cond (L 23) (vs 150) (.slice AF i cF)], box BW 24 [.int .i64 sW, .int .i64 sH, .slice AB1 (i + 1) cB1], box BV 26 [.int .i64 dW, .int .i64 dH, .slice AD1 (i + 1) cD1, .slice AL1 (i + 1) cL1], box BU 24 [.int .i64 sW, .int .i64 sH, .slice AU1 (i + 1) cU1], box Ba 34 [.int .i64 sW, .int .i64 sH, .slice Aa np ca], seen Aa (bools (neg (offs pix dark light))), box (w.heap.size + 1) 26 [.int .i64 dW, .int .i64 dH, .slice (some ⟨bD, oD, none⟩) np c, .slice (some ⟨bL, oL, none⟩) np c'], box w.heap.size 24 [.int .i64 sW, .int .i64 sH, .slice (some ⟨bP, oP, none⟩) np cp], cond (L 8) (row 5 1 (vs 139) 1 [.int .u8 (opB g)]) (row 5 1 (.slice none 0 0) 0 []), cond (L 18) (row 5 1 (vs 149) 1 [.int .u8 (opB d)]) (row 5 1 (.slice none 0 0) 0 [])]) (by kernel_rfl) (by kernel_rfl) [131, 132, 133, 134, 135, 136, 137, 138, 139, 140, 141, 142, 143, 144, 145, 146, 147, 148, 149, 150, 151, 152] (by kernel_rfl) rfl (by kernel_rfl) 24 rfl ?_ ?_ ?_
                · exact fun L hL => ((((R16.out.nil 5 1).nil 5 1).sub [2, 3, 4, 5, 6, 7, 8, 9, 10, 11, 12, 13, 14, 15, 0, 1] (by decide) (qs := [row 5 1 (.slice AU1 (i + 1) cU1) (i + 1) (u8s (mp (upB b) pix (i + 1))), row 5 1 (.slice AD1 (i + 1) cD1) (i + 1) (u8s (mp (upB b) dark (i + 1))), row 5 1 (.slice AL1 (i + 1) cL1) (i + 1) (u8s (mp (upB b) light (i + 1))), row 5 1 (.slice AB1 (i + 1) cB1) (i + 1) (u8s (mp opB pix (i + 1))), row 5 1 (.slice AE i cE) i (u8s (mp opB light i)), row 5 1 (.slice AF i cF) i (u8s (mp opB dark i)), box BX 26 [.int .i64 dW, .int .i64 dH, .slice AE i cE, .slice AF i cF], box BW 24 [.int .i64 sW, .int .i64 sH, .slice AB1 (i + 1) cB1], box BV 26 [.int .i64 dW, .int .i64 dH, .slice AD1 (i + 1) cD1, .slice AL1 (i + 1) cL1], box BU 24 [.int .i64 sW, .int .i64 sH, .slice AU1 (i + 1) cU1], box Ba 34 [.int .i64 sW, .int .i64 sH, .slice Aa np ca], seen Aa (bools (neg (offs pix dark light))), box (w.heap.size + 1) 26 [.int .i64 dW, .int .i64 dH, .slice (some ⟨bD, oD, none⟩) np c, .slice (some ⟨bL, oL, none⟩) np c'], box w.heap.size 24 [.int .i64 sW, .int .i64 sH, .slice (some ⟨bP, oP, none⟩) np cp], row 5 1 (.slice none 0 0) 0 [], row 5 1 (.slice none 0 0) 0 []]) rfl).ext (Below.refl _ _).drew).cast (by simp [hL 8 (by decide), hL 9 (by decide), hL 21 (by decide), hL 18 (by decide), hL 19 (by decide), hL 23 (by decide)])
                · refine ⟨StepS.of [] (by kernel_rfl) ?_, ?_⟩
                  · intro L vs wq hL hA hC hJ
                    unfold forAll
                    exact StepV.val 131 (by kernel_rfl) (by kernel_rfl) rfl (by simp) rfl rfl hJ
                  refine ⟨StepS.of [131] (by kernel_rfl) ?_, ?_⟩
                  · intro L vs wq hL hA hC hJ h131
                    rw [(show vs 131 = .pointer (some ⟨BX, 2, none⟩) from h131)]
                    unfold forAll
                    have hs := hC.no (j := 21) (i := 1) (by kernel_rfl) hL
                    have t2 := (hJ.bx 6 rfl).1 2 _ rfl
                    rw [hs] at t2
                    simp only [cond_false] at t2
                    exact StepV.val 132 (by kernel_rfl) (by go_simp) rfl (by simp [Act.put]) rfl rfl hJ
                  refine ⟨StepS.of [] (by kernel_rfl) ?_, ?_⟩
                  · intro L vs wq hL hA hC hJ
                    unfold forAll
                    exact StepV.val 133 (by kernel_rfl) (by kernel_rfl) rfl (by simp) rfl rfl hJ
                  refine ⟨StepS.of [133] (by kernel_rfl) ?_, ?_⟩
                  · intro L vs wq hL hA hC hJ h133
                    rw [(show vs 133 = .pointer (some ⟨w.heap.size + 1, 3, none⟩) from h133)]
                    unfold forAll
                    obtain ⟨t0, t1, t2, t3, _⟩ := (hJ.bx 12 rfl).c4
                    exact StepV.val 134 (by kernel_rfl) (by go_simp) rfl (by simp [Act.put]) rfl rfl hJ
                  refine ⟨StepS.of [] (by kernel_rfl) ?_, ?_⟩
                  · intro L vs wq hL hA hC hJ
                    unfold forAll
                    exact StepV.val 135 (by kernel_rfl) (by kernel_rfl) rfl (by simp) rfl rfl hJ
                  refine ⟨StepS.of [134, 135] (by kernel_rfl) ?_, ?_⟩
                  · intro L vs wq hL hA hC hJ h134 h135
                    rw [(show vs 134 = .slice (some ⟨bL, oL, none⟩) np c' from h134), (show vs 135 = .int .i64 (i : Nat) from h135)]
                    unfold forAll
                    exact StepV.val 136 (by kernel_rfl) (by go_simp) rfl (by simp [Act.put]) rfl rfl hJ
                  refine ⟨StepS.of [136] (by kernel_rfl) ?_, ?_⟩
                  · intro L vs wq hL hA hC hJ h136
                    rw [(show vs 136 = .pointer (some ⟨bL, oL + i, none⟩) from h136)]
                    unfold forAll
                    obtain ⟨kk, lk⟩ := GL.out _ hJ.bel
                    exact StepV.val 137 (by kernel_rfl) (by go_simp) rfl (by simp [Act.put]) rfl rfl hJ
                  refine ⟨StepS.of [137] (by kernel_rfl) ?_, ?_⟩
                  · intro L vs wq hL hA hC hJ h137
                    rw [(show vs 137 = .int .u8 g from h137)]
                    unfold forAll
                    exact StepV.val 138 (by kernel_rfl) (by go_simp) rfl (by simp [Act.put]) rfl rfl hJ
                  refine ⟨StepS.of [138] (by kernel_rfl) ?_, ?_⟩
                  · intro L vs wq hL hA hC hJ h138
                    rw [(show vs 138 = .int .u8 (opB g) from h138)]
                    unfold forAll
                    have ha := hC.no (j := 9) (i := 8) (by kernel_rfl) hL
                    have hs := hC.no (j := 21) (i := 8) (by kernel_rfl) hL
                    have K := Own.cast (qs := [row 5 1 (.slice AU1 (i + 1) cU1) (i + 1) (u8s (mp (upB b) pix (i + 1))), row 5 1 (.slice AD1 (i + 1) cD1) (i + 1) (u8s (mp (upB b) dark (i + 1))), row 5 1 (.slice AL1 (i + 1) cL1) (i + 1) (u8s (mp (upB b) light (i + 1))), row 5 1 (.slice AB1 (i + 1) cB1) (i + 1) (u8s (mp opB pix (i + 1))), row 5 1 (.slice AE i cE) i (u8s (mp opB light i)), cond (L 19) (row 5 1 (vs 150) (i + 1) (u8s (mp opB dark (i + 1)))) (row 5 1 (.slice AF i cF) i (u8s (mp opB dark i))), box BX 26 [.int .i64 dW, .int .i64 dH, .slice AE i cE, cond (L 23) (vs 150) (.slice AF i cF)], box BW 24 [.int .i64 sW, .int .i64 sH, .slice AB1 (i + 1) cB1], box BV 26 [.int .i64 dW, .int .i64 dH, .slice AD1 (i + 1) cD1, .slice AL1 (i + 1) cL1], box BU 24 [.int .i64 sW, .int .i64 sH, .slice AU1 (i + 1) cU1], box Ba 34 [.int .i64 sW, .int .i64 sH, .slice Aa np ca], seen Aa (bools (neg (offs pix dark light))), box (w.heap.size + 1) 26 [.int .i64 dW, .int .i64 dH, .slice (some ⟨bD, oD, none⟩) np c, .slice (some ⟨bL, oL, none⟩) np c'], box w.heap.size 24 [.int .i64 sW, .int .i64 sH, .slice (some ⟨bP, oP, none⟩) np cp], row 5 1 (.slice none 0 0) 0 [], cond (L 18) (row 5 1 (vs 149) 1 [.int .u8 (opB d)]) (row 5 1 (.slice none 0 0) 0 [])]) hJ (by simp [hL, ha, hs])
                    have K2 := (K.new' 5 #[.int .u8 (opB g)] (B := wq.heap.size) rfl).asRow (size := 1) (n := 1) 0 rfl rfl (by unfold maxLen; omega)
                    have K3 := K2.sub [1, 2, 3, 4, 5, 6, 7, 8, 9, 10, 11, 12, 13, 14, 0, 16] (by decide) (qs := [row 5 1 (.slice AU1 (i + 1) cU1) (i + 1) (u8s (mp (upB b) pix (i + 1))), row 5 1 (.slice AD1 (i + 1) cD1) (i + 1) (u8s (mp (upB b) dark (i + 1))), row 5 1 (.slice AL1 (i + 1) cL1) (i + 1) (u8s (mp (upB b) light (i + 1))), row 5 1 (.slice AB1 (i + 1) cB1) (i + 1) (u8s (mp opB pix (i + 1))), row 5 1 (.slice AE i cE) i (u8s (mp opB light i)), cond (L 19) (row 5 1 (vs 150) (i + 1) (u8s (mp opB dark (i + 1)))) (row 5 1 (.slice AF i cF) i (u8s (mp opB dark i))), box BX 26 [.int .i64 dW, .int .i64 dH, .slice AE i cE, cond (L 23) (vs 150) (.slice AF i cF)], box BW 24 [.int .i64 sW, .int .i64 sH, .slice AB1 (i + 1) cB1], box BV 26 [.int .i64 dW, .int .i64 dH, .slice AD1 (i + 1) cD1, .slice AL1 (i + 1) cL1], box BU 24 [.int .i64 sW, .int .i64 sH, .slice AU1 (i + 1) cU1], box Ba 34 [.int .i64 sW, .int .i64 sH, .slice Aa np ca], seen Aa (bools (neg (offs pix dark light))), box (w.heap.size + 1) 26 [.int .i64 dW, .int .i64 dH, .slice (some ⟨bD, oD, none⟩) np c, .slice (some ⟨bL, oL, none⟩) np c'], box w.heap.size 24 [.int .i64 sW, .int .i64 sH, .slice (some ⟨bP, oP, none⟩) np cp], row 5 1 (.slice (some ⟨wq.heap.size, 0, none⟩) 1 1) 1 [.int .u8 (opB g)], cond (L 18) (row 5 1 (vs 149) 1 [.int .u8 (opB d)]) (row 5 1 (.slice none 0 0) 0 [])]) rfl
                    exact StepV.val 139 (v := .slice (some ⟨wq.heap.size, 0, none⟩) 1 1) (w' := wq.alloc (.cells #[.int .u8 (opB g)] 5)) (by kernel_rfl) (by go_simp) rfl (by simp [Act.put]) rfl trivial (K3.cast (by simp [upd, updv, ha, hs]))
                  refine ⟨StepS.of [132, 139] (by kernel_rfl) ?_, ?_⟩
                  · intro L vs wq hL hA hC hJ h132 h139
                    rw [(show vs 132 = .slice AE i cE from h132)]
                    unfold forAll
                    have hb := afterS hA (i := 8) (by kernel_rfl)
                    have hs := hC.no (j := 21) (i := 9) (by kernel_rfl) hL
                    have K := Own.cast (qs := [row 5 1 (.slice AU1 (i + 1) cU1) (i + 1) (u8s (mp (upB b) pix (i + 1))), row 5 1 (.slice AD1 (i + 1) cD1) (i + 1) (u8s (mp (upB b) dark (i + 1))), row 5 1 (.slice AL1 (i + 1) cL1) (i + 1) (u8s (mp (upB b) light (i + 1))), row 5 1 (.slice AB1 (i + 1) cB1) (i + 1) (u8s (mp opB pix (i + 1))), row 5 1 (.slice AE i cE) i (u8s (mp opB light i)), cond (L 19) (row 5 1 (vs 150) (i + 1) (u8s (mp opB dark (i + 1)))) (row 5 1 (.slice AF i cF) i (u8s (mp opB dark i))), box BX 26 [.int .i64 dW, .int .i64 dH, .slice AE i cE, cond (L 23) (vs 150) (.slice AF i cF)], box BW 24 [.int .i64 sW, .int .i64 sH, .slice AB1 (i + 1) cB1], box BV 26 [.int .i64 dW, .int .i64 dH, .slice AD1 (i + 1) cD1, .slice AL1 (i + 1) cL1], box BU 24 [.int .i64 sW, .int .i64 sH, .slice AU1 (i + 1) cU1], box Ba 34 [.int .i64 sW, .int .i64 sH, .slice Aa np ca], seen Aa (bools (neg (offs pix dark light))), box (w.heap.size + 1) 26 [.int .i64 dW, .int .i64 dH, .slice (some ⟨bD, oD, none⟩) np c, .slice (some ⟨bL, oL, none⟩) np c'], box w.heap.size 24 [.int .i64 sW, .int .i64 sH, .slice (some ⟨bP, oP, none⟩) np cp], row 5 1 (vs 139) 1 [.int .u8 (opB g)], cond (L 18) (row 5 1 (vs 149) 1 [.int .u8 (opB d)]) (row 5 1 (.slice none 0 0) 0 [])]) hJ (by simp [hL, hb, hs])
                    obtain ⟨A8, c8, e8, ho8⟩ := rd_of_own (K.get 14 rfl)
                    rw [e8]
                    refine StepV.app 140 rfl (.tmp 132) (.tmp 139) 22 rfl rfl (by simp [Act.put]) rfl st22 4 K rfl (by simp [Act.eval, Act.put]) (by simp [Act.eval, Act.put]; rfl) (i + 1) (u8s (mp opB light (i + 1))) [.int .u8 (opB g)] rfl (by rw [HES.out]; simp [u8s]) ho8.rd rfl (by simp [Value.oneCell']) (by unfold maxLen; omega) (by omega) ?_
                    intro A9 c9 w9 hO9
                    exact ⟨trivial, hO9.cast (by simp [upd, updv, hb, hs, e8])⟩
                  refine ⟨StepS.of [] (by kernel_rfl) ?_, ?_⟩
                  · intro L vs wq hL hA hC hJ
                    unfold forAll
                    exact StepV.val 141 (by kernel_rfl) (by kernel_rfl) rfl (by simp) rfl rfl hJ
                  refine ⟨StepS.of [141] (by kernel_rfl) ?_, ?_⟩
                  · intro L vs wq hL hA hC hJ h141
                    rw [(show vs 141 = .pointer (some ⟨BX, 3, none⟩) from h141)]
                    unfold forAll
                    have hs := hC.no (j := 23) (i := 11) (by kernel_rfl) hL
                    have t2 := (hJ.bx 6 rfl).1 3 _ rfl
                    rw [hs] at t2
                    simp only [cond_false] at t2
                    exact StepV.val 142 (by kernel_rfl) (by go_simp) rfl (by simp [Act.put]) rfl rfl hJ
                  refine ⟨StepS.of [] (by kernel_rfl) ?_, ?_⟩
                  · intro L vs wq hL hA hC hJ
                    unfold forAll
                    exact StepV.val 143 (by kernel_rfl) (by kernel_rfl) rfl (by simp) rfl rfl hJ
                  refine ⟨StepS.of [143] (by kernel_rfl) ?_, ?_⟩
                  · intro L vs wq hL hA hC hJ h143
                    rw [(show vs 143 = .pointer (some ⟨w.heap.size + 1, 2, none⟩) from h143)]
                    unfold forAll
                    obtain ⟨t0, t1, t2, t3, _⟩ := (hJ.bx 12 rfl).c4
                    exact StepV.val 144 (by kernel_rfl) (by go_simp) rfl (by simp [Act.put]) rfl rfl hJ
                  refine ⟨StepS.of [] (by kernel_rfl) ?_, ?_⟩
                  · intro L vs wq hL hA hC hJ
                    unfold forAll
                    exact StepV.val 145 (by kernel_rfl) (by kernel_rfl) rfl (by simp) rfl rfl hJ
                  refine ⟨StepS.of [144, 145] (by kernel_rfl) ?_, ?_⟩
                  · intro L vs wq hL hA hC hJ h144 h145
                    rw [(show vs 144 = .slice (some ⟨bD, oD, none⟩) np c from h144), (show vs 145 = .int .i64 (i : Nat) from h145)]
                    unfold forAll
                    exact StepV.val 146 (by kernel_rfl) (by go_simp) rfl (by simp [Act.put]) rfl rfl hJ
                  refine ⟨StepS.of [146] (by kernel_rfl) ?_, ?_⟩
                  · intro L vs wq hL hA hC hJ h146
                    rw [(show vs 146 = .pointer (some ⟨bD, oD + i, none⟩) from h146)]
                    unfold forAll
                    obtain ⟨kk, lk⟩ := GD.out _ hJ.bel
                    exact StepV.val 147 (by kernel_rfl) (by go_simp) rfl (by simp [Act.put]) rfl rfl hJ
                  refine ⟨StepS.of [147] (by kernel_rfl) ?_, ?_⟩
                  · intro L vs wq hL hA hC hJ h147
                    rw [(show vs 147 = .int .u8 d from h147)]
                    unfold forAll
                    exact StepV.val 148 (by kernel_rfl) (by go_simp) rfl (by simp [Act.put]) rfl rfl hJ
                  refine ⟨StepS.of [148] (by kernel_rfl) ?_, ?_⟩
                  · intro L vs wq hL hA hC hJ h148
                    rw [(show vs 148 = .int .u8 (opB d) from h148)]
                    unfold forAll
                    have ha := hC.no (j := 19) (i := 18) (by kernel_rfl) hL
                    have hs := hC.no (j := 23) (i := 18) (by kernel_rfl) hL
                    have K := Own.cast (qs := [row 5 1 (.slice AU1 (i + 1) cU1) (i + 1) (u8s (mp (upB b) pix (i + 1))), row 5 1 (.slice AD1 (i + 1) cD1) (i + 1) (u8s (mp (upB b) dark (i + 1))), row 5 1 (.slice AL1 (i + 1) cL1) (i + 1) (u8s (mp (upB b) light (i + 1))), row 5 1 (.slice AB1 (i + 1) cB1) (i + 1) (u8s (mp opB pix (i + 1))), cond (L 9) (row 5 1 (vs 140) (i + 1) (u8s (mp opB light (i + 1)))) (row 5 1 (.slice AE i cE) i (u8s (mp opB light i))), row 5 1 (.slice AF i cF) i (u8s (mp opB dark i)), box BX 26 [.int .i64 dW, .int .i64 dH, cond (L 21) (vs 140) (.slice AE i cE), .slice AF i cF], box BW 24 [.int .i64 sW, .int .i64 sH, .slice AB1 (i + 1) cB1], box BV 26 [.int .i64 dW, .int .i64 dH, .slice AD1 (i + 1) cD1, .slice AL1 (i + 1) cL1], box BU 24 [.int .i64 sW, .int .i64 sH, .slice AU1 (i + 1) cU1], box Ba 34 [.int .i64 sW, .int .i64 sH, .slice Aa np ca], seen Aa (bools (neg (offs pix dark light))), box (w.heap.size + 1) 26 [.int .i64 dW, .int .i64 dH, .slice (some ⟨bD, oD, none⟩) np c, .slice (some ⟨bL, oL, none⟩) np c'], box w.heap.size 24 [.int .i64 sW, .int .i64 sH, .slice (some ⟨bP, oP, none⟩) np cp], cond (L 8) (row 5 1 (vs 139) 1 [.int .u8 (opB g)]) (row 5 1 (.slice none 0 0) 0 []), row 5 1 (.slice none 0 0) 0 []]) hJ (by simp [hL, ha, hs])
                    have K2 := (K.new' 5 #[.int .u8 (opB d)] (B := wq.heap.size) rfl).asRow (size := 1) (n := 1) 0 rfl rfl (by unfold maxLen; omega)
                    have K3 := K2.sub [1, 2, 3, 4, 5, 6, 7, 8, 9, 10, 11, 12, 13, 14, 15, 0] (by decide) (qs := [row 5 1 (.slice AU1 (i + 1) cU1) (i + 1) (u8s (mp (upB b) pix (i + 1))), row 5 1 (.slice AD1 (i + 1) cD1) (i + 1) (u8s (mp (upB b) dark (i + 1))), row 5 1 (.slice AL1 (i + 1) cL1) (i + 1) (u8s (mp (upB b) light (i + 1))), row 5 1 (.slice AB1 (i + 1) cB1) (i + 1) (u8s (mp opB pix (i + 1))), cond (L 9) (row 5 1 (vs 140) (i + 1) (u8s (mp opB light (i + 1)))) (row 5 1 (.slice AE i cE) i (u8s (mp opB light i))), row 5 1 (.slice AF i cF) i (u8s (mp opB dark i)), box BX 26 [.int .i64 dW, .int .i64 dH, cond (L 21) (vs 140) (.slice AE i cE), .slice AF i cF], box BW 24 [.int .i64 sW, .int .i64 sH, .slice AB1 (i + 1) cB1], box BV 26 [.int .i64 dW, .int .i64 dH, .slice AD1 (i + 1) cD1, .slice AL1 (i + 1) cL1], box BU 24 [.int .i64 sW, .int .i64 sH, .slice AU1 (i + 1) cU1], box Ba 34 [.int .i64 sW, .int .i64 sH, .slice Aa np ca], seen Aa (bools (neg (offs pix dark light))), box (w.heap.size + 1) 26 [.int .i64 dW, .int .i64 dH, .slice (some ⟨bD, oD, none⟩) np c, .slice (some ⟨bL, oL, none⟩) np c'], box w.heap.size 24 [.int .i64 sW, .int .i64 sH, .slice (some ⟨bP, oP, none⟩) np cp], cond (L 8) (row 5 1 (vs 139) 1 [.int .u8 (opB g)]) (row 5 1 (.slice none 0 0) 0 []), row 5 1 (.slice (some ⟨wq.heap.size, 0, none⟩) 1 1) 1 [.int .u8 (opB d)]]) rfl
                    exact StepV.val 149 (v := .slice (some ⟨wq.heap.size, 0, none⟩) 1 1) (w' := wq.alloc (.cells #[.int .u8 (opB d)] 5)) (by kernel_rfl) (by go_simp) rfl (by simp [Act.put]) rfl trivial (K3.cast (by simp [upd, updv, ha, hs]))
                  refine ⟨StepS.of [142, 149] (by kernel_rfl) ?_, ?_⟩
                  · intro L vs wq hL hA hC hJ h142 h149
                    rw [(show vs 142 = .slice AF i cF from h142)]
                    unfold forAll
                    have hb := afterS hA (i := 18) (by kernel_rfl)
                    have hs := hC.no (j := 23) (i := 19) (by kernel_rfl) hL
                    have K := Own.cast (qs := [row 5 1 (.slice AU1 (i + 1) cU1) (i + 1) (u8s (mp (upB b) pix (i + 1))), row 5 1 (.slice AD1 (i + 1) cD1) (i + 1) (u8s (mp (upB b) dark (i + 1))), row 5 1 (.slice AL1 (i + 1) cL1) (i + 1) (u8s (mp (upB b) light (i + 1))), row 5 1 (.slice AB1 (i + 1) cB1) (i + 1) (u8s (mp opB pix (i + 1))), cond (L 9) (row 5 1 (vs 140) (i + 1) (u8s (mp opB light (i + 1)))) (row 5 1 (.slice AE i cE) i (u8s (mp opB light i))), row 5 1 (.slice AF i cF) i (u8s (mp opB dark i)), box BX 26 [.int .i64 dW, .int .i64 dH, cond (L 21) (vs 140) (.slice AE i cE), .slice AF i cF], box BW 24 [.int .i64 sW, .int .i64 sH, .slice AB1 (i + 1) cB1], box BV 26 [.int .i64 dW, .int .i64 dH, .slice AD1 (i + 1) cD1, .slice AL1 (i + 1) cL1], box BU 24 [.int .i64 sW, .int .i64 sH, .slice AU1 (i + 1) cU1], box Ba 34 [.int .i64 sW, .int .i64 sH, .slice Aa np ca], seen Aa (bools (neg (offs pix dark light))), box (w.heap.size + 1) 26 [.int .i64 dW, .int .i64 dH, .slice (some ⟨bD, oD, none⟩) np c, .slice (some ⟨bL, oL, none⟩) np c'], box w.heap.size 24 [.int .i64 sW, .int .i64 sH, .slice (some ⟨bP, oP, none⟩) np cp], cond (L 8) (row 5 1 (vs 139) 1 [.int .u8 (opB g)]) (row 5 1 (.slice none 0 0) 0 []), row 5 1 (vs 149) 1 [.int .u8 (opB d)]]) hJ (by simp [hL, hb, hs])
                    obtain ⟨A8, c8, e8, ho8⟩ := rd_of_own (K.get 15 rfl)
                    rw [e8]
                    refine StepV.app 150 rfl (.tmp 142) (.tmp 149) 22 rfl rfl (by simp [Act.put]) rfl st22 5 K rfl (by simp [Act.eval, Act.put]) (by simp [Act.eval, Act.put]; rfl) (i + 1) (u8s (mp opB dark (i + 1))) [.int .u8 (opB d)] rfl (by rw [HFS.out]; simp [u8s]) ho8.rd rfl (by simp [Value.oneCell']) (by unfold maxLen; omega) (by omega) ?_
                    intro A9 c9 w9 hO9
                    exact ⟨trivial, hO9.cast (by simp [upd, updv, hb, hs, e8])⟩
                  refine ⟨StepS.of [] (by kernel_rfl) ?_, ?_⟩
                  · intro L vs wq hL hA hC hJ
                    unfold forAll
                    exact StepV.val 151 (by kernel_rfl) (by kernel_rfl) rfl (by simp) rfl rfl hJ
                  refine ⟨StepS.of [151, 140] (by kernel_rfl) ?_, ?_⟩
                  · intro L vs wq hL hA hC hJ h151 h140
                    rw [(show vs 151 = .pointer (some ⟨BX, 2, none⟩) from h151)]
                    unfold forAll
                    have ha := afterS hA (i := 9) (by kernel_rfl)
                    have hb := hC.yes (j := 9) (i := 8) (by kernel_rfl) ha
                    have K := Own.cast (qs := [row 5 1 (.slice AU1 (i + 1) cU1) (i + 1) (u8s (mp (upB b) pix (i + 1))), row 5 1 (.slice AD1 (i + 1) cD1) (i + 1) (u8s (mp (upB b) dark (i + 1))), row 5 1 (.slice AL1 (i + 1) cL1) (i + 1) (u8s (mp (upB b) light (i + 1))), row 5 1 (.slice AB1 (i + 1) cB1) (i + 1) (u8s (mp opB pix (i + 1))), row 5 1 (vs 140) (i + 1) (u8s (mp opB light (i + 1))), cond (L 19) (row 5 1 (vs 150) (i + 1) (u8s (mp opB dark (i + 1)))) (row 5 1 (.slice AF i cF) i (u8s (mp opB dark i))), box BX 26 [.int .i64 dW, .int .i64 dH, .slice AE i cE, cond (L 23) (vs 150) (.slice AF i cF)], box BW 24 [.int .i64 sW, .int .i64 sH, .slice AB1 (i + 1) cB1], box BV 26 [.int .i64 dW, .int .i64 dH, .slice AD1 (i + 1) cD1, .slice AL1 (i + 1) cL1], box BU 24 [.int .i64 sW, .int .i64 sH, .slice AU1 (i + 1) cU1], box Ba 34 [.int .i64 sW, .int .i64 sH, .slice Aa np ca], seen Aa (bools (neg (offs pix dark light))), box (w.heap.size + 1) 26 [.int .i64 dW, .int .i64 dH, .slice (some ⟨bD, oD, none⟩) np c, .slice (some ⟨bL, oL, none⟩) np c'], box w.heap.size 24 [.int .i64 sW, .int .i64 sH, .slice (some ⟨bP, oP, none⟩) np cp], row 5 1 (vs 139) 1 [.int .u8 (opB g)], cond (L 18) (row 5 1 (vs 149) 1 [.int .u8 (opB d)]) (row 5 1 (.slice none 0 0) 0 [])]) hJ (by simp [hL, hb, ha])
                    obtain ⟨A9, c9, e9, _⟩ := rd_of_own (K.get 4 rfl)
                    rw [e9]
                    have t0 := (K.bx 6 rfl).1 2 _ rfl
                    have tf := (K.bx 6 rfl).2.1
                    have tl := (K.bx 6 rfl).2.2
                    exact StepV.skip (by kernel_rfl) (by go_simp) rfl rfl ((K.set 6 rfl 2 (.slice A9 (i + 1) c9)).cast (by simp [upd, hb, ha, e9]))
                  refine ⟨StepS.of [] (by kernel_rfl) ?_, ?_⟩
                  · intro L vs wq hL hA hC hJ
                    unfold forAll
                    exact StepV.val 152 (by kernel_rfl) (by kernel_rfl) rfl (by simp) rfl rfl hJ
                  refine ⟨StepS.of [152, 150] (by kernel_rfl) ?_, ?_⟩
                  · intro L vs wq hL hA hC hJ h152 h150
                    rw [(show vs 152 = .pointer (some ⟨BX, 3, none⟩) from h152)]
                    unfold forAll
                    have ha := afterS hA (i := 19) (by kernel_rfl)
                    have hb := hC.yes (j := 19) (i := 18) (by kernel_rfl) ha
                    have K := Own.cast (qs := [row 5 1 (.slice AU1 (i + 1) cU1) (i + 1) (u8s (mp (upB b) pix (i + 1))), row 5 1 (.slice AD1 (i + 1) cD1) (i + 1) (u8s (mp (upB b) dark (i + 1))), row 5 1 (.slice AL1 (i + 1) cL1) (i + 1) (u8s (mp (upB b) light (i + 1))), row 5 1 (.slice AB1 (i + 1) cB1) (i + 1) (u8s (mp opB pix (i + 1))), cond (L 9) (row 5 1 (vs 140) (i + 1) (u8s (mp opB light (i + 1)))) (row 5 1 (.slice AE i cE) i (u8s (mp opB light i))), row 5 1 (vs 150) (i + 1) (u8s (mp opB dark (i + 1))), box BX 26 [.int .i64 dW, .int .i64 dH, cond (L 21) (vs 140) (.slice AE i cE), .slice AF i cF], box BW 24 [.int .i64 sW, .int .i64 sH, .slice AB1 (i + 1) cB1], box BV 26 [.int .i64 dW, .int .i64 dH, .slice AD1 (i + 1) cD1, .slice AL1 (i + 1) cL1], box BU 24 [.int .i64 sW, .int .i64 sH, .slice AU1 (i + 1) cU1], box Ba 34 [.int .i64 sW, .int .i64 sH, .slice Aa np ca], seen Aa (bools (neg (offs pix dark light))), box (w.heap.size + 1) 26 [.int .i64 dW, .int .i64 dH, .slice (some ⟨bD, oD, none⟩) np c, .slice (some ⟨bL, oL, none⟩) np c'], box w.heap.size 24 [.int .i64 sW, .int .i64 sH, .slice (some ⟨bP, oP, none⟩) np cp], cond (L 8) (row 5 1 (vs 139) 1 [.int .u8 (opB g)]) (row 5 1 (.slice none 0 0) 0 []), row 5 1 (vs 149) 1 [.int .u8 (opB d)]]) hJ (by simp [hL, hb, ha])
                    obtain ⟨A9, c9, e9, _⟩ := rd_of_own (K.get 5 rfl)
                    rw [e9]
                    have t0 := (K.bx 6 rfl).1 3 _ rfl
                    have tf := (K.bx 6 rfl).2.1
                    have tl := (K.bx 6 rfl).2.2
                    exact StepV.skip (by kernel_rfl) (by go_simp) rfl rfl ((K.set 6 rfl 3 (.slice A9 (i + 1) c9)).cast (by simp [upd, hb, ha, e9]))
                  exact trivial
                · intro vs v17 hJ h131 h132 h133 h134 h135 h136 h137 h138 h139 h140 h141 h142 h143 h144 h145 h146 h147 h148 h149 h150 h151 h152
                  rw [(show vs 131 = .pointer (some ⟨BX, 2, none⟩) from h131), (show vs 132 = .slice AE i cE from h132), (show vs 133 = .pointer (some ⟨w.heap.size + 1, 3, none⟩) from h133), (show vs 134 = .slice (some ⟨bL, oL, none⟩) np c' from h134), (show vs 135 = .int .i64 (i : Nat) from h135), (show vs 136 = .pointer (some ⟨bL, oL + i, none⟩) from h136), (show vs 137 = .int .u8 g from h137), (show vs 138 = .int .u8 (opB g) from h138), (show vs 141 = .pointer (some ⟨BX, 3, none⟩) from h141), (show vs 142 = .slice AF i cF from h142), (show vs 143 = .pointer (some ⟨w.heap.size + 1, 2, none⟩) from h143), (show vs 144 = .slice (some ⟨bD, oD, none⟩) np c from h144), (show vs 145 = .int .i64 (i : Nat) from h145), (show vs 146 = .pointer (some ⟨bD, oD + i, none⟩) from h146), (show vs 147 = .int .u8 d from h147), (show vs 148 = .int .u8 (opB d) from h148), (show vs 151 = .pointer (some ⟨BX, 2, none⟩) from h151), (show vs 152 = .pointer (some ⟨BX, 3, none⟩) from h152)]
                  clear h131 h132 h133 h134 h135 h136 h137 h138 h139 h140 h141 h142 h143 h144 h145 h146 h147 h148 h149 h150 h151 h152
                  have K := Own.cast (qs := [row 5 1 (.slice AU1 (i + 1) cU1) (i + 1) (u8s (mp (upB b) pix (i + 1))), row 5 1 (.slice AD1 (i + 1) cD1) (i + 1) (u8s (mp (upB b) dark (i + 1))), row 5 1 (.slice AL1 (i + 1) cL1) (i + 1) (u8s (mp (upB b) light (i + 1))), row 5 1 (.slice AB1 (i + 1) cB1) (i + 1) (u8s (mp opB pix (i + 1))), row 5 1 (vs 140) (i + 1) (u8s (mp opB light (i + 1))), row 5 1 (vs 150) (i + 1) (u8s (mp opB dark (i + 1))), box BX 26 [.int .i64 dW, .int .i64 dH, vs 140, vs 150], box BW 24 [.int .i64 sW, .int .i64 sH, .slice AB1 (i + 1) cB1], box BV 26 [.int .i64 dW, .int .i64 dH, .slice AD1 (i + 1) cD1, .slice AL1 (i + 1) cL1], box BU 24 [.int .i64 sW, .int .i64 sH, .slice AU1 (i + 1) cU1], box Ba 34 [.int .i64 sW, .int .i64 sH, .slice Aa np ca], seen Aa (bools (neg (offs pix dark light))), box (w.heap.size + 1) 26 [.int .i64 dW, .int .i64 dH, .slice (some ⟨bD, oD, none⟩) np c, .slice (some ⟨bL, oL, none⟩) np c'], box w.heap.size 24 [.int .i64 sW, .int .i64 sH, .slice (some ⟨bP, oP, none⟩) np cp], row 5 1 (vs 139) 1 [.int .u8 (opB g)], row 5 1 (vs 149) 1 [.int .u8 (opB d)]]) hJ rfl
                  obtain ⟨AE1, cE1, e0, _⟩ := rd_of_own (K.get 4 rfl)
                  obtain ⟨_, _, f0, _⟩ := rd_of_own (K.get 14 rfl)
                  obtain ⟨AF1, cF1, e1, _⟩ := rd_of_own (K.get 5 rfl)
                  obtain ⟨_, _, f1, _⟩ := rd_of_own (K.get 15 rfl)
                  rw [e0, e1] at K
                  rw [e0, e1, f0, f1]
                  have R17 := Lib.hid (K.sub [0, 1, 2, 3, 4, 5, 6, 7, 8, 9, 10, 11, 12, 13] (by decide) (qs := [row 5 1 (.slice AU1 (i + 1) cU1) (i + 1) (u8s (mp (upB b) pix (i + 1))), row 5 1 (.slice AD1 (i + 1) cD1) (i + 1) (u8s (mp (upB b) dark (i + 1))), row 5 1 (.slice AL1 (i + 1) cL1) (i + 1) (u8s (mp (upB b) light (i + 1))), row 5 1 (.slice AB1 (i + 1) cB1) (i + 1) (u8s (mp opB pix (i + 1))), row 5 1 (.slice AE1 (i + 1) cE1) (i + 1) (u8s (mp opB light (i + 1))), row 5 1 (.slice AF1 (i + 1) cF1) (i + 1) (u8s (mp opB dark (i + 1))), box BX 26 [.int .i64 dW, .int .i64 dH, .slice AE1 (i + 1) cE1, .slice AF1 (i + 1) cF1], box BW 24 [.int .i64 sW, .int .i64 sH, .slice AB1 (i + 1) cB1], box BV 26 [.int .i64 dW, .int .i64 dH, .slice AD1 (i + 1) cD1, .slice AL1 (i + 1) cL1], box BU 24 [.int .i64 sW, .int .i64 sH, .slice AU1 (i + 1) cU1], box Ba 34 [.int .i64 sW, .int .i64 sH, .slice Aa np ca], seen Aa (bools (neg (offs pix dark light))), box (w.heap.size + 1) 26 [.int .i64 dW, .int .i64 dH, .slice (some ⟨bD, oD, none⟩) np c, .slice (some ⟨bL, oL, none⟩) np c'], box w.heap.size 24 [.int .i64 sW, .int .i64 sH, .slice (some ⟨bP, oP, none⟩) np cp]]) rfl)
                  clear K hJ e0 e1 f0 f1
                  unfold forAll
                  simp only [Act.put, List.setIfInBounds_toArray, List.set_cons_zero, List.set_cons_succ]
                  clear R16
                  go_wp2_with fail
                  go_roundg (gk - 1)
                  case measure => have := I1.out; omega
                  case rel => exact ⟨i + 1, f1, AU1, cU1, AD1, cD1, AL1, cL1, AB1, cB1, AE1, cE1, AF1, cF1, by omega, rfl, by go_num, HF1.out, by have := I1.out; omega, R17.out⟩
end Go.Proofs.Ytjelnbfnoliocaa
