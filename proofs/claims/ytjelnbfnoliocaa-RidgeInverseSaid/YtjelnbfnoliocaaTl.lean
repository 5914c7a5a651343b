/- Ridge: the walk of RidgeSure. No condition. -/
import Derived.Test.YtjelnbfnoliocaaTk
import Derived.Test.YtjelnbfnoliocaaTd
namespace Go.Proofs.Ytjelnbfnoliocaa
open Go.RowKit Go.Shelf
attribute [local go_sem] Oper.semAt_some

def i8s (l : List Int) : List Value := l.map (Value.int .i8)
theorem i8s_get {l : List Int} {k : Nat} (h : k < l.length) : (i8s l)[k]? = some (.int .i8 l[k]) := by simp [i8s, h]
theorem u8s_get' {l : List Int} {k : Nat} (h : k < l.length) : (u8s l)[k]? = some (.int .u8 l[k]) := by simp [u8s, h]
theorem st22 : SlTy Try.prog 22 5 (.int .u8 0) 1 1 := ⟨Try.underlying22, by kernel_rfl, rfl, by decide⟩
theorem bools_at {l : List Bool} {i : Nat} {b : Bool} (h : l[i]? = some b) : (bools l)[i]? = some (.bool b) := by unfold bools; rw [List.getElem?_map, h]; rfl
theorem u8s_len (l : List Int) : (u8s l).length = l.length := by simp [u8s]
theorem i8s_len (l : List Int) : (i8s l).length = l.length := by simp [i8s]
theorem bools_len' (l : List Bool) : (bools l).length = l.length := by simp [bools]
set_option maxRecDepth 100000 in
set_option maxHeartbeats 4000000 in
theorem ridgeSure_walk (sW sH dW dH m mo : Int) (P A A' A4 : Option Addr) (pix dark light ns : List Int) (np cp n c n' c' nn cn : Nat) (w : World) (hp : Rd w P (u8s pix)) (hr : Rd w A (u8s dark)) (hr' : Rd w A' (u8s light)) (h4 : Rd w A4 (i8s ns)) (hnp : np = pix.length) (hn : n = dark.length) (hn' : n' = light.length) (hnn : nn = ns.length) (U0 : U8 pix) (U1 : U8 dark) (U2 : U8 light) (U4 : ∀ x ∈ ns, -128 ≤ x ∧ x ≤ 127) :
    Calls Try.prog 6 #[.agg #[.int .i64 sW, .int .i64 sH, .slice P np cp], .agg #[.int .i64 dW, .int .i64 dH, .slice A n c, .slice A' n' c'], .int .i64 m, .int .i64 mo, .slice A4 nn cn] w fun e w' => e = .returned (.bool true) ∧ Below w.heap.size w w' := by
  have S0 := Lib.hid (((Own.start w).new 24 #[.int .i64 sW, .int .i64 sH, .slice P np cp]).new' 26 #[.int .i64 dW, .int .i64 dH, .slice A n c, .slice A' n' c'] (B := w.heap.size + 1) (by simp))
  have HFP := Lib.hid (fun W1 (h : Below w.heap.size w W1) => hp.below h)
  have HFD := Lib.hid (fun W1 (h : Below w.heap.size w W1) => hr.below h)
  have HFL := Lib.hid (fun W1 (h : Below w.heap.size w W1) => hr'.below h)
  have HFN := Lib.hid (fun W1 (h : Below w.heap.size w W1) => h4.below h)
  have K43 := fun W1 h h' => seen_any sW sH dW dH P A A' dark light np cp n c n' c' W1 h hn h' hn'
  by_cases hs : seenF sW sH np dW dH dark light = 0
  case neg => as_aux_lemma =>
    have h : seenF sW sH np dW dH dark light = 10 ∨ seenF sW sH np dW dH dark light = 11 := by
      unfold seenF at hs ⊢
      split at hs
      · rename_i h1
        rw [if_pos h1]
        split at hs
        · exact absurd rfl hs
        · rename_i h2
          rw [if_neg h2]
          exact .inr rfl
      · rename_i h1
        rw [if_neg h1]
        exact .inl rfl
    rcases h with h | h
    all_goals
      rw [h] at K43
      replace K43 := Lib.hid K43
      clear hp hr hr' h4 hnp hn hn' hnn hs h
      go_enter Try.func6, Try.ntmps6
      go_wp2_with fail
      refine (alive_any _).mono ?_
      rintro e w1 ⟨rfl, hb1⟩
      have S1 := Lib.hid (S0.out.ext hb1)
      clear hb1 S0
      obtain ⟨t0_0, t0_1, t0_2, t0_3, _⟩ := (S1.out.bx 0 rfl).c4
      have lt0 := (S1.out.bx 0 rfl).2.2
      obtain ⟨t1_0, t1_1, t1_2, _⟩ := (S1.out.bx 1 rfl).c3
      have lt1 := (S1.out.bx 1 rfl).2.2
      go_wp2_with fail
      refine (K43.out _ (HFD.out _ S1.out.bel) (HFL.out _ S1.out.bel)).mono ?_
      rintro e w2 ⟨rfl, hb2⟩
      have S2 := Lib.hid (S1.out.ext hb2)
      clear hb2 S1 t0_0 t0_1 t0_2 t0_3 lt0 t1_0 t1_1 t1_2 lt1
      go_wp2_with fail
      go_ret
      exact ⟨rfl, S2.out.bel⟩
  rw [hs] at K43
  by_cases hm : 0 ≤ m ∧ m ≤ 100
  case neg => as_aux_lemma =>
    replace K43 := Lib.hid K43
    have hm' : m < 0 ∨ (0 ≤ m ∧ 100 < m) := by omega
    clear hp hr hr' h4 hnp hn hn' hnn hs hm
    rcases hm' with hm | ⟨hm, hm2⟩
    · have d1 : decide (m < 0) = true := by simpa using hm
      go_enter Try.func6, Try.ntmps6
      go_wp2_with fail
      refine (alive_any _).mono ?_
      rintro e w1 ⟨rfl, hb1⟩
      have S1 := Lib.hid (S0.out.ext hb1)
      clear hb1 S0
      obtain ⟨t0_0, t0_1, t0_2, t0_3, _⟩ := (S1.out.bx 0 rfl).c4
      have lt0 := (S1.out.bx 0 rfl).2.2
      obtain ⟨t1_0, t1_1, t1_2, _⟩ := (S1.out.bx 1 rfl).c3
      have lt1 := (S1.out.bx 1 rfl).2.2
      go_wp2_with fail
      refine (K43.out _ (HFD.out _ S1.out.bel) (HFL.out _ S1.out.bel)).mono ?_
      rintro e w2 ⟨rfl, hb2⟩
      have S2 := Lib.hid (S1.out.ext hb2)
      clear hb2 S1 t0_0 t0_1 t0_2 t0_3 lt0 t1_0 t1_1 t1_2 lt1
      go_wp2_with fail
      go_ret
      exact ⟨rfl, S2.out.bel⟩
    · have d1 : decide (m < 0) = false := by simp; omega
      have d2 : decide (100 < m) = true := by simpa using hm2
      go_enter Try.func6, Try.ntmps6
      go_wp2_with fail
      refine (alive_any _).mono ?_
      rintro e w1 ⟨rfl, hb1⟩
      have S1 := Lib.hid (S0.out.ext hb1)
      clear hb1 S0
      obtain ⟨t0_0, t0_1, t0_2, t0_3, _⟩ := (S1.out.bx 0 rfl).c4
      have lt0 := (S1.out.bx 0 rfl).2.2
      obtain ⟨t1_0, t1_1, t1_2, _⟩ := (S1.out.bx 1 rfl).c3
      have lt1 := (S1.out.bx 1 rfl).2.2
      go_wp2_with fail
      refine (K43.out _ (HFD.out _ S1.out.bel) (HFL.out _ S1.out.bel)).mono ?_
      rintro e w2 ⟨rfl, hb2⟩
      have S2 := Lib.hid (S1.out.ext hb2)
      clear hb2 S1 t0_0 t0_1 t0_2 t0_3 lt0 t1_0 t1_1 t1_2 lt1
      go_wp2_with fail
      go_ret
      exact ⟨rfl, S2.out.bel⟩
  obtain ⟨hm0, hm1⟩ := hm
  obtain ⟨ln, ln', hle, h1, hsz, hdv, hqW, hqH⟩ := seen_len hs
  have K43 := Lib.hid K43
  have LD : dark.length = pix.length := by rw [ln, hnp]
  have LL : light.length = pix.length := by rw [ln', hnp]
  have HOL := Lib.hid (show (offs pix dark light).length = np by rw [offs_len _ _ _ LD LL, hnp])
  have HOL2 := Lib.hid (show (offs (nzL m ns pix np) dark light).length = np by rw [offs_len _ _ _ (by rw [nzL_len, ln]) (by rw [nzL_len, ln']), nzL_len])
  have K20 := Lib.hid (fun W1 h1 h2 h3 => (show Calls Try.prog 20 #[.agg #[.int .i64 sW, .int .i64 sH, .slice P np cp], .agg #[.int .i64 dW, .int .i64 dH, .slice A n c, .slice A' n' c']] W1 (BinPost sW sH (neg (offs pix dark light)) 0 W1) from binary_any sW sH dW dH P A A' pix dark light np cp n c n' c' W1 h1 h2 h3 hnp hn hn' U0 U1 U2 0 hs))
  have K20b := Lib.hid (fun P2 c2 W1 h1 h2 h3 => (show Calls Try.prog 20 #[.agg #[.int .i64 sW, .int .i64 sH, .slice P2 np c2], .agg #[.int .i64 dW, .int .i64 dH, .slice A n c, .slice A' n' c']] W1 (BinPost sW sH (neg (offs (nzL m ns pix np) dark light)) 0 W1) from binary_any sW sH dW dH P2 A A' (nzL m ns pix np) dark light np c2 n c n' c' W1 h1 h2 h3 (nzL_len _ _ _ _).symm hn hn' (nzL_u8 _ _ _ _) U1 U2 0 hs))
  have K23 := Lib.hid (fun W1 h1 h2 h3 => (show Calls Try.prog 23 #[.agg #[.int .i64 sW, .int .i64 sH, .slice P np cp], .agg #[.int .i64 dW, .int .i64 dH, .slice A n c, .slice A' n' c'], .int .i64 m] W1 (SurePost (sures m (offs pix dark light)) 0 W1) by
    have h := sure_any sW sH dW dH m P A A' pix dark light np cp n c n' c' W1 h1 h2 h3 hnp hn hn' U0 U1 U2 0 hs
    have e : sureE 0 m = 0 := by simp [sureE, inB, hm0, hm1]
    rw [sureL, e, if_pos rfl] at h
    exact h))
  obtain ⟨e3, L3, K23b, KM⟩ : ∃ e3 L3, Hid (∀ W1, Rd W1 P (u8s pix) → Rd W1 A (u8s dark) → Rd W1 A' (u8s light) → Calls Try.prog 23 #[.agg #[.int .i64 sW, .int .i64 sH, .slice P np cp], .agg #[.int .i64 dW, .int .i64 dH, .slice A n c, .slice A' n' c'], .int .i64 mo] W1 (SurePost L3 e3 W1)) ∧ (mo < m ∨ (¬ mo < m ∧ 100 < mo) ∨ (¬ mo < m ∧ ¬ 100 < mo ∧ e3 = 0 ∧ L3 = sures mo (offs pix dark light))) := by
    refine ⟨sureE 0 mo, sureL 0 mo pix dark light, fun W1 h1 h2 h3 => sure_any sW sH dW dH mo P A A' pix dark light np cp n c n' c' W1 h1 h2 h3 hnp hn hn' U0 U1 U2 0 hs, ?_⟩
    by_cases g1 : mo < m
    · exact .inl g1
    by_cases g2 : 100 < mo
    · exact .inr (.inl ⟨g1, g2⟩)
    have e : sureE 0 mo = 0 := by simp [sureE, inB]; omega
    exact .inr (.inr ⟨g1, g2, e, by rw [sureL, e, if_pos rfl]⟩)
  have HKEY := Lib.hid (fun i (hi : i < pix.length) a b s h1 h2 h3 => sure_keeps hm0 (ns := ns) U0 LD LL hi (a := a) (b := b) (s := s) h1 (by rw [← hnp]; exact h2) h3)
  have HNL := Lib.hid (show ∀ l : List Int, (neg l).length = l.length from fun l => by simp [neg])
  have HSL := Lib.hid (show ∀ (k : Int) (l : List Int), (sures k l).length = l.length from fun k l => by simp [sures])
  obtain ⟨bP, oP, rfl⟩ := rd_some hp (j := 0) (by rw [u8s_len]; omega)
  have HCP := Lib.hid (fun W1 (h : Rd W1 (some ⟨bP, oP, none⟩) (u8s pix)) i (hi : i < pix.length) => (⟨rd_cell h (u8s_get' hi), rd_lt h (j := i) (by rw [u8s_len]; exact hi)⟩ : W1.cell? ⟨bP, oP + i, none⟩ = some (.int .u8 pix[i]) ∧ bP < W1.heap.size))
  have HNP := Lib.hid hnp
  have HNN := Lib.hid hnn
  have HU0 := Lib.hid U0
  have HU4 := Lib.hid U4
  clear hqW hqH hp hr hr' h4 hnp hn hn' hnn hs ln ln' hsz hdv LD LL U0 U1 U2 U4
  have d1 : decide (m < 0) = false := by simp; omega
  have d2 : decide (100 < m) = false := by simp; omega
  as_aux_lemma =>
    go_enter Try.func6, Try.ntmps6
    go_wp2_with fail
    refine (alive_any _).mono ?_
    rintro e w1 ⟨rfl, hb1⟩
    have S1 := Lib.hid (S0.out.ext hb1)
    clear hb1 S0
    obtain ⟨t0_0, t0_1, t0_2, t0_3, _⟩ := (S1.out.bx 0 rfl).c4
    have lt0 := (S1.out.bx 0 rfl).2.2
    obtain ⟨t1_0, t1_1, t1_2, _⟩ := (S1.out.bx 1 rfl).c3
    have lt1 := (S1.out.bx 1 rfl).2.2
    go_wp2_with fail
    refine (K43.out _ (HFD.out _ S1.out.bel) (HFL.out _ S1.out.bel)).mono ?_
    rintro e w2 ⟨rfl, hb2⟩
    have S2 := Lib.hid (S1.out.ext hb2)
    clear hb2 S1 t0_0 t0_1 t0_2 t0_3 lt0 t1_0 t1_1 t1_2 lt1
    obtain ⟨t1_0, t1_1, t1_2, _⟩ := (S2.out.bx 1 rfl).c3
    have lt1 := (S2.out.bx 1 rfl).2.2
    go_upto_region 6 with fail
    have S3 := Lib.hid ((S2.out.new' 24 #[.int .i64 sW, .int .i64 sH, .slice none 0 0] (B := w2.heap.size) rfl).cast (qs := [box w2.heap.size 24 [.int .i64 sW, .int .i64 sH, .slice none 0 0], box (w.heap.size + 1) 26 [.int .i64 dW, .int .i64 dH, .slice A n c, .slice A' n' c'], box w.heap.size 24 [.int .i64 sW, .int .i64 sH, .slice (some ⟨bP, oP, none⟩) np cp]]) rfl)
    generalize w2.alloc (.cells #[.int .i64 sW, .int .i64 sH, .slice none 0 0] 24) = w3 at *
    generalize w2.heap.size = BC at *
    clear S2 t1_0 t1_1 t1_2 lt1
    have S4 := Lib.hid ((S3.out.nil 5 1).cast (qs := [row 5 1 (.slice none 0 0) 0 (u8s (nzL m ns pix 0)), box BC 24 [.int .i64 sW, .int .i64 sH, .slice none 0 0], box (w.heap.size + 1) 26 [.int .i64 dW, .int .i64 dH, .slice A n c, .slice A' n' c'], box w.heap.size 24 [.int .i64 sW, .int .i64 sH, .slice (some ⟨bP, oP, none⟩) np cp]]) rfl)
    clear S3
    clear d1 d2
    obtain ⟨t3_0, t3_1, t3_2, _⟩ := (S4.out.bx 3 rfl).c3
    have lt3 := (S4.out.bx 3 rfl).2.2
    go_wp2_with fail
    clear t3_0 t3_1 t3_2 lt3
    go_loopg [45] np (fun q u45 wr => ∃ (i : Nat) (A5 : Option Addr) (c5 : Nat), i ≤ np ∧ u45 = .int .i64 i ∧ Hid (i + q = np ∧ Own w wr [row 5 1 (.slice A5 i c5) i (u8s (nzL m ns pix i)), box BC 24 [.int .i64 sW, .int .i64 sH, .slice A5 i c5], box (w.heap.size + 1) 26 [.int .i64 dW, .int .i64 dH, .slice A n c, .slice A' n' c'], box w.heap.size 24 [.int .i64 sW, .int .i64 sH, .slice (some ⟨bP, oP, none⟩) np cp]]))
    case atStart => exact ⟨0, none, 0, by omega, rfl, by omega, S4.out⟩
    case round =>
      obtain ⟨i, A5, c5, hi, rfl, hI⟩ := hrel
      have I1 := Lib.hid hI.out.1
      have I2 := Lib.hid hI.out.2
      clear hI S4
      by_cases hlt : i < np
      case neg => as_aux_lemma =>
        obtain rfl : i = np := by omega
        obtain ⟨t2_0, t2_1, t2_2, t2_3, _⟩ := (I2.out.bx 2 rfl).c4
        have lt2 := (I2.out.bx 2 rfl).2.2
        obtain ⟨t3_0, t3_1, t3_2, _⟩ := (I2.out.bx 3 rfl).c3
        have lt3 := (I2.out.bx 3 rfl).2.2
        go_wp2_with fail
        refine (K20.out _ (HFP.out _ I2.out.bel) (HFD.out _ I2.out.bel) (HFL.out _ I2.out.bel)).mono ?_
        rintro e w5 ⟨Aa, ca, hret, ho, hb5⟩
        rw [HNL.out, HOL.out] at hret
        subst hret
        have S5 := Lib.hid ((I2.out.addSeen ho hb5).cast (qs := [seen Aa (bools (neg (offs pix dark light))), row 5 1 (.slice A5 i c5) i (u8s (nzL m ns pix i)), box BC 24 [.int .i64 sW, .int .i64 sH, .slice A5 i c5], box (w.heap.size + 1) 26 [.int .i64 dW, .int .i64 dH, .slice A n c, .slice A' n' c'], box w.heap.size 24 [.int .i64 sW, .int .i64 sH, .slice (some ⟨bP, oP, none⟩) i cp]]) rfl)
        clear ho hb5 I2 t2_0 t2_1 t2_2 t2_3 lt2 t3_0 t3_1 t3_2 lt3
        go_upto_region 15 with fail
        have S6 := Lib.hid ((S5.out.new' 34 #[.int .i64 sW, .int .i64 sH, .slice Aa i ca] (B := w5.heap.size) rfl).cast (qs := [box w5.heap.size 34 [.int .i64 sW, .int .i64 sH, .slice Aa i ca], seen Aa (bools (neg (offs pix dark light))), row 5 1 (.slice A5 i c5) i (u8s (nzL m ns pix i)), box BC 24 [.int .i64 sW, .int .i64 sH, .slice A5 i c5], box (w.heap.size + 1) 26 [.int .i64 dW, .int .i64 dH, .slice A n c, .slice A' n' c'], box w.heap.size 24 [.int .i64 sW, .int .i64 sH, .slice (some ⟨bP, oP, none⟩) i cp]]) rfl)
        generalize w5.alloc (.cells #[.int .i64 sW, .int .i64 sH, .slice Aa i ca] 34) = w6 at *
        generalize w5.heap.size = Ba at *
        clear S5
        obtain ⟨t3_0, t3_1, t3_2, _⟩ := (S6.out.bx 3 rfl).c3
        have lt3 := (S6.out.bx 3 rfl).2.2
        obtain ⟨t4_0, t4_1, t4_2, t4_3, _⟩ := (S6.out.bx 4 rfl).c4
        have lt4 := (S6.out.bx 4 rfl).2.2
        go_wp2_with fail
        refine (K20b.out A5 c5 _ (S6.out.rd 2 rfl) (HFD.out _ S6.out.bel) (HFL.out _ S6.out.bel)).mono ?_
        rintro e w7 ⟨Ab, cb, hret, ho, hb7⟩
        rw [HNL.out, HOL2.out] at hret
        subst hret
        have S7 := Lib.hid ((S6.out.addSeen ho hb7).cast (qs := [seen Ab (bools (neg (offs (nzL m ns pix i) dark light))), box Ba 34 [.int .i64 sW, .int .i64 sH, .slice Aa i ca], seen Aa (bools (neg (offs pix dark light))), row 5 1 (.slice A5 i c5) i (u8s (nzL m ns pix i)), box BC 24 [.int .i64 sW, .int .i64 sH, .slice A5 i c5], box (w.heap.size + 1) 26 [.int .i64 dW, .int .i64 dH, .slice A n c, .slice A' n' c'], box w.heap.size 24 [.int .i64 sW, .int .i64 sH, .slice (some ⟨bP, oP, none⟩) i cp]]) rfl)
        clear ho hb7 S6 t3_0 t3_1 t3_2 lt3 t4_0 t4_1 t4_2 t4_3 lt4
        go_upto_region 16 with fail
        have S8 := Lib.hid ((S7.out.new' 34 #[.int .i64 sW, .int .i64 sH, .slice Ab i cb] (B := w7.heap.size) rfl).cast (qs := [box w7.heap.size 34 [.int .i64 sW, .int .i64 sH, .slice Ab i cb], seen Ab (bools (neg (offs (nzL m ns pix i) dark light))), box Ba 34 [.int .i64 sW, .int .i64 sH, .slice Aa i ca], seen Aa (bools (neg (offs pix dark light))), row 5 1 (.slice A5 i c5) i (u8s (nzL m ns pix i)), box BC 24 [.int .i64 sW, .int .i64 sH, .slice A5 i c5], box (w.heap.size + 1) 26 [.int .i64 dW, .int .i64 dH, .slice A n c, .slice A' n' c'], box w.heap.size 24 [.int .i64 sW, .int .i64 sH, .slice (some ⟨bP, oP, none⟩) i cp]]) rfl)
        generalize w7.alloc (.cells #[.int .i64 sW, .int .i64 sH, .slice Ab i cb] 34) = w8 at *
        generalize w7.heap.size = Bb at *
        clear S7
        obtain ⟨t6_0, t6_1, t6_2, t6_3, _⟩ := (S8.out.bx 6 rfl).c4
        have lt6 := (S8.out.bx 6 rfl).2.2
        obtain ⟨t7_0, t7_1, t7_2, _⟩ := (S8.out.bx 7 rfl).c3
        have lt7 := (S8.out.bx 7 rfl).2.2
        go_wp2_with fail
        refine (K23.out _ (HFP.out _ S8.out.bel) (HFD.out _ S8.out.bel) (HFL.out _ S8.out.bel)).mono ?_
        rintro e w9 ⟨Al, cl, hret, ho, hb9⟩
        rw [HSL.out, HOL.out] at hret
        subst hret
        have S9 := Lib.hid ((S8.out.addSeen ho hb9).cast (qs := [seen Al (bools (sures m (offs pix dark light))), box Bb 34 [.int .i64 sW, .int .i64 sH, .slice Ab i cb], seen Ab (bools (neg (offs (nzL m ns pix i) dark light))), box Ba 34 [.int .i64 sW, .int .i64 sH, .slice Aa i ca], seen Aa (bools (neg (offs pix dark light))), row 5 1 (.slice A5 i c5) i (u8s (nzL m ns pix i)), box BC 24 [.int .i64 sW, .int .i64 sH, .slice A5 i c5], box (w.heap.size + 1) 26 [.int .i64 dW, .int .i64 dH, .slice A n c, .slice A' n' c'], box w.heap.size 24 [.int .i64 sW, .int .i64 sH, .slice (some ⟨bP, oP, none⟩) i cp]]) rfl)
        clear ho hb9 S8 t6_0 t6_1 t6_2 t6_3 lt6 t7_0 t7_1 t7_2 lt7
        obtain ⟨ba, oa, rfl⟩ := rd_some (S9.out.rdS 4 rfl) (j := 0) (by rw [bools_len', HNL.out, HOL.out]; omega)
        obtain ⟨bb, ob, rfl⟩ := rd_some (S9.out.rdS 2 rfl) (j := 0) (by rw [bools_len', HNL.out, HOL2.out]; omega)
        obtain ⟨bl, ol, rfl⟩ := rd_some (S9.out.rdS 0 rfl) (j := 0) (by rw [bools_len', HSL.out, HOL.out]; omega)
        obtain ⟨t1_0, t1_1, t1_2, _⟩ := (S9.out.bx 1 rfl).c3
        have lt1 := (S9.out.bx 1 rfl).2.2
        obtain ⟨t3_0, t3_1, t3_2, _⟩ := (S9.out.bx 3 rfl).c3
        have lt3 := (S9.out.bx 3 rfl).2.2
        obtain ⟨t8_0, t8_1, t8_2, _⟩ := (S9.out.bx 8 rfl).c3
        have lt8 := (S9.out.bx 8 rfl).2.2
        go_wp2_with fail
        clear t1_0 t1_1 t1_2 lt1 t3_0 t3_1 t3_2 lt3 t8_0 t8_1 t8_2 lt8
        clear I1
        go_loopg [132] i (fun q u132 wr => ∃ j : Nat, j ≤ i ∧ u132 = .int .i64 j ∧ Hid (j + q = i ∧ Own w wr [seen (some ⟨bl, ol, none⟩) (bools (sures m (offs pix dark light))), box Bb 34 [.int .i64 sW, .int .i64 sH, .slice (some ⟨bb, ob, none⟩) i cb], seen (some ⟨bb, ob, none⟩) (bools (neg (offs (nzL m ns pix i) dark light))), box Ba 34 [.int .i64 sW, .int .i64 sH, .slice (some ⟨ba, oa, none⟩) i ca], seen (some ⟨ba, oa, none⟩) (bools (neg (offs pix dark light))), row 5 1 (.slice A5 i c5) i (u8s (nzL m ns pix i)), box BC 24 [.int .i64 sW, .int .i64 sH, .slice A5 i c5], box (w.heap.size + 1) 26 [.int .i64 dW, .int .i64 dH, .slice A n c, .slice A' n' c'], box w.heap.size 24 [.int .i64 sW, .int .i64 sH, .slice (some ⟨bP, oP, none⟩) i cp]]))
        case atStart => exact ⟨0, by omega, rfl, by omega, S9.out⟩
        case round =>
          obtain ⟨j, hj, rfl, hI⟩ := hrel
          have J1 := Lib.hid hI.out.1
          have J2 := Lib.hid hI.out.2
          clear hI S9
          by_cases hlt2 : j < i
          case neg => as_aux_lemma =>
            obtain rfl : j = i := by omega
            obtain ⟨t7_0, t7_1, t7_2, t7_3, _⟩ := (J2.out.bx 7 rfl).c4
            have lt7 := (J2.out.bx 7 rfl).2.2
            obtain ⟨t8_0, t8_1, t8_2, _⟩ := (J2.out.bx 8 rfl).c3
            have lt8 := (J2.out.bx 8 rfl).2.2
            go_wp2_with fail
            refine (K23b.out _ (HFP.out _ J2.out.bel) (HFD.out _ J2.out.bel) (HFL.out _ J2.out.bel)).mono ?_
            rintro e w21 ⟨Ak, ck, rfl, ho, hb21⟩
            have S21 := Lib.hid ((J2.out.addSeen ho hb21).cast (qs := [seen Ak (bools L3), seen (some ⟨bl, ol, none⟩) (bools (sures m (offs pix dark light))), box Bb 34 [.int .i64 sW, .int .i64 sH, .slice (some ⟨bb, ob, none⟩) j cb], seen (some ⟨bb, ob, none⟩) (bools (neg (offs (nzL m ns pix j) dark light))), box Ba 34 [.int .i64 sW, .int .i64 sH, .slice (some ⟨ba, oa, none⟩) j ca], seen (some ⟨ba, oa, none⟩) (bools (neg (offs pix dark light))), row 5 1 (.slice A5 j c5) j (u8s (nzL m ns pix j)), box BC 24 [.int .i64 sW, .int .i64 sH, .slice A5 j c5], box (w.heap.size + 1) 26 [.int .i64 dW, .int .i64 dH, .slice A n c, .slice A' n' c'], box w.heap.size 24 [.int .i64 sW, .int .i64 sH, .slice (some ⟨bP, oP, none⟩) j cp]]) rfl)
            clear ho hb21 J2 t7_0 t7_1 t7_2 t7_3 lt7 t8_0 t8_1 t8_2 lt8
            rcases KM with h | ⟨h, h2⟩ | ⟨h, h2, rfl, rfl⟩
            · have q1 : decide (mo < m) = true := by simpa using h
              go_wp2_with fail
              go_ret
              exact ⟨rfl, S21.out.bel⟩
            · have q1 : decide (mo < m) = false := by simpa using h
              have q2 : decide (100 < mo) = true := by simpa using h2
              go_wp2_with fail
              go_ret
              exact ⟨rfl, S21.out.bel⟩
            have q1 : decide (mo < m) = false := by simpa using h
            have q2 : decide (100 < mo) = false := by simpa using h2
            have HM := Lib.hid (show m ≤ mo by omega)
            have HL3 := Lib.hid (show (sures mo (offs pix dark light)).length = j by rw [HSL.out, HOL.out])
            clear h h2
            obtain ⟨bk, ok, rfl⟩ := rd_some (S21.out.rdS 0 rfl) (j := 0) (by rw [bools_len', HL3.out]; omega)
            rw [HL3.out]
            go_wp2_with fail
            clear J1
            go_loopg [170] j (fun q u170 wr => ∃ i : Nat, i ≤ j ∧ u170 = .int .i64 i ∧ Hid (i + q = j ∧ Own w wr [seen (some ⟨bk, ok, none⟩) (bools (sures mo (offs pix dark light))), seen (some ⟨bl, ol, none⟩) (bools (sures m (offs pix dark light))), box Bb 34 [.int .i64 sW, .int .i64 sH, .slice (some ⟨bb, ob, none⟩) j cb], seen (some ⟨bb, ob, none⟩) (bools (neg (offs (nzL m ns pix j) dark light))), box Ba 34 [.int .i64 sW, .int .i64 sH, .slice (some ⟨ba, oa, none⟩) j ca], seen (some ⟨ba, oa, none⟩) (bools (neg (offs pix dark light))), row 5 1 (.slice A5 j c5) j (u8s (nzL m ns pix j)), box BC 24 [.int .i64 sW, .int .i64 sH, .slice A5 j c5], box (w.heap.size + 1) 26 [.int .i64 dW, .int .i64 dH, .slice A n c, .slice A' n' c'], box w.heap.size 24 [.int .i64 sW, .int .i64 sH, .slice (some ⟨bP, oP, none⟩) j cp]]))
            case atStart => exact ⟨0, by omega, rfl, by omega, S21.out⟩
            case round =>
              obtain ⟨i, hi, rfl, hI⟩ := hrel
              have Q1 := Lib.hid hI.out.1
              have Q2 := Lib.hid hI.out.2
              clear hI S21
              by_cases hlt3 : i < j
              case neg => as_aux_lemma =>
                obtain rfl : i = j := by omega
                go_wp2_with fail
                go_ret
                exact ⟨rfl, Q2.out.bel⟩
              have i1 : (i : Int) < (j : Int) := by omega
              obtain ⟨x1, hx1⟩ : ∃ b, (sures mo (offs pix dark light))[i]? = some b := ⟨_, List.getElem?_eq_getElem (by rw [HSL.out, HOL.out]; exact hlt3)⟩
              obtain ⟨x2, hx2⟩ : ∃ b, (sures m (offs pix dark light))[i]? = some b := ⟨_, List.getElem?_eq_getElem (by rw [HSL.out, HOL.out]; exact hlt3)⟩
              have c1 := rd_cell (Q2.out.rdS 0 rfl) (bools_at hx1)
              have c2 := rd_cell (Q2.out.rdS 1 rfl) (bools_at hx2)
              have HX := Lib.hid (fun h => sure_less HM.out hx1 hx2 h)
              have l1 := rd_lt (Q2.out.rdS 0 rfl) (j := i) (by rw [bools_len', HSL.out, HOL.out]; exact hlt3)
              have l2 := rd_lt (Q2.out.rdS 1 rfl) (j := i) (by rw [bools_len', HSL.out, HOL.out]; exact hlt3)
              clear hx1 hx2
              rcases x1 with _ | _
              · as_aux_lemma =>
                go_wp2_with fail
                go_roundg (gk - 1)
                case measure => have := Q1.out; omega
                case rel => exact ⟨i + 1, by omega, by go_num, by have := Q1.out; omega, Q2.out⟩
              · as_aux_lemma =>
                obtain rfl : x2 = true := HX.out rfl
                go_wp2_with fail
                go_roundg (gk - 1)
                case measure => have := Q1.out; omega
                case rel => exact ⟨i + 1, by omega, by go_num, by have := Q1.out; omega, Q2.out⟩
          have i1 : (j : Int) < (i : Int) := by omega
          have hjp : j < pix.length := by rw [← HNP.out]; exact hlt2
          obtain ⟨xa, hxa⟩ : ∃ b, (neg (offs pix dark light))[j]? = some b := ⟨_, List.getElem?_eq_getElem (by rw [HNL.out, HOL.out]; exact hlt2)⟩
          obtain ⟨xb, hxb⟩ : ∃ b, (neg (offs (nzL m ns pix i) dark light))[j]? = some b := ⟨_, List.getElem?_eq_getElem (by rw [HNL.out, HOL2.out]; exact hlt2)⟩
          obtain ⟨xl, hxl⟩ : ∃ b, (sures m (offs pix dark light))[j]? = some b := ⟨_, List.getElem?_eq_getElem (by rw [HSL.out, HOL.out]; exact hlt2)⟩
          have HK := Lib.hid (HKEY.out j hjp xa xb xl hxa hxb hxl)
          have HXA := Lib.hid (bools_at hxa)
          have HXB := Lib.hid (bools_at hxb)
          have HXL := Lib.hid (bools_at hxl)
          clear hxa hxb hxl hjp KM
          have hkk := HK.out
          rcases xl with _ | _
          · as_aux_lemma =>
            clear hkk
            go_wp2_with fail
            have fx0 := fun x : OwnOf w [seen (some ⟨bl, ol, none⟩) (bools (sures m (offs pix dark light))), box Bb 34 [.int .i64 sW, .int .i64 sH, .slice (some ⟨bb, ob, none⟩) i cb], seen (some ⟨bb, ob, none⟩) (bools (neg (offs (nzL m ns pix i) dark light))), box Ba 34 [.int .i64 sW, .int .i64 sH, .slice (some ⟨ba, oa, none⟩) i ca], seen (some ⟨ba, oa, none⟩) (bools (neg (offs pix dark light))), row 5 1 (.slice A5 i c5) i (u8s (nzL m ns pix i)), box BC 24 [.int .i64 sW, .int .i64 sH, .slice A5 i c5], box (w.heap.size + 1) 26 [.int .i64 dW, .int .i64 dH, .slice A n c, .slice A' n' c'], box w.heap.size 24 [.int .i64 sW, .int .i64 sH, .slice (some ⟨bP, oP, none⟩) i cp]] => rd_cell (x.own.rdS 0 rfl) HXL.out
            have fx1 := fun x : OwnOf w [seen (some ⟨bl, ol, none⟩) (bools (sures m (offs pix dark light))), box Bb 34 [.int .i64 sW, .int .i64 sH, .slice (some ⟨bb, ob, none⟩) i cb], seen (some ⟨bb, ob, none⟩) (bools (neg (offs (nzL m ns pix i) dark light))), box Ba 34 [.int .i64 sW, .int .i64 sH, .slice (some ⟨ba, oa, none⟩) i ca], seen (some ⟨ba, oa, none⟩) (bools (neg (offs pix dark light))), row 5 1 (.slice A5 i c5) i (u8s (nzL m ns pix i)), box BC 24 [.int .i64 sW, .int .i64 sH, .slice A5 i c5], box (w.heap.size + 1) 26 [.int .i64 dW, .int .i64 dH, .slice A n c, .slice A' n' c'], box w.heap.size 24 [.int .i64 sW, .int .i64 sH, .slice (some ⟨bP, oP, none⟩) i cp]] => rd_cell (x.own.rdS 2 rfl) HXB.out
            have fx2 := fun x : OwnOf w [seen (some ⟨bl, ol, none⟩) (bools (sures m (offs pix dark light))), box Bb 34 [.int .i64 sW, .int .i64 sH, .slice (some ⟨bb, ob, none⟩) i cb], seen (some ⟨bb, ob, none⟩) (bools (neg (offs (nzL m ns pix i) dark light))), box Ba 34 [.int .i64 sW, .int .i64 sH, .slice (some ⟨ba, oa, none⟩) i ca], seen (some ⟨ba, oa, none⟩) (bools (neg (offs pix dark light))), row 5 1 (.slice A5 i c5) i (u8s (nzL m ns pix i)), box BC 24 [.int .i64 sW, .int .i64 sH, .slice A5 i c5], box (w.heap.size + 1) 26 [.int .i64 dW, .int .i64 dH, .slice A n c, .slice A' n' c'], box w.heap.size 24 [.int .i64 sW, .int .i64 sH, .slice (some ⟨bP, oP, none⟩) i cp]] => rd_cell (x.own.rdS 4 rfl) HXA.out
            have fx3 := fun x : OwnOf w [seen (some ⟨bl, ol, none⟩) (bools (sures m (offs pix dark light))), box Bb 34 [.int .i64 sW, .int .i64 sH, .slice (some ⟨bb, ob, none⟩) i cb], seen (some ⟨bb, ob, none⟩) (bools (neg (offs (nzL m ns pix i) dark light))), box Ba 34 [.int .i64 sW, .int .i64 sH, .slice (some ⟨ba, oa, none⟩) i ca], seen (some ⟨ba, oa, none⟩) (bools (neg (offs pix dark light))), row 5 1 (.slice A5 i c5) i (u8s (nzL m ns pix i)), box BC 24 [.int .i64 sW, .int .i64 sH, .slice A5 i c5], box (w.heap.size + 1) 26 [.int .i64 dW, .int .i64 dH, .slice A n c, .slice A' n' c'], box w.heap.size 24 [.int .i64 sW, .int .i64 sH, .slice (some ⟨bP, oP, none⟩) i cp]] => (x.bx 1 rfl).1 2 _ rfl
            have fx4 := fun x : OwnOf w [seen (some ⟨bl, ol, none⟩) (bools (sures m (offs pix dark light))), box Bb 34 [.int .i64 sW, .int .i64 sH, .slice (some ⟨bb, ob, none⟩) i cb], seen (some ⟨bb, ob, none⟩) (bools (neg (offs (nzL m ns pix i) dark light))), box Ba 34 [.int .i64 sW, .int .i64 sH, .slice (some ⟨ba, oa, none⟩) i ca], seen (some ⟨ba, oa, none⟩) (bools (neg (offs pix dark light))), row 5 1 (.slice A5 i c5) i (u8s (nzL m ns pix i)), box BC 24 [.int .i64 sW, .int .i64 sH, .slice A5 i c5], box (w.heap.size + 1) 26 [.int .i64 dW, .int .i64 dH, .slice A n c, .slice A' n' c'], box w.heap.size 24 [.int .i64 sW, .int .i64 sH, .slice (some ⟨bP, oP, none⟩) i cp]] => (x.bx 3 rfl).1 2 _ rfl
            have hne : Nonempty (OwnOf w [seen (some ⟨bl, ol, none⟩) (bools (sures m (offs pix dark light))), box Bb 34 [.int .i64 sW, .int .i64 sH, .slice (some ⟨bb, ob, none⟩) i cb], seen (some ⟨bb, ob, none⟩) (bools (neg (offs (nzL m ns pix i) dark light))), box Ba 34 [.int .i64 sW, .int .i64 sH, .slice (some ⟨ba, oa, none⟩) i ca], seen (some ⟨ba, oa, none⟩) (bools (neg (offs pix dark light))), row 5 1 (.slice A5 i c5) i (u8s (nzL m ns pix i)), box BC 24 [.int .i64 sW, .int .i64 sH, .slice A5 i c5], box (w.heap.size + 1) 26 [.int .i64 dW, .int .i64 dH, .slice A n c, .slice A' n' c'], box w.heap.size 24 [.int .i64 sW, .int .i64 sH, .slice (some ⟨bP, oP, none⟩) i cp]]) := ⟨⟨_, J2.out⟩⟩
            refine wp_region_own J2.out (by kernel_rfl) (by kernel_rfl) ?_
            iterate 17 (go_big_quiet_step (fail))
            refine wpQuiet_nil ?_
            rintro w21 ⟨z, hz⟩
            have S21 := Lib.hid (show Own w w21 [seen (some ⟨bl, ol, none⟩) (bools (sures m (offs pix dark light))), box Bb 34 [.int .i64 sW, .int .i64 sH, .slice (some ⟨bb, ob, none⟩) i cb], seen (some ⟨bb, ob, none⟩) (bools (neg (offs (nzL m ns pix i) dark light))), box Ba 34 [.int .i64 sW, .int .i64 sH, .slice (some ⟨ba, oa, none⟩) i ca], seen (some ⟨ba, oa, none⟩) (bools (neg (offs pix dark light))), row 5 1 (.slice A5 i c5) i (u8s (nzL m ns pix i)), box BC 24 [.int .i64 sW, .int .i64 sH, .slice A5 i c5], box (w.heap.size + 1) 26 [.int .i64 dW, .int .i64 dH, .slice A n c, .slice A' n' c'], box w.heap.size 24 [.int .i64 sW, .int .i64 sH, .slice (some ⟨bP, oP, none⟩) i cp]] by rw [hz]; exact z.own)
            clear hz z hne fx0 fx1 fx2 fx3 fx4 J2
            go_wp2_with fail
            go_roundg (gk - 1)
            case measure => have := J1.out; omega
            case rel => exact ⟨j + 1, by omega, by go_num, by have := J1.out; omega, S21.out⟩
          · as_aux_lemma =>
            obtain rfl : xa = xb := hkk rfl
            clear hkk
            rcases xa with _ | _
            all_goals
              go_wp2_with fail
              have fx0 := fun x : OwnOf w [seen (some ⟨bl, ol, none⟩) (bools (sures m (offs pix dark light))), box Bb 34 [.int .i64 sW, .int .i64 sH, .slice (some ⟨bb, ob, none⟩) i cb], seen (some ⟨bb, ob, none⟩) (bools (neg (offs (nzL m ns pix i) dark light))), box Ba 34 [.int .i64 sW, .int .i64 sH, .slice (some ⟨ba, oa, none⟩) i ca], seen (some ⟨ba, oa, none⟩) (bools (neg (offs pix dark light))), row 5 1 (.slice A5 i c5) i (u8s (nzL m ns pix i)), box BC 24 [.int .i64 sW, .int .i64 sH, .slice A5 i c5], box (w.heap.size + 1) 26 [.int .i64 dW, .int .i64 dH, .slice A n c, .slice A' n' c'], box w.heap.size 24 [.int .i64 sW, .int .i64 sH, .slice (some ⟨bP, oP, none⟩) i cp]] => rd_cell (x.own.rdS 0 rfl) HXL.out
              have fx1 := fun x : OwnOf w [seen (some ⟨bl, ol, none⟩) (bools (sures m (offs pix dark light))), box Bb 34 [.int .i64 sW, .int .i64 sH, .slice (some ⟨bb, ob, none⟩) i cb], seen (some ⟨bb, ob, none⟩) (bools (neg (offs (nzL m ns pix i) dark light))), box Ba 34 [.int .i64 sW, .int .i64 sH, .slice (some ⟨ba, oa, none⟩) i ca], seen (some ⟨ba, oa, none⟩) (bools (neg (offs pix dark light))), row 5 1 (.slice A5 i c5) i (u8s (nzL m ns pix i)), box BC 24 [.int .i64 sW, .int .i64 sH, .slice A5 i c5], box (w.heap.size + 1) 26 [.int .i64 dW, .int .i64 dH, .slice A n c, .slice A' n' c'], box w.heap.size 24 [.int .i64 sW, .int .i64 sH, .slice (some ⟨bP, oP, none⟩) i cp]] => rd_cell (x.own.rdS 2 rfl) HXB.out
              have fx2 := fun x : OwnOf w [seen (some ⟨bl, ol, none⟩) (bools (sures m (offs pix dark light))), box Bb 34 [.int .i64 sW, .int .i64 sH, .slice (some ⟨bb, ob, none⟩) i cb], seen (some ⟨bb, ob, none⟩) (bools (neg (offs (nzL m ns pix i) dark light))), box Ba 34 [.int .i64 sW, .int .i64 sH, .slice (some ⟨ba, oa, none⟩) i ca], seen (some ⟨ba, oa, none⟩) (bools (neg (offs pix dark light))), row 5 1 (.slice A5 i c5) i (u8s (nzL m ns pix i)), box BC 24 [.int .i64 sW, .int .i64 sH, .slice A5 i c5], box (w.heap.size + 1) 26 [.int .i64 dW, .int .i64 dH, .slice A n c, .slice A' n' c'], box w.heap.size 24 [.int .i64 sW, .int .i64 sH, .slice (some ⟨bP, oP, none⟩) i cp]] => rd_cell (x.own.rdS 4 rfl) HXA.out
              have fx3 := fun x : OwnOf w [seen (some ⟨bl, ol, none⟩) (bools (sures m (offs pix dark light))), box Bb 34 [.int .i64 sW, .int .i64 sH, .slice (some ⟨bb, ob, none⟩) i cb], seen (some ⟨bb, ob, none⟩) (bools (neg (offs (nzL m ns pix i) dark light))), box Ba 34 [.int .i64 sW, .int .i64 sH, .slice (some ⟨ba, oa, none⟩) i ca], seen (some ⟨ba, oa, none⟩) (bools (neg (offs pix dark light))), row 5 1 (.slice A5 i c5) i (u8s (nzL m ns pix i)), box BC 24 [.int .i64 sW, .int .i64 sH, .slice A5 i c5], box (w.heap.size + 1) 26 [.int .i64 dW, .int .i64 dH, .slice A n c, .slice A' n' c'], box w.heap.size 24 [.int .i64 sW, .int .i64 sH, .slice (some ⟨bP, oP, none⟩) i cp]] => (x.bx 1 rfl).1 2 _ rfl
              have fx4 := fun x : OwnOf w [seen (some ⟨bl, ol, none⟩) (bools (sures m (offs pix dark light))), box Bb 34 [.int .i64 sW, .int .i64 sH, .slice (some ⟨bb, ob, none⟩) i cb], seen (some ⟨bb, ob, none⟩) (bools (neg (offs (nzL m ns pix i) dark light))), box Ba 34 [.int .i64 sW, .int .i64 sH, .slice (some ⟨ba, oa, none⟩) i ca], seen (some ⟨ba, oa, none⟩) (bools (neg (offs pix dark light))), row 5 1 (.slice A5 i c5) i (u8s (nzL m ns pix i)), box BC 24 [.int .i64 sW, .int .i64 sH, .slice A5 i c5], box (w.heap.size + 1) 26 [.int .i64 dW, .int .i64 dH, .slice A n c, .slice A' n' c'], box w.heap.size 24 [.int .i64 sW, .int .i64 sH, .slice (some ⟨bP, oP, none⟩) i cp]] => (x.bx 3 rfl).1 2 _ rfl
              have hne : Nonempty (OwnOf w [seen (some ⟨bl, ol, none⟩) (bools (sures m (offs pix dark light))), box Bb 34 [.int .i64 sW, .int .i64 sH, .slice (some ⟨bb, ob, none⟩) i cb], seen (some ⟨bb, ob, none⟩) (bools (neg (offs (nzL m ns pix i) dark light))), box Ba 34 [.int .i64 sW, .int .i64 sH, .slice (some ⟨ba, oa, none⟩) i ca], seen (some ⟨ba, oa, none⟩) (bools (neg (offs pix dark light))), row 5 1 (.slice A5 i c5) i (u8s (nzL m ns pix i)), box BC 24 [.int .i64 sW, .int .i64 sH, .slice A5 i c5], box (w.heap.size + 1) 26 [.int .i64 dW, .int .i64 dH, .slice A n c, .slice A' n' c'], box w.heap.size 24 [.int .i64 sW, .int .i64 sH, .slice (some ⟨bP, oP, none⟩) i cp]]) := ⟨⟨_, J2.out⟩⟩
              refine wp_region_own J2.out (by kernel_rfl) (by kernel_rfl) ?_
              iterate 17 (go_big_quiet_step (fail))
              refine wpQuiet_nil ?_
              rintro w21 ⟨z, hz⟩
              have S21 := Lib.hid (show Own w w21 [seen (some ⟨bl, ol, none⟩) (bools (sures m (offs pix dark light))), box Bb 34 [.int .i64 sW, .int .i64 sH, .slice (some ⟨bb, ob, none⟩) i cb], seen (some ⟨bb, ob, none⟩) (bools (neg (offs (nzL m ns pix i) dark light))), box Ba 34 [.int .i64 sW, .int .i64 sH, .slice (some ⟨ba, oa, none⟩) i ca], seen (some ⟨ba, oa, none⟩) (bools (neg (offs pix dark light))), row 5 1 (.slice A5 i c5) i (u8s (nzL m ns pix i)), box BC 24 [.int .i64 sW, .int .i64 sH, .slice A5 i c5], box (w.heap.size + 1) 26 [.int .i64 dW, .int .i64 dH, .slice A n c, .slice A' n' c'], box w.heap.size 24 [.int .i64 sW, .int .i64 sH, .slice (some ⟨bP, oP, none⟩) i cp]] by rw [hz]; exact z.own)
              clear hz z hne fx0 fx1 fx2 fx3 fx4 J2
              go_wp2_with fail
              go_roundg (gk - 1)
              case measure => have := J1.out; omega
              case rel => exact ⟨j + 1, by omega, by go_num, by have := J1.out; omega, S21.out⟩
      have i1 : (i : Int) < (np : Int) := by omega
      have hip : i < pix.length := by rw [← HNP.out]; exact hlt
      obtain ⟨kP, lP⟩ := HCP.out _ (HFP.out _ I2.out.bel) i hip
      obtain ⟨v1, v2⟩ := HU0.out pix[i] (List.getElem_mem hip)
      have HSC := Lib.hid (nzL_succ m ns pix i)
      have hgd : pix.getD i 0 = pix[i] := by rw [List.getD_eq_getElem?_getD, List.getElem?_eq_getElem hip]; rfl
      rw [hgd] at HSC
      have HZ := Lib.hid (show nz m ns i pix[i] = clampI (pix[i] + (ns.getD i 0).tmod (m + 1)) from rfl)
      generalize pix[i] = v at *
      generalize nz m ns i v = z at *
      clear hgd hip
      obtain ⟨tb1, tb2⟩ := tmod_bd (m := m) (x := ns.getD i 0) hm0
      obtain ⟨t, ht⟩ : ∃ t, t = (ns.getD i 0).tmod (m + 1) := ⟨_, rfl⟩
      rw [← ht] at HZ tb1 tb2
      obtain ⟨y, hy⟩ : ∃ y, y = v + t := ⟨_, rfl⟩
      rw [← hy] at HZ
      have e1 : IntKind.i64.wrap (v + t) = y := by rw [hy]; exact IntWalk.i64_in _ (by omega)
      have hyb : -100 ≤ y ∧ y ≤ 355 := by omega
      obtain ⟨hy1, hy2⟩ := hyb
      have HY := Lib.hid hy
      clear hy
      obtain ⟨t1_0, t1_1, t1_2, _⟩ := (I2.out.bx 1 rfl).c3
      have lt1 := (I2.out.bx 1 rfl).2.2
      obtain ⟨t3_0, t3_1, t3_2, _⟩ := (I2.out.bx 3 rfl).c3
      have lt3 := (I2.out.bx 3 rfl).2.2
      by_cases hin : i < nn
      case neg => as_aux_lemma =>
        have ht0 : t = 0 := by rw [ht, List.getD_eq_getElem?_getD, List.getElem?_eq_none (by rw [← HNN.out]; omega)]; simp
        subst ht0
        have n1 : decide (i < nn) = false := by simpa using hin
        clear ht tb1 tb2 hin
        simp only [Int.add_zero] at e1
        obtain hc | ⟨hc, hc2⟩ | hc : y ≤ 0 ∨ (0 < y ∧ y < 255) ∨ 255 ≤ y := by omega
        · as_aux_lemma =>
          have q1 : y < 255 := by omega
          have q2 : ¬ 0 < y := by omega
          clear HY
          obtain rfl : 0 = z := by rw [HZ.out]; exact (clamp_lo hc).symm
          go_wp2_with (at_builtin; refine wpList_appP rfl (.tmp 63) (.tmp 71) 22 rfl st22 0 (I2.out.ext (below_alloc wr (.cells #[.int .u8 (0)] 5))) rfl rfl rfl (i + 1) (u8s (nzL m ns pix (i + 1))) ?_ [.int .u8 (0)] rfl (by rw [HSC.out]; simp [u8s]) (Rd.new _ #[.int .u8 (0)] 5) rfl (by simp [Value.oneCell']) (by unfold maxLen; omega) (by omega); intro A9 c9 w9 hO9; have HO9 := Lib.hid hO9; clear hO9; have lt9 := (HO9.out.bx 1 rfl).2.2; have tf9 := (HO9.out.bx 1 rfl).2.1; have tc9 := (HO9.out.bx 1 rfl).1 2 _ rfl)
          have S9 := Lib.hid ((HO9.out.set 1 rfl 2 (.slice A9 (i + 1) c9)).cast (qs := [row 5 1 (.slice A9 (i + 1) c9) (i + 1) (u8s (nzL m ns pix (i + 1))), box BC 24 [.int .i64 sW, .int .i64 sH, .slice A9 (i + 1) c9], box (w.heap.size + 1) 26 [.int .i64 dW, .int .i64 dH, .slice A n c, .slice A' n' c'], box w.heap.size 24 [.int .i64 sW, .int .i64 sH, .slice (some ⟨bP, oP, none⟩) np cp]]) rfl)
          go_roundg (gk - 1)
          case measure => have := I1.out; omega
          case rel => exact ⟨i + 1, A9, c9, by omega, by go_num, by have := I1.out; omega, S9.out⟩
        · as_aux_lemma =>
          clear HY
          obtain rfl : y = z := by rw [HZ.out]; exact (clamp_mid hc hc2).symm
          go_wp2_with (at_builtin; refine wpList_appP rfl (.tmp 63) (.tmp 71) 22 rfl st22 0 (I2.out.ext (below_alloc wr (.cells #[.int .u8 (y)] 5))) rfl rfl rfl (i + 1) (u8s (nzL m ns pix (i + 1))) ?_ [.int .u8 (y)] rfl (by rw [HSC.out]; simp [u8s]) (Rd.new _ #[.int .u8 (y)] 5) rfl (by simp [Value.oneCell']) (by unfold maxLen; omega) (by omega); intro A9 c9 w9 hO9; have HO9 := Lib.hid hO9; clear hO9; have lt9 := (HO9.out.bx 1 rfl).2.2; have tf9 := (HO9.out.bx 1 rfl).2.1; have tc9 := (HO9.out.bx 1 rfl).1 2 _ rfl)
          have S9 := Lib.hid ((HO9.out.set 1 rfl 2 (.slice A9 (i + 1) c9)).cast (qs := [row 5 1 (.slice A9 (i + 1) c9) (i + 1) (u8s (nzL m ns pix (i + 1))), box BC 24 [.int .i64 sW, .int .i64 sH, .slice A9 (i + 1) c9], box (w.heap.size + 1) 26 [.int .i64 dW, .int .i64 dH, .slice A n c, .slice A' n' c'], box w.heap.size 24 [.int .i64 sW, .int .i64 sH, .slice (some ⟨bP, oP, none⟩) np cp]]) rfl)
          go_roundg (gk - 1)
          case measure => have := I1.out; omega
          case rel => exact ⟨i + 1, A9, c9, by omega, by go_num, by have := I1.out; omega, S9.out⟩
        · as_aux_lemma =>
          have q1 : ¬ y < 255 := by omega
          clear HY
          obtain rfl : 255 = z := by rw [HZ.out]; exact (clamp_hi hc).symm
          go_wp2_with (at_builtin; refine wpList_appP rfl (.tmp 63) (.tmp 71) 22 rfl st22 0 (I2.out.ext (below_alloc wr (.cells #[.int .u8 (255)] 5))) rfl rfl rfl (i + 1) (u8s (nzL m ns pix (i + 1))) ?_ [.int .u8 (255)] rfl (by rw [HSC.out]; simp [u8s]) (Rd.new _ #[.int .u8 (255)] 5) rfl (by simp [Value.oneCell']) (by unfold maxLen; omega) (by omega); intro A9 c9 w9 hO9; have HO9 := Lib.hid hO9; clear hO9; have lt9 := (HO9.out.bx 1 rfl).2.2; have tf9 := (HO9.out.bx 1 rfl).2.1; have tc9 := (HO9.out.bx 1 rfl).1 2 _ rfl)
          have S9 := Lib.hid ((HO9.out.set 1 rfl 2 (.slice A9 (i + 1) c9)).cast (qs := [row 5 1 (.slice A9 (i + 1) c9) (i + 1) (u8s (nzL m ns pix (i + 1))), box BC 24 [.int .i64 sW, .int .i64 sH, .slice A9 (i + 1) c9], box (w.heap.size + 1) 26 [.int .i64 dW, .int .i64 dH, .slice A n c, .slice A' n' c'], box w.heap.size 24 [.int .i64 sW, .int .i64 sH, .slice (some ⟨bP, oP, none⟩) np cp]]) rfl)
          go_roundg (gk - 1)
          case measure => have := I1.out; omega
          case rel => exact ⟨i + 1, A9, c9, by omega, by go_num, by have := I1.out; omega, S9.out⟩
      as_aux_lemma =>
        have hil : i < ns.length := by rw [← HNN.out]; exact hin
        obtain ⟨b4, o4, rfl⟩ := rd_some (HFN.out _ I2.out.bel) (j := i) (by rw [i8s_len]; exact hil)
        have k4 := rd_cell (HFN.out _ I2.out.bel) (i8s_get hil)
        have l4 := rd_lt (HFN.out _ I2.out.bel) (j := i) (by rw [i8s_len]; exact hil)
        obtain ⟨x1, x2⟩ := HU4.out ns[i] (List.getElem_mem hil)
        have hx : ns.getD i 0 = ns[i] := by rw [List.getD_eq_getElem?_getD, List.getElem?_eq_getElem hil]; rfl
        rw [hx] at ht
        generalize ns[i] = x at *
        have t1 : x.tmod (m + 1) = t := ht.symm
        have n1 : decide (i < nn) = true := by simpa using hin
        have n2 : (i : Int) < (nn : Int) := by omega
        have m1 : ¬ m + 1 = 0 := by omega
        have m2 : IntKind.i64.wrap (m + 1) = m + 1 := IntWalk.i64_in _ (by omega)
        have t2 : IntKind.i64.wrap t = t := IntWalk.i64_in _ (by omega)
        clear ht hx hil hin
        obtain hc | ⟨hc, hc2⟩ | hc : y ≤ 0 ∨ (0 < y ∧ y < 255) ∨ 255 ≤ y := by omega
        · as_aux_lemma =>
          have q1 : y < 255 := by omega
          have q2 : ¬ 0 < y := by omega
          clear HY
          obtain rfl : 0 = z := by rw [HZ.out]; exact (clamp_lo hc).symm
          go_wp2_with (at_builtin; refine wpList_appP rfl (.tmp 63) (.tmp 71) 22 rfl st22 0 (I2.out.ext (below_alloc wr (.cells #[.int .u8 (0)] 5))) rfl rfl rfl (i + 1) (u8s (nzL m ns pix (i + 1))) ?_ [.int .u8 (0)] rfl (by rw [HSC.out]; simp [u8s]) (Rd.new _ #[.int .u8 (0)] 5) rfl (by simp [Value.oneCell']) (by unfold maxLen; omega) (by omega); intro A9 c9 w9 hO9; have HO9 := Lib.hid hO9; clear hO9; have lt9 := (HO9.out.bx 1 rfl).2.2; have tf9 := (HO9.out.bx 1 rfl).2.1; have tc9 := (HO9.out.bx 1 rfl).1 2 _ rfl)
          have S9 := Lib.hid ((HO9.out.set 1 rfl 2 (.slice A9 (i + 1) c9)).cast (qs := [row 5 1 (.slice A9 (i + 1) c9) (i + 1) (u8s (nzL m ns pix (i + 1))), box BC 24 [.int .i64 sW, .int .i64 sH, .slice A9 (i + 1) c9], box (w.heap.size + 1) 26 [.int .i64 dW, .int .i64 dH, .slice A n c, .slice A' n' c'], box w.heap.size 24 [.int .i64 sW, .int .i64 sH, .slice (some ⟨bP, oP, none⟩) np cp]]) rfl)
          go_roundg (gk - 1)
          case measure => have := I1.out; omega
          case rel => exact ⟨i + 1, A9, c9, by omega, by go_num, by have := I1.out; omega, S9.out⟩
        · as_aux_lemma =>
          clear HY
          obtain rfl : y = z := by rw [HZ.out]; exact (clamp_mid hc hc2).symm
          go_wp2_with (at_builtin; refine wpList_appP rfl (.tmp 63) (.tmp 71) 22 rfl st22 0 (I2.out.ext (below_alloc wr (.cells #[.int .u8 (y)] 5))) rfl rfl rfl (i + 1) (u8s (nzL m ns pix (i + 1))) ?_ [.int .u8 (y)] rfl (by rw [HSC.out]; simp [u8s]) (Rd.new _ #[.int .u8 (y)] 5) rfl (by simp [Value.oneCell']) (by unfold maxLen; omega) (by omega); intro A9 c9 w9 hO9; have HO9 := Lib.hid hO9; clear hO9; have lt9 := (HO9.out.bx 1 rfl).2.2; have tf9 := (HO9.out.bx 1 rfl).2.1; have tc9 := (HO9.out.bx 1 rfl).1 2 _ rfl)
          have S9 := Lib.hid ((HO9.out.set 1 rfl 2 (.slice A9 (i + 1) c9)).cast (qs := [row 5 1 (.slice A9 (i + 1) c9) (i + 1) (u8s (nzL m ns pix (i + 1))), box BC 24 [.int .i64 sW, .int .i64 sH, .slice A9 (i + 1) c9], box (w.heap.size + 1) 26 [.int .i64 dW, .int .i64 dH, .slice A n c, .slice A' n' c'], box w.heap.size 24 [.int .i64 sW, .int .i64 sH, .slice (some ⟨bP, oP, none⟩) np cp]]) rfl)
          go_roundg (gk - 1)
          case measure => have := I1.out; omega
          case rel => exact ⟨i + 1, A9, c9, by omega, by go_num, by have := I1.out; omega, S9.out⟩
        · as_aux_lemma =>
          have q1 : ¬ y < 255 := by omega
          clear HY
          obtain rfl : 255 = z := by rw [HZ.out]; exact (clamp_hi hc).symm
          go_wp2_with (at_builtin; refine wpList_appP rfl (.tmp 63) (.tmp 71) 22 rfl st22 0 (I2.out.ext (below_alloc wr (.cells #[.int .u8 (255)] 5))) rfl rfl rfl (i + 1) (u8s (nzL m ns pix (i + 1))) ?_ [.int .u8 (255)] rfl (by rw [HSC.out]; simp [u8s]) (Rd.new _ #[.int .u8 (255)] 5) rfl (by simp [Value.oneCell']) (by unfold maxLen; omega) (by omega); intro A9 c9 w9 hO9; have HO9 := Lib.hid hO9; clear hO9; have lt9 := (HO9.out.bx 1 rfl).2.2; have tf9 := (HO9.out.bx 1 rfl).2.1; have tc9 := (HO9.out.bx 1 rfl).1 2 _ rfl)
          have S9 := Lib.hid ((HO9.out.set 1 rfl 2 (.slice A9 (i + 1) c9)).cast (qs := [row 5 1 (.slice A9 (i + 1) c9) (i + 1) (u8s (nzL m ns pix (i + 1))), box BC 24 [.int .i64 sW, .int .i64 sH, .slice A9 (i + 1) c9], box (w.heap.size + 1) 26 [.int .i64 dW, .int .i64 dH, .slice A n c, .slice A' n' c'], box w.heap.size 24 [.int .i64 sW, .int .i64 sH, .slice (some ⟨bP, oP, none⟩) np cp]]) rfl)
          go_roundg (gk - 1)
          case measure => have := I1.out; omega
          case rel => exact ⟨i + 1, A9, c9, by omega, by go_num, by have := I1.out; omega, S9.out⟩
end Go.Proofs.Ytjelnbfnoliocaa
