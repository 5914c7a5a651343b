/- Ridge: the walk of RidgeEnds. No condition. -/
import Derived.Test.YtjelnbfnoliocaaTe
import Derived.Test.YtjelnbfnoliocaaTd
namespace Go.Proofs.Ytjelnbfnoliocaa
open Go.RowKit Go.Shelf
attribute [local go_sem] Oper.semAt_some

set_option maxRecDepth 100000 in
set_option maxHeartbeats 2000000 in
theorem ridgeEnds_walk (W H : Int) (A : Option Addr) (l : List Bool) (n c : Nat) (w : World) (hr : Rd w A (bools l)) (hn : n = l.length) :
    Calls Try.prog 8 #[.agg #[.int .i64 W, .int .i64 H, .slice A n c]] w fun e w' => e = .returned (.bool true) ∧ Below w.heap.size w w' := by
  have S0 := Lib.hid ((Own.start w).new 34 #[.int .i64 W, .int .i64 H, .slice A n c])
  have HF := Lib.hid (fun W1 (h : Below w.heap.size w W1) => hr.below h)
  cases ok : sized1B W H n
  · as_aux_lemma =>
    have K37 := Lib.hid (fun W1 => thin_no W H A n c W1 ok)
    have K44 := Lib.hid (fun W1 => (show Calls Try.prog 44 #[.agg #[.int .i64 W, .int .i64 H, .slice A n c]] W1 fun e w' => e = .returned (.bool false) ∧ Below W1.heap.size W1 w' by have := valid_any W H A n c W1; rw [ok] at this; exact this))
    clear hr hn ok HF
    go_enter Try.func8, Try.ntmps8
    go_wp2_with fail
    refine (alive_any _).mono ?_
    rintro e w1 ⟨rfl, hb1⟩
    have S1 := Lib.hid (S0.out.ext hb1)
    clear hb1 S0
    obtain ⟨t0_0, t0_1, t0_2, _⟩ := (S1.out.bx 0 rfl).c3
    have lt0 := (S1.out.bx 0 rfl).2.2
    go_wp2_with fail
    refine (K37.out _).mono ?_
    rintro e w2 ⟨A1, c1, rfl, hO2⟩
    have S2 := Lib.hid ((S1.out.call hO2).cast (qs := [row 4 1 (.slice A1 0 c1) 0 (bools []), box w.heap.size 34 [.int .i64 W, .int .i64 H, .slice A n c]]) rfl)
    clear hO2 S1 t0_0 t0_1 t0_2 lt0
    go_upto_region 3 with fail
    have S3 := Lib.hid ((S2.out.new' 34 #[.int .i64 0, .int .i64 0, .slice A1 0 c1] (B := w2.heap.size) rfl).cast (qs := [box w2.heap.size 34 [.int .i64 0, .int .i64 0, .slice A1 0 c1], row 4 1 (.slice A1 0 c1) 0 (bools []), box w.heap.size 34 [.int .i64 W, .int .i64 H, .slice A n c]]) rfl)
    generalize w2.alloc (.cells #[.int .i64 0, .int .i64 0, .slice A1 0 c1] 34) = w3 at *
    generalize w2.heap.size = B1 at *
    clear S2
    obtain ⟨t2_0, t2_1, t2_2, _⟩ := (S3.out.bx 2 rfl).c3
    have lt2 := (S3.out.bx 2 rfl).2.2
    go_wp2_with fail
    refine (K44.out _).mono ?_
    rintro e w4 ⟨rfl, hb4⟩
    have S4 := Lib.hid (S3.out.ext hb4)
    clear hb4 S3 t2_0 t2_1 t2_2 lt2
    go_wp2_with fail
    go_ret
    exact ⟨rfl, S4.out.bel⟩
  obtain ⟨hW, hH, hnn⟩ := valid_bd ok
  obtain ⟨p, q, hp, hq, hpq, hp0, hq0, hp20, hq20⟩ := sized_nat ok
  have hn0 : 0 < n := by rw [hpq]; exact Nat.mul_pos hp0 hq0
  have hn4 : n ≤ 400 := by rw [hpq]; exact Nat.mul_le_mul hp20 hq20
  obtain ⟨b0, off, rfl, hb0, hc0⟩ := hr.at_ (bools_get (k := 0) (l := l) (by omega))
  have HC0 := Lib.hid (fun W1 (h : Below w.heap.size w W1) i (hi : i < l.length) => (h.cell (p := ⟨b0, off + i, none⟩) hb0).trans (hc0 i _ (bools_get hi)))
  have HBW := Lib.hid (fun W1 (h : Below w.heap.size w W1) => (show b0 < W1.heap.size by have := h.size; omega))
  have K37 := Lib.hid (fun W1 h => thin_ok W H (some ⟨b0, off, none⟩) l n c W1 ok h hn)
  have K44 := Lib.hid (fun W1 => (show Calls Try.prog 44 #[.agg #[.int .i64 W, .int .i64 H, .slice (some ⟨b0, off, none⟩) n c]] W1 fun e w' => e = .returned (.bool true) ∧ Below W1.heap.size W1 w' by have := valid_any W H (some ⟨b0, off, none⟩) n c W1; rw [ok] at this; exact this))
  have HLT := Lib.hid (show (thinF W H l).length = l.length from thinF_len W H l)
  have KEY := Lib.hid (show ∀ i (hi : i < l.length), l[i] = true → cntN (nbI W H l i) 8 ≤ 1 → (thinF W H l)[i]'(by rw [HLT.out]; exact hi) = true ∧ nbI W H (thinF W H l) i = nbI W H l i by
    intro i hi h1 h2
    subst hp; subst hq
    have := thinF_end (W := p) (H := q) (l := l) (i := i) (by omega) hi ⟨by rw [getD_at hi]; exact h1, h2⟩
    exact ⟨by rw [← getD_at]; exact this.1, this.2⟩)
  have K45 := Lib.hid (fun (A1 : Option Addr) (c1 : Nat) (l1 : List Bool) W1 (h : Rd W1 A1 (bools l1)) (hl : n = l1.length) (i : Nat) (hi : i < n) => (show Calls Try.prog 45 #[.agg #[.int .i64 W, .int .i64 H, .slice A1 n c1], .int .i64 ((i : Int) % W), .int .i64 ((i : Int) / W)] W1 fun e w' => e = .returned (.int .i64 (cntN (nbI W H l1 i) 8 : Nat)) ∧ Below W1.heap.size W1 w' by
    obtain ⟨⟨⟨p1, p2⟩, p3, p4⟩, p5⟩ := plc_in hW hH hnn hi
    simp only [plc] at p1 p2 p3 p4
    exact aroundN_any W H _ _ A1 l1 n c1 W1 ok h hl (by omega) (by omega)))
  have HPL := Lib.hid (fun (i : Nat) (hi : i < n) => plc_in hW hH hnn hi)
  have HN := Lib.hid hn
  clear hr hn ok hc0 hpq hp hq hnn hb0
  as_aux_lemma =>
    generalize hTT : thinF W H l = T at *
    clear hTT
    go_enter Try.func8, Try.ntmps8
    go_wp2_with fail
    refine (alive_any _).mono ?_
    rintro e w1 ⟨rfl, hb1⟩
    have S1 := Lib.hid (S0.out.ext hb1)
    clear hb1 S0
    obtain ⟨t0_0, t0_1, t0_2, _⟩ := (S1.out.bx 0 rfl).c3
    have lt0 := (S1.out.bx 0 rfl).2.2
    go_wp2_with fail
    refine (K37.out _ (HF.out _ S1.out.bel)).mono ?_
    rintro e w2 ⟨A1, c1, rfl, hO2⟩
    have S2 := Lib.hid ((S1.out.call hO2).cast (qs := [row 4 1 (.slice A1 n c1) n (bools T), box w.heap.size 34 [.int .i64 W, .int .i64 H, .slice (some ⟨b0, off, none⟩) n c]]) rfl)
    clear hO2 S1 t0_0 t0_1 t0_2 lt0
    go_upto_region 3 with fail
    have S3 := Lib.hid ((S2.out.new' 34 #[.int .i64 W, .int .i64 H, .slice A1 n c1] (B := w2.heap.size) rfl).cast (qs := [box w2.heap.size 34 [.int .i64 W, .int .i64 H, .slice A1 n c1], row 4 1 (.slice A1 n c1) n (bools T), box w.heap.size 34 [.int .i64 W, .int .i64 H, .slice (some ⟨b0, off, none⟩) n c]]) rfl)
    generalize w2.alloc (.cells #[.int .i64 W, .int .i64 H, .slice A1 n c1] 34) = w3 at *
    generalize w2.heap.size = B1 at *
    clear S2
    obtain ⟨t2_0, t2_1, t2_2, _⟩ := (S3.out.bx 2 rfl).c3
    have lt2 := (S3.out.bx 2 rfl).2.2
    go_wp2_with fail
    refine (K44.out _).mono ?_
    rintro e w4 ⟨rfl, hb4⟩
    have S4 := Lib.hid (S3.out.ext hb4)
    clear hb4 S3 t2_0 t2_1 t2_2 lt2
    obtain ⟨g, rfl⟩ := S4.out.rowAddr 1 rfl hn0
    obtain ⟨t0_0, t0_1, t0_2, _⟩ := (S4.out.bx 0 rfl).c3
    have lt0 := (S4.out.bx 0 rfl).2.2
    obtain ⟨t2_0, t2_1, t2_2, _⟩ := (S4.out.bx 2 rfl).c3
    have lt2 := (S4.out.bx 2 rfl).2.2
    go_wp2_with fail
    clear t0_0 t0_1 t0_2 lt0 t2_0 t2_1 t2_2 lt2
    go_loopg [34] n (fun q u34 wr => ∃ i : Nat, i ≤ n ∧ u34 = .int .i64 i ∧ Hid (i + q = n ∧ Own w wr [box B1 34 [.int .i64 W, .int .i64 H, .slice (some ⟨g, 0, none⟩) n c1], row 4 1 (.slice (some ⟨g, 0, none⟩) n c1) n (bools T), box w.heap.size 34 [.int .i64 W, .int .i64 H, .slice (some ⟨b0, off, none⟩) n c]]))
    case atStart => exact ⟨0, by omega, rfl, by omega, S4.out⟩
    case round =>
      obtain ⟨i, hi, rfl, hI⟩ := hrel
      have I1 := Lib.hid hI.out.1
      have I2 := Lib.hid hI.out.2
      clear hI S4
      by_cases hlt : i < n
      case neg =>
        obtain rfl : i = n := by omega
        go_wp2_with fail
        go_ret
        exact ⟨rfl, I2.out.bel⟩
      have hin : (i : Int) < (n : Int) := by omega
      have hil : i < l.length := by rw [← HN.out]; exact hlt
      have hiT : i < T.length := by rw [HLT.out]; exact hil
      obtain ⟨⟨⟨p1, p2⟩, p3, p4⟩, p5⟩ := HPL.out i hlt
      simp only [plc] at p1 p2 p3 p4
      have z1 : ¬ W = 0 := by omega
      have z3 : (i : Int).tmod W = (i : Int) % W := Int.tmod_eq_emod_of_nonneg (by omega)
      have z4 : IntKind.i64.wrap ((i : Int) / W) = (i : Int) / W := IntWalk.i64_in _ (by omega)
      clear p5
      go_wp2_with fail
      have c0 := fun x : OwnOf w [box B1 34 [.int .i64 W, .int .i64 H, .slice (some ⟨g, 0, none⟩) n c1], row 4 1 (.slice (some ⟨g, 0, none⟩) n c1) n (bools T), box w.heap.size 34 [.int .i64 W, .int .i64 H, .slice (some ⟨b0, off, none⟩) n c]] => (x.bx 2 rfl).1 0 _ rfl
      have hne : Nonempty (OwnOf w [box B1 34 [.int .i64 W, .int .i64 H, .slice (some ⟨g, 0, none⟩) n c1], row 4 1 (.slice (some ⟨g, 0, none⟩) n c1) n (bools T), box w.heap.size 34 [.int .i64 W, .int .i64 H, .slice (some ⟨b0, off, none⟩) n c]]) := ⟨⟨_, I2.out⟩⟩
      refine wp_region_own I2.out (by kernel_rfl) (by kernel_rfl) ?_
      iterate 10 (go_big_quiet_step (fail))
      refine wpQuiet_nil ?_
      rintro w5 ⟨z, hz⟩
      have S5 := Lib.hid (show Own w w5 [box B1 34 [.int .i64 W, .int .i64 H, .slice (some ⟨g, 0, none⟩) n c1], row 4 1 (.slice (some ⟨g, 0, none⟩) n c1) n (bools T), box w.heap.size 34 [.int .i64 W, .int .i64 H, .slice (some ⟨b0, off, none⟩) n c]] by rw [hz]; exact z.own)
      clear hz z hne c0 z1 z3 z4 I2
      have E45 := Lib.hid (fun W1 h => K45.out (some ⟨b0, off, none⟩) c l W1 h HN.out i hlt)
      have E45' := Lib.hid (fun c1 W1 h => K45.out (some ⟨g, 0, none⟩) c1 T W1 h (by rw [HLT.out]; exact HN.out) i hlt)
      generalize (i : Int) % W = X at *
      generalize (i : Int) / W = Y at *
      have KE := Lib.hid (show l[i] = true → cntN (nbI W H l i) 8 ≤ 1 → T[i] = true ∧ cntN (nbI W H T i) 8 = cntN (nbI W H l i) 8 from fun h1 h2 => ⟨(KEY.out i hil h1 h2).1, by rw [(KEY.out i hil h1 h2).2]⟩)
      generalize cntN (nbI W H l i) 8 = a at *
      generalize cntN (nbI W H T i) 8 = a' at *
      obtain ⟨t2_0, t2_1, t2_2, _⟩ := (S5.out.bx 2 rfl).c3
      have lt2 := (S5.out.bx 2 rfl).2.2
      go_wp2_with fail
      refine (E45.out _ (HF.out _ S5.out.bel)).mono ?_
      rintro e w6 ⟨rfl, hb6⟩
      have S6 := Lib.hid (S5.out.ext hb6)
      clear hb6 S5 t2_0 t2_1 t2_2 lt2
      have k0 := HC0.out _ S6.out.bel i hil
      have lb := HBW.out _ S6.out.bel
      have k1 := S6.out.rowAt 1 rfl (bools_get hiT)
      have lg := (S6.out.rowLt 1 rfl).1
      generalize l[i] = bl at *
      generalize T[i] = bt at *
      obtain ⟨t0_0, t0_1, t0_2, _⟩ := (S6.out.bx 0 rfl).c3
      have lt0 := (S6.out.bx 0 rfl).2.2
      obtain ⟨t2_0, t2_1, t2_2, _⟩ := (S6.out.bx 2 rfl).c3
      have lt2 := (S6.out.bx 2 rfl).2.2
      rcases bl with _ | _
      · as_aux_lemma =>
        go_wp2_with fail
        go_roundg (gk - 1)
        case measure => have := I1.out; omega
        case rel => exact ⟨i + 1, by omega, by go_num, by have := I1.out; omega, S6.out⟩
      by_cases ha : a ≤ 1
      case neg => as_aux_lemma =>
        have ha1 : decide ((a : Int) ≤ 1) = false := by simp; omega
        go_wp2_with fail
        go_roundg (gk - 1)
        case measure => have := I1.out; omega
        case rel => exact ⟨i + 1, by omega, by go_num, by have := I1.out; omega, S6.out⟩
      as_aux_lemma =>
        have ha1 : decide ((a : Int) ≤ 1) = true := by simp; omega
        obtain ⟨rfl, h2⟩ := KE.out rfl ha
        subst h2
        clear KE ha
        go_wp2_with fail
        refine (E45'.out _ _ (S6.out.rd 1 rfl)).mono ?_
        rintro e w7 ⟨rfl, hb7⟩
        have S7 := Lib.hid (S6.out.ext hb7)
        clear hb7 S6 t0_0 t0_1 t0_2 lt0 t2_0 t2_1 t2_2 lt2
        go_wp2_with fail
        go_roundg (gk - 1)
        case measure => have := I1.out; omega
        case rel => exact ⟨i + 1, by omega, by go_num, by have := I1.out; omega, S7.out⟩
end Go.Proofs.Ytjelnbfnoliocaa
