/- Ridge: the walk of RidgeThinned. No condition. -/
import Derived.Test.YtjelnbfnoliocaaTe
import Derived.Test.YtjelnbfnoliocaaTd
namespace Go.Proofs.Ytjelnbfnoliocaa
open Go.RowKit Go.Shelf
attribute [local go_sem] Oper.semAt_some

set_option maxRecDepth 100000 in
set_option maxHeartbeats 2000000 in
theorem ridgeThinned_walk (W H : Int) (A : Option Addr) (l : List Bool) (n c : Nat) (w : World) (hr : Rd w A (bools l)) (hn : n = l.length) :
    Calls Try.prog 13 #[.agg #[.int .i64 W, .int .i64 H, .slice A n c]] w fun e w' => e = .returned (.bool true) ∧ Below w.heap.size w w' := by
  have S0 := Lib.hid ((Own.start w).new 34 #[.int .i64 W, .int .i64 H, .slice A n c])
  have HF := Lib.hid (fun W1 (h : Below w.heap.size w W1) => hr.below h)
  cases ok : sized1B W H n
  · as_aux_lemma =>
    have K37 := Lib.hid (fun W1 => thin_no W H A n c W1 ok)
    clear hr hn ok HF
    go_enter Try.func13, Try.ntmps13
    go_wp2_with fail
    refine (alive_any _).mono ?_
    rintro e w1 ⟨rfl, hb1⟩
    have S1 := Lib.hid (S0.out.ext hb1)
    clear hb1 S0
    obtain ⟨t0_0, t0_1, t0_2, _⟩ := (S1.out.bx 0 rfl).c3
    have lt0 := (S1.out.bx 0 rfl).2.2
    go_wp2_with fail
    refine (K37.out _).mono ?_
    rintro e w2 ⟨A1, c1, rfl, hO2⟩
    have S2 := Lib.hid ((S1.out.call hO2).cast (qs := [row 4 1 (.slice A1 0 c1) 0 (bools []), box w.heap.size 34 [.int .i64 W, .int .i64 H, .slice A n c]]) rfl)
    clear hO2 S1 t0_0 t0_1 t0_2 lt0
    go_upto_region 3 with fail
    have S3 := Lib.hid ((S2.out.new' 34 #[.int .i64 0, .int .i64 0, .slice A1 0 c1] (B := w2.heap.size) rfl).cast (qs := [box w2.heap.size 34 [.int .i64 0, .int .i64 0, .slice A1 0 c1], row 4 1 (.slice A1 0 c1) 0 (bools []), box w.heap.size 34 [.int .i64 W, .int .i64 H, .slice A n c]]) rfl)
    generalize w2.alloc (.cells #[.int .i64 0, .int .i64 0, .slice A1 0 c1] 34) = w3 at *
    generalize w2.heap.size = B1 at *
    clear S2
    obtain ⟨t0_0, t0_1, t0_2, _⟩ := (S3.out.bx 0 rfl).c3
    have lt0 := (S3.out.bx 0 rfl).2.2
    go_wp2_with fail
    go_ret
    exact ⟨rfl, S3.out.bel⟩
  obtain ⟨hW, hH, hnn⟩ := valid_bd ok
  obtain ⟨p, q, hp, hq, hpq, hp0, hq0, hp20, hq20⟩ := sized_nat ok
  have hn0 : 0 < n := by rw [hpq]; exact Nat.mul_pos hp0 hq0
  have hn4 : n ≤ 400 := by rw [hpq]; exact Nat.mul_le_mul hp20 hq20
  obtain ⟨b0, off, rfl, hb0, hc0⟩ := hr.at_ (bools_get (k := 0) (l := l) (by omega))
  have HC0 := Lib.hid (fun i (hi : i < l.length) => hc0 i _ (bools_get hi))
  have HBW := Lib.hid (fun W1 (h : Below w.heap.size w W1) => (show b0 < W1.heap.size by have := h.size; omega))
  have K37 := Lib.hid (fun W1 h => thin_ok W H (some ⟨b0, off, none⟩) l n c W1 ok h hn)
  have HLT := Lib.hid (show (thinF W H l).length = l.length from thinF_len W H l)
  have K37b := Lib.hid (fun A1 c1 W1 h => (show Calls Try.prog 37 #[.agg #[.int .i64 W, .int .i64 H, .slice A1 n c1]] W1 (ThinPost W H n (thinF W H l) 0 W1) by have := thin_ok W H A1 (thinF W H l) n c1 W1 ok h (by rw [thinF_len]; exact hn); rwa [thinF_thinF] at this))
  have K22 := Lib.hid (fun A1 A2 c1 c2 W1 h h' => same_self W H A1 A2 (thinF W H l) n c1 c2 W1 h h' (by rw [thinF_len]; exact hn) (by omega))
  have KEY := Lib.hid (show ∀ i (hi : i < l.length), (thinF W H l)[i]'(by rw [HLT.out]; exact hi) = true → l[i] = true ∧ (turnsN (nbI W H (thinF W H l) i) 4 = 1 → cntN (nbI W H (thinF W H l) i) 8 = 1) by
    intro i hi h1
    have h2 : (thinF W H l).getD i false = true := by rw [getD_at (by rw [HLT.out]; exact hi)]; exact h1
    have h3 := thinF_sub W H l i h2
    rw [getD_at hi] at h3
    exact ⟨h3, fun h4 => thin_at (thinF_fix W H l) (by rw [HLT.out]; exact hi) h2 h4⟩)
  have KIN := Lib.hid (fun (i : Nat) (hi : i < n) => (show askedF W H n ((i : Int) % W) ((i : Int) / W) = 0 by
    obtain ⟨⟨⟨p1, p2⟩, p3, p4⟩, p5⟩ := plc_in hW hH hnn hi
    simp only [plc] at p1 p2 p3 p4
    simp [askedF, ok, inB, p1, p2, p3, p4]))
  have K33 := Lib.hid (fun (A1 : Option Addr) (c1 : Nat) (l1 : List Bool) W1 (h : Rd W1 A1 (bools l1)) (hl : n = l1.length) (i : Nat) (hi : i < n) => (show Calls Try.prog 33 #[.agg #[.int .i64 W, .int .i64 H, .slice A1 n c1], .int .i64 ((i : Int) % W), .int .i64 ((i : Int) / W)] W1 fun e w' => e = .returned (.tuple #[.int .i64 (turnsN (nbI W H l1 i) 4 : Nat), .int .i64 0]) ∧ Below W1.heap.size W1 w' by
    have := Turns_any W H ((i : Int) % W) ((i : Int) / W) A1 l1 n c1 W1 h hl
    rw [KIN.out i hi, if_pos rfl] at this
    exact this))
  have K45 := Lib.hid (fun (A1 : Option Addr) (c1 : Nat) (l1 : List Bool) W1 (h : Rd W1 A1 (bools l1)) (hl : n = l1.length) (i : Nat) (hi : i < n) => (show Calls Try.prog 45 #[.agg #[.int .i64 W, .int .i64 H, .slice A1 n c1], .int .i64 ((i : Int) % W), .int .i64 ((i : Int) / W)] W1 fun e w' => e = .returned (.int .i64 (cntN (nbI W H l1 i) 8 : Nat)) ∧ Below W1.heap.size W1 w' by
    obtain ⟨⟨⟨p1, p2⟩, p3, p4⟩, p5⟩ := plc_in hW hH hnn hi
    simp only [plc] at p1 p2 p3 p4
    exact aroundN_any W H _ _ A1 l1 n c1 W1 ok h hl (by omega) (by omega)))
  have HPL := Lib.hid (fun (i : Nat) (hi : i < n) => plc_in hW hH hnn hi)
  have HN := Lib.hid hn
  clear hr hn ok hc0 hpq hp hq hnn
  as_aux_lemma =>
    generalize hTT : thinF W H l = T at *
    clear hTT
    go_enter Try.func13, Try.ntmps13
    go_wp2_with fail
    refine (alive_any _).mono ?_
    rintro e w1 ⟨rfl, hb1⟩
    have S1 := Lib.hid (S0.out.ext hb1)
    clear hb1 S0
    obtain ⟨t0_0, t0_1, t0_2, _⟩ := (S1.out.bx 0 rfl).c3
    have lt0 := (S1.out.bx 0 rfl).2.2
    go_wp2_with fail
    refine (K37.out _ (HF.out _ S1.out.bel)).mono ?_
    rintro e w2 ⟨A1, c1, rfl, hO2⟩
    have S2 := Lib.hid ((S1.out.call hO2).cast (qs := [row 4 1 (.slice A1 n c1) n (bools T), box w.heap.size 34 [.int .i64 W, .int .i64 H, .slice (some ⟨b0, off, none⟩) n c]]) rfl)
    clear hO2 S1 t0_0 t0_1 t0_2 lt0
    go_upto_region 3 with fail
    have S3 := Lib.hid ((S2.out.new' 34 #[.int .i64 W, .int .i64 H, .slice A1 n c1] (B := w2.heap.size) rfl).cast (qs := [box w2.heap.size 34 [.int .i64 W, .int .i64 H, .slice A1 n c1], row 4 1 (.slice A1 n c1) n (bools T), box w.heap.size 34 [.int .i64 W, .int .i64 H, .slice (some ⟨b0, off, none⟩) n c]]) rfl)
    generalize w2.alloc (.cells #[.int .i64 W, .int .i64 H, .slice A1 n c1] 34) = w3 at *
    generalize w2.heap.size = B1 at *
    clear S2
    obtain ⟨t0_0, t0_1, t0_2, _⟩ := (S3.out.bx 0 rfl).c3
    have lt0 := (S3.out.bx 0 rfl).2.2
    go_wp2_with fail
    refine (K37b.out A1 c1 _ (S3.out.rd 1 rfl)).mono ?_
    rintro e w4 ⟨A2, c2, rfl, hO4⟩
    have S4 := Lib.hid ((S3.out.call hO4).cast (qs := [row 4 1 (.slice A2 n c2) n (bools T), box B1 34 [.int .i64 W, .int .i64 H, .slice A1 n c1], row 4 1 (.slice A1 n c1) n (bools T), box w.heap.size 34 [.int .i64 W, .int .i64 H, .slice (some ⟨b0, off, none⟩) n c]]) rfl)
    clear hO4 S3 t0_0 t0_1 t0_2 lt0
    go_upto_region 6 with fail
    have S5 := Lib.hid ((S4.out.new' 34 #[.int .i64 W, .int .i64 H, .slice A2 n c2] (B := w4.heap.size) rfl).cast (qs := [box w4.heap.size 34 [.int .i64 W, .int .i64 H, .slice A2 n c2], row 4 1 (.slice A2 n c2) n (bools T), box B1 34 [.int .i64 W, .int .i64 H, .slice A1 n c1], row 4 1 (.slice A1 n c1) n (bools T), box w.heap.size 34 [.int .i64 W, .int .i64 H, .slice (some ⟨b0, off, none⟩) n c]]) rfl)
    generalize w4.alloc (.cells #[.int .i64 W, .int .i64 H, .slice A2 n c2] 34) = w5 at *
    generalize w4.heap.size = B2 at *
    clear S4
    obtain ⟨t0_0, t0_1, t0_2, _⟩ := (S5.out.bx 0 rfl).c3
    have lt0 := (S5.out.bx 0 rfl).2.2
    obtain ⟨t2_0, t2_1, t2_2, _⟩ := (S5.out.bx 2 rfl).c3
    have lt2 := (S5.out.bx 2 rfl).2.2
    obtain ⟨t4_0, t4_1, t4_2, _⟩ := (S5.out.bx 4 rfl).c3
    have lt4 := (S5.out.bx 4 rfl).2.2
    go_wp2_with fail
    refine (K22.out A1 A2 c1 c2 _ (S5.out.rd 3 rfl) (S5.out.rd 1 rfl)).mono ?_
    rintro e w6 ⟨rfl, hb6⟩
    have S6 := Lib.hid (S5.out.ext hb6)
    clear hb6 S5 t0_0 t0_1 t0_2 lt0 t2_0 t2_1 t2_2 lt2 t4_0 t4_1 t4_2 lt4
    have S7 := Lib.hid (S6.out.sub [2, 3, 4] (by decide) (qs := [box B1 34 [.int .i64 W, .int .i64 H, .slice A1 n c1], row 4 1 (.slice A1 n c1) n (bools T), box w.heap.size 34 [.int .i64 W, .int .i64 H, .slice (some ⟨b0, off, none⟩) n c]]) rfl)
    clear S6
    obtain ⟨g, rfl⟩ := S7.out.rowAddr 1 rfl hn0
    obtain ⟨t0_0, t0_1, t0_2, _⟩ := (S7.out.bx 0 rfl).c3
    have lt0 := (S7.out.bx 0 rfl).2.2
    obtain ⟨t2_0, t2_1, t2_2, _⟩ := (S7.out.bx 2 rfl).c3
    have lt2 := (S7.out.bx 2 rfl).2.2
    go_wp2_with fail
    clear t0_0 t0_1 t0_2 lt0 t2_0 t2_1 t2_2 lt2
    go_loopg [69] n (fun q u34 wr => ∃ i : Nat, i ≤ n ∧ u34 = .int .i64 i ∧ Hid (i + q = n ∧ Own w wr [box B1 34 [.int .i64 W, .int .i64 H, .slice (some ⟨g, 0, none⟩) n c1], row 4 1 (.slice (some ⟨g, 0, none⟩) n c1) n (bools T), box w.heap.size 34 [.int .i64 W, .int .i64 H, .slice (some ⟨b0, off, none⟩) n c]]))
    case atStart => exact ⟨0, by omega, rfl, by omega, S7.out⟩
    case round =>
      obtain ⟨i, hi, rfl, hI⟩ := hrel
      have I1 := Lib.hid hI.out.1
      have I2 := Lib.hid hI.out.2
      clear hI S7
      by_cases hlt : i < n
      case neg =>
        obtain rfl : i = n := by omega
        go_wp2_with fail
        go_ret
        exact ⟨rfl, I2.out.bel⟩
      have hin : (i : Int) < (n : Int) := by omega
      have hil : i < l.length := by rw [← HN.out]; exact hlt
      have hiT : i < T.length := by rw [HLT.out]; exact hil
      have k1 := I2.out.rowAt 1 rfl (bools_get hiT)
      have lg := (I2.out.rowLt 1 rfl).1
      obtain ⟨t0_0, t0_1, t0_2, _⟩ := (I2.out.bx 0 rfl).c3
      have lt0 := (I2.out.bx 0 rfl).2.2
      have KE := Lib.hid (KEY.out i hil)
      have kl := HC0.out i hil
      generalize l[i] = bl at *
      generalize hbt : T[i] = bt at *
      have HBT := Lib.hid hbt
      clear hbt
      rcases bt with _ | _
      · as_aux_lemma =>
        clear KE kl
        go_wp2_with fail
        go_roundg (gk - 1)
        case measure => have := I1.out; omega
        case rel => exact ⟨i + 1, by omega, by go_num, by have := I1.out; omega, I2.out⟩
      obtain ⟨rfl, hk2⟩ := KE.out rfl
      obtain ⟨⟨⟨p1, p2⟩, p3, p4⟩, p5⟩ := HPL.out i hlt
      simp only [plc] at p1 p2 p3 p4
      have z1 : ¬ W = 0 := by omega
      have z3 : (i : Int).tmod W = (i : Int) % W := Int.tmod_eq_emod_of_nonneg (by omega)
      have z4 : IntKind.i64.wrap ((i : Int) / W) = (i : Int) / W := IntWalk.i64_in _ (by omega)
      have HK2 := Lib.hid hk2
      have HKL := Lib.hid kl
      have E33 := Lib.hid (fun c1 W1 h => K33.out (some ⟨g, 0, none⟩) c1 T W1 h (by rw [HLT.out]; exact HN.out) i hlt)
      have E45 := Lib.hid (fun c1 W1 h => K45.out (some ⟨g, 0, none⟩) c1 T W1 h (by rw [HLT.out]; exact HN.out) i hlt)
      clear p5 KE kl hk2
      generalize turnsN (nbI W H T i) 4 = t at *
      generalize cntN (nbI W H T i) 8 = a at *
      go_wp2_with fail
      have fx0 := fun x : OwnOf w [box B1 34 [.int .i64 W, .int .i64 H, .slice (some ⟨g, 0, none⟩) n c1], row 4 1 (.slice (some ⟨g, 0, none⟩) n c1) n (bools T), box w.heap.size 34 [.int .i64 W, .int .i64 H, .slice (some ⟨b0, off, none⟩) n c]] => (x.bx 0 rfl).1 0 _ rfl
      have fx1 := fun x : OwnOf w [box B1 34 [.int .i64 W, .int .i64 H, .slice (some ⟨g, 0, none⟩) n c1], row 4 1 (.slice (some ⟨g, 0, none⟩) n c1) n (bools T), box w.heap.size 34 [.int .i64 W, .int .i64 H, .slice (some ⟨b0, off, none⟩) n c]] => (x.bx 0 rfl).1 1 _ rfl
      have fx2 := fun x : OwnOf w [box B1 34 [.int .i64 W, .int .i64 H, .slice (some ⟨g, 0, none⟩) n c1], row 4 1 (.slice (some ⟨g, 0, none⟩) n c1) n (bools T), box w.heap.size 34 [.int .i64 W, .int .i64 H, .slice (some ⟨b0, off, none⟩) n c]] => (x.bx 0 rfl).1 2 _ rfl
      have hne : Nonempty (OwnOf w [box B1 34 [.int .i64 W, .int .i64 H, .slice (some ⟨g, 0, none⟩) n c1], row 4 1 (.slice (some ⟨g, 0, none⟩) n c1) n (bools T), box w.heap.size 34 [.int .i64 W, .int .i64 H, .slice (some ⟨b0, off, none⟩) n c]]) := ⟨⟨_, I2.out⟩⟩
      refine wp_region_own I2.out (by kernel_rfl) (by kernel_rfl) ?_
      iterate 9 (go_big_quiet_step (fail))
      go_big_quiet_step ((go_at_call 33; exact own_of (E33.out _ _ (Own.rd (OwnOf.own _) 1 rfl))))
      iterate 5 (go_big_quiet_step (fail))
      refine wpQuiet_nil ?_
      rintro w7 ⟨z, hz⟩
      have S7 := Lib.hid (show Own w w7 [box B1 34 [.int .i64 W, .int .i64 H, .slice (some ⟨g, 0, none⟩) n c1], row 4 1 (.slice (some ⟨g, 0, none⟩) n c1) n (bools T), box w.heap.size 34 [.int .i64 W, .int .i64 H, .slice (some ⟨b0, off, none⟩) n c]] by rw [hz]; exact z.own)
      clear hz z hne fx0 fx1 fx2 I2 k1 lg t0_0 t0_1 t0_2 lt0
      have kl := HKL.out
      by_cases ht : t = 1
      case pos => as_aux_lemma =>
        obtain rfl : a = 1 := HK2.out ht
        subst ht
        go_wp2_with fail
        have fx0 := fun x : OwnOf w [box B1 34 [.int .i64 W, .int .i64 H, .slice (some ⟨g, 0, none⟩) n c1], row 4 1 (.slice (some ⟨g, 0, none⟩) n c1) n (bools T), box w.heap.size 34 [.int .i64 W, .int .i64 H, .slice (some ⟨b0, off, none⟩) n c]] => (x.bx 0 rfl).1 0 _ rfl
        have fx1 := fun x : OwnOf w [box B1 34 [.int .i64 W, .int .i64 H, .slice (some ⟨g, 0, none⟩) n c1], row 4 1 (.slice (some ⟨g, 0, none⟩) n c1) n (bools T), box w.heap.size 34 [.int .i64 W, .int .i64 H, .slice (some ⟨b0, off, none⟩) n c]] => (x.bx 0 rfl).1 1 _ rfl
        have fx2 := fun x : OwnOf w [box B1 34 [.int .i64 W, .int .i64 H, .slice (some ⟨g, 0, none⟩) n c1], row 4 1 (.slice (some ⟨g, 0, none⟩) n c1) n (bools T), box w.heap.size 34 [.int .i64 W, .int .i64 H, .slice (some ⟨b0, off, none⟩) n c]] => (x.bx 0 rfl).1 2 _ rfl
        have fx3 := fun x : OwnOf w [box B1 34 [.int .i64 W, .int .i64 H, .slice (some ⟨g, 0, none⟩) n c1], row 4 1 (.slice (some ⟨g, 0, none⟩) n c1) n (bools T), box w.heap.size 34 [.int .i64 W, .int .i64 H, .slice (some ⟨b0, off, none⟩) n c]] => (x.bx 2 rfl).1 2 _ rfl
        have fx4 := fun x : OwnOf w [box B1 34 [.int .i64 W, .int .i64 H, .slice (some ⟨g, 0, none⟩) n c1], row 4 1 (.slice (some ⟨g, 0, none⟩) n c1) n (bools T), box w.heap.size 34 [.int .i64 W, .int .i64 H, .slice (some ⟨b0, off, none⟩) n c]] => x.out hb0 kl
        have hne : Nonempty (OwnOf w [box B1 34 [.int .i64 W, .int .i64 H, .slice (some ⟨g, 0, none⟩) n c1], row 4 1 (.slice (some ⟨g, 0, none⟩) n c1) n (bools T), box w.heap.size 34 [.int .i64 W, .int .i64 H, .slice (some ⟨b0, off, none⟩) n c]]) := ⟨⟨_, S7.out⟩⟩
        refine wp_region_own S7.out (by kernel_rfl) (by kernel_rfl) ?_
        iterate 23 (go_big_quiet_step (fail))
        go_big_quiet_step ((go_at_call 45; exact own_of (E45.out _ _ (Own.rd (OwnOf.own _) 1 rfl))))
        iterate 3 (go_big_quiet_step (fail))
        refine wpQuiet_nil ?_
        rintro w8 ⟨z, hz⟩
        have S8 := Lib.hid (show Own w w8 [box B1 34 [.int .i64 W, .int .i64 H, .slice (some ⟨g, 0, none⟩) n c1], row 4 1 (.slice (some ⟨g, 0, none⟩) n c1) n (bools T), box w.heap.size 34 [.int .i64 W, .int .i64 H, .slice (some ⟨b0, off, none⟩) n c]] by rw [hz]; exact z.own)
        clear hz z hne fx0 fx1 fx2 fx3 fx4 S7
        go_wp2_with fail
        go_roundg (gk - 1)
        case measure => have := I1.out; omega
        case rel => exact ⟨i + 1, by omega, by go_num, by have := I1.out; omega, S8.out⟩
      as_aux_lemma =>
        have ha1 : (((t : Nat) : Int) == 1) = false := by simp; omega
        have ha2 : (((t : Nat) : Int) != 1) = true := by simp; omega
        go_wp2_with fail
        have fx0 := fun x : OwnOf w [box B1 34 [.int .i64 W, .int .i64 H, .slice (some ⟨g, 0, none⟩) n c1], row 4 1 (.slice (some ⟨g, 0, none⟩) n c1) n (bools T), box w.heap.size 34 [.int .i64 W, .int .i64 H, .slice (some ⟨b0, off, none⟩) n c]] => (x.bx 0 rfl).1 0 _ rfl
        have fx1 := fun x : OwnOf w [box B1 34 [.int .i64 W, .int .i64 H, .slice (some ⟨g, 0, none⟩) n c1], row 4 1 (.slice (some ⟨g, 0, none⟩) n c1) n (bools T), box w.heap.size 34 [.int .i64 W, .int .i64 H, .slice (some ⟨b0, off, none⟩) n c]] => (x.bx 0 rfl).1 1 _ rfl
        have fx2 := fun x : OwnOf w [box B1 34 [.int .i64 W, .int .i64 H, .slice (some ⟨g, 0, none⟩) n c1], row 4 1 (.slice (some ⟨g, 0, none⟩) n c1) n (bools T), box w.heap.size 34 [.int .i64 W, .int .i64 H, .slice (some ⟨b0, off, none⟩) n c]] => (x.bx 0 rfl).1 2 _ rfl
        have fx3 := fun x : OwnOf w [box B1 34 [.int .i64 W, .int .i64 H, .slice (some ⟨g, 0, none⟩) n c1], row 4 1 (.slice (some ⟨g, 0, none⟩) n c1) n (bools T), box w.heap.size 34 [.int .i64 W, .int .i64 H, .slice (some ⟨b0, off, none⟩) n c]] => (x.bx 2 rfl).1 2 _ rfl
        have fx4 := fun x : OwnOf w [box B1 34 [.int .i64 W, .int .i64 H, .slice (some ⟨g, 0, none⟩) n c1], row 4 1 (.slice (some ⟨g, 0, none⟩) n c1) n (bools T), box w.heap.size 34 [.int .i64 W, .int .i64 H, .slice (some ⟨b0, off, none⟩) n c]] => x.out hb0 kl
        have hne : Nonempty (OwnOf w [box B1 34 [.int .i64 W, .int .i64 H, .slice (some ⟨g, 0, none⟩) n c1], row 4 1 (.slice (some ⟨g, 0, none⟩) n c1) n (bools T), box w.heap.size 34 [.int .i64 W, .int .i64 H, .slice (some ⟨b0, off, none⟩) n c]]) := ⟨⟨_, S7.out⟩⟩
        refine wp_region_own S7.out (by kernel_rfl) (by kernel_rfl) ?_
        iterate 27 (go_big_quiet_step (fail))
        refine wpQuiet_nil ?_
        rintro w8 ⟨z, hz⟩
        have S8 := Lib.hid (show Own w w8 [box B1 34 [.int .i64 W, .int .i64 H, .slice (some ⟨g, 0, none⟩) n c1], row 4 1 (.slice (some ⟨g, 0, none⟩) n c1) n (bools T), box w.heap.size 34 [.int .i64 W, .int .i64 H, .slice (some ⟨b0, off, none⟩) n c]] by rw [hz]; exact z.own)
        clear hz z hne fx0 fx1 fx2 fx3 fx4 S7
        go_wp2_with fail
        go_roundg (gk - 1)
        case measure => have := I1.out; omega
        case rel => exact ⟨i + 1, by omega, by go_num, by have := I1.out; omega, S8.out⟩
end Go.Proofs.Ytjelnbfnoliocaa
