/- Ridge: the walk of RidgeShape. No condition. -/
import Derived.Test.YtjelnbfnoliocaaTa
import Derived.Test.YtjelnbfnoliocaaSf
namespace Go.Proofs.Ytjelnbfnoliocaa
open Go.RowKit Go.Shelf
attribute [local go_sem] Oper.semAt_some

theorem sized_nat {W H : Int} {n : Nat} (ok : sized1B W H n = true) : ∃ a b : Nat, W = a ∧ H = b ∧ n = a * b ∧ 0 < a ∧ 0 < b ∧ a ≤ 20 ∧ b ≤ 20 := by
  obtain ⟨hW, hH, hn⟩ := valid_bd ok
  obtain ⟨a, rfl⟩ : ∃ a : Nat, W = a := ⟨W.toNat, by omega⟩
  obtain ⟨b, rfl⟩ : ∃ b : Nat, H = b := ⟨H.toNat, by omega⟩
  exact ⟨a, b, rfl, rfl, by rw [← Int.natCast_mul] at hn; exact Int.ofNat.inj hn, by omega, by omega, by omega, by omega⟩
theorem thin_parts {W H : Int} {n : Nat} {l : List Bool} (ok : sized1B W H n = true) (hn : n = l.length) : ridgesF W H (thinF W H l) = ridgesF W H l ∧ lakesF W H (thinF W H l) = lakesF W H l := by
  obtain ⟨a, b, rfl, rfl, h, _⟩ := sized_nat ok
  exact thinF_parts (by rw [← hn, h])
set_option maxRecDepth 100000 in
set_option maxHeartbeats 1000000 in
theorem ridgeShape_walk (W H : Int) (A : Option Addr) (l : List Bool) (n c : Nat) (w : World) (hr : Rd w A (bools l)) (hn : n = l.length) :
    Calls Try.prog 7 #[.agg #[.int .i64 W, .int .i64 H, .slice A n c]] w fun e w' => e = .returned (.bool true) ∧ Below w.heap.size w w' := by
  have S0 := Lib.hid ((Own.start w).new 34 #[.int .i64 W, .int .i64 H, .slice A n c])
  have HF := Lib.hid (fun W1 (h : Below w.heap.size w W1) => hr.below h)
  cases ok : sized1B W H n
  · as_aux_lemma =>
    have K37 := Lib.hid (fun W1 => thin_no W H A n c W1 ok)
    have K44 := Lib.hid (fun W1 => (show Calls Try.prog 44 #[.agg #[.int .i64 W, .int .i64 H, .slice A n c]] W1 fun e w' => e = .returned (.bool false) ∧ Below W1.heap.size W1 w' by have := valid_any W H A n c W1; rw [ok] at this; exact this))
    clear hr hn ok HF
    go_enter Try.func7, Try.ntmps7
    go_wp2_with fail
    refine (alive_any _).mono ?_
    rintro e w1 ⟨rfl, hb1⟩
    have S1 := Lib.hid (S0.out.ext hb1)
    clear hb1 S0
    obtain ⟨t0_0, t0_1, t0_2, _⟩ := (S1.out.bx 0 rfl).c3
    have lt0 := (S1.out.bx 0 rfl).2.2
    go_wp2_with fail
    refine (K37.out _).mono ?_
    rintro e w2 ⟨A1, c1, rfl, hO2⟩
    have S2 := Lib.hid ((S1.out.call hO2).cast (qs := [row 4 1 (.slice A1 0 c1) 0 (bools []), box w.heap.size 34 [.int .i64 W, .int .i64 H, .slice A n c]]) rfl)
    clear hO2 S1 t0_0 t0_1 t0_2 lt0
    go_upto_region 3 with fail
    have S3 := Lib.hid ((S2.out.new' 34 #[.int .i64 0, .int .i64 0, .slice A1 0 c1] (B := w2.heap.size) rfl).cast (qs := [box w2.heap.size 34 [.int .i64 0, .int .i64 0, .slice A1 0 c1], row 4 1 (.slice A1 0 c1) 0 (bools []), box w.heap.size 34 [.int .i64 W, .int .i64 H, .slice A n c]]) rfl)
    generalize w2.alloc (.cells #[.int .i64 0, .int .i64 0, .slice A1 0 c1] 34) = w3 at *
    generalize w2.heap.size = B1 at *
    clear S2
    obtain ⟨t2_0, t2_1, t2_2, _⟩ := (S3.out.bx 2 rfl).c3
    have lt2 := (S3.out.bx 2 rfl).2.2
    go_wp2_with fail
    refine (K44.out _).mono ?_
    rintro e w4 ⟨rfl, hb4⟩
    have S4 := Lib.hid (S3.out.ext hb4)
    clear hb4 S3 t2_0 t2_1 t2_2 lt2
    go_wp2_with fail
    go_ret
    exact ⟨rfl, S4.out.bel⟩
  · as_aux_lemma =>
    have K37 := Lib.hid (fun W1 h => thin_ok W H A l n c W1 ok h hn)
    have K44 := Lib.hid (fun W1 => (show Calls Try.prog 44 #[.agg #[.int .i64 W, .int .i64 H, .slice A n c]] W1 fun e w' => e = .returned (.bool true) ∧ Below W1.heap.size W1 w' by have := valid_any W H A n c W1; rw [ok] at this; exact this))
    have K29 := fun W1 h => parts_ok W H A l n c W1 ok h hn
    have K29' := fun A1 c1 W1 h => parts_ok W H A1 (thinF W H l) n c1 W1 ok h (by rw [thinF_len]; exact hn)
    rw [(thin_parts ok hn).1, (thin_parts ok hn).2] at K29'
    replace K29 := Lib.hid K29
    replace K29' := Lib.hid K29'
    clear hr hn ok
    generalize ridgesF W H l = R at *
    generalize lakesF W H l = K at *
    go_enter Try.func7, Try.ntmps7
    go_wp2_with fail
    refine (alive_any _).mono ?_
    rintro e w1 ⟨rfl, hb1⟩
    have S1 := Lib.hid (S0.out.ext hb1)
    clear hb1 S0
    obtain ⟨t0_0, t0_1, t0_2, _⟩ := (S1.out.bx 0 rfl).c3
    have lt0 := (S1.out.bx 0 rfl).2.2
    go_wp2_with fail
    refine (K37.out _ (HF.out _ S1.out.bel)).mono ?_
    rintro e w2 ⟨A1, c1, rfl, hO2⟩
    have S2 := Lib.hid ((S1.out.call hO2).cast (qs := [row 4 1 (.slice A1 n c1) n (bools (thinF W H l)), box w.heap.size 34 [.int .i64 W, .int .i64 H, .slice A n c]]) rfl)
    clear hO2 S1 t0_0 t0_1 t0_2 lt0
    go_upto_region 3 with fail
    have S3 := Lib.hid ((S2.out.new' 34 #[.int .i64 W, .int .i64 H, .slice A1 n c1] (B := w2.heap.size) rfl).cast (qs := [box w2.heap.size 34 [.int .i64 W, .int .i64 H, .slice A1 n c1], row 4 1 (.slice A1 n c1) n (bools (thinF W H l)), box w.heap.size 34 [.int .i64 W, .int .i64 H, .slice A n c]]) rfl)
    generalize w2.alloc (.cells #[.int .i64 W, .int .i64 H, .slice A1 n c1] 34) = w3 at *
    generalize w2.heap.size = B1 at *
    clear S2
    obtain ⟨t2_0, t2_1, t2_2, _⟩ := (S3.out.bx 2 rfl).c3
    have lt2 := (S3.out.bx 2 rfl).2.2
    go_wp2_with fail
    refine (K44.out _).mono ?_
    rintro e w4 ⟨rfl, hb4⟩
    have S4 := Lib.hid (S3.out.ext hb4)
    clear hb4 S3 t2_0 t2_1 t2_2 lt2
    obtain ⟨t2_0, t2_1, t2_2, _⟩ := (S4.out.bx 2 rfl).c3
    have lt2 := (S4.out.bx 2 rfl).2.2
    go_wp2_with fail
    refine (K29.out _ (HF.out _ S4.out.bel)).mono ?_
    rintro e w5 ⟨rfl, hb5⟩
    have S5 := Lib.hid (S4.out.ext hb5)
    clear hb5 S4 t2_0 t2_1 t2_2 lt2
    obtain ⟨t0_0, t0_1, t0_2, _⟩ := (S5.out.bx 0 rfl).c3
    have lt0 := (S5.out.bx 0 rfl).2.2
    go_wp2_with fail
    refine (K29'.out A1 c1 _ (S5.out.rd 1 rfl)).mono ?_
    rintro e w6 ⟨rfl, hb6⟩
    have S6 := Lib.hid (S5.out.ext hb6)
    clear hb6 S5 t0_0 t0_1 t0_2 lt0
    go_wp2_with fail
    go_ret
    exact ⟨rfl, S6.out.bel⟩
end Go.Proofs.Ytjelnbfnoliocaa
