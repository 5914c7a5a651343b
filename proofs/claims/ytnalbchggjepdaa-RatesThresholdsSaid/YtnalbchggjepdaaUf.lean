/- Rates: the law of thresholds and chances. No condition. -/
import Derived.Test.YtnalbchggjepdaaUe
namespace Go.Proofs.Ytnalbchggjepdaa
open Go.RowKit Go.Shelf
attribute [local go_sem] Oper.semAt_some

set_option maxRecDepth 100000 in
set_option maxHeartbeats 4000000 in
theorem ratesThresholds_walk (A : Option Addr) (l : List Int) (n c : Nat) (num den score : Int) (w : World) (hr : Rd w A (ints l)) (hn : n = l.length) :
    Calls Try.prog 4 #[.slice A n c, .agg #[.int .i64 num, .int .i64 den], .int .i64 score] w fun e w' => e = .returned (.bool true) ∧ Below w.heap.size w w' := by
  by_cases hbig : 100 < n
  · have hb : (100 : Int) < (n : Int) := by omega
    clear hr hn
    go_enter Try.func4, Try.ntmps4
    go_wp2_with fail
    go_ret
    exact ⟨rfl, below_alloc _ _⟩
  have hb : ¬ (100 : Int) < (n : Int) := by omega
  have hn100 : n ≤ 100 := by omega
  have HR := Lib.hid hr
  have HN := Lib.hid hn
  obtain ⟨t1, t2, htr⟩ : ∃ a b, thrF l num den = (a, b) := ⟨_, _, rfl⟩
  obtain ⟨a1, a2, a3, hch⟩ : ∃ a b c, chaF l score = ((a, b), c) := ⟨_, _, _, rfl⟩
  have K1 := Lib.hid (fun B cc W (h : Rd W B (ints l)) => threshold_any B l n cc num den W h hn (by omega))
  have K2 := Lib.hid (fun W (h : Below w.heap.size w W) => refThreshold_any A l n c num den W (hr.below h) hn)
  have K3 := Lib.hid (fun B cc W (h : Rd W B (ints l)) => chance_any B l n cc score W h hn (by omega))
  have K4 := Lib.hid (fun W (h : Below w.heap.size w W) => refChance_any A l n c score W (hr.below h) hn)
  rw [htr] at K1 K2
  rw [hch] at K3 K4
  have S0 := Lib.hid ((((Own.start w).new' 23 #[.int .i64 num, .int .i64 den] (B := w.heap.size) rfl).new' 3 #[] (B := w.heap.size + 1) (by simp)).asRow (n := 0) (size := 1) 0 rfl rfl (by unfold maxLen; omega))
  have HR2 := Lib.hid (hr.below S0.out.bel)
  clear hr hn htr hch hbig
  go_enter Try.func4, Try.ntmps4
  go_wp2_with (at_builtin; go_loud (refine wpList_appP rfl (.tmp 19) (.tmp 20) 36 rfl st36 0 S0.out rfl rfl rfl n (ints l) ?_ (ints l) (by omega) rfl HR2.out (by rw [HN.out]; simp [ints]) (ints_one l) (by unfold maxLen; omega) (by omega); intro A1 c1 w1 hS1); have S1 := Lib.hid (hS1.cast (qs := [row 3 1 (.slice A1 n c1) n (ints l), box w.heap.size 23 [.int .i64 num, .int .i64 den]]) rfl); clear hS1 S0 HR2; obtain ⟨d0, d1, _⟩ := (S1.out.bx 1 rfl).c2)
  refine (K1.out A1 c1 _ (S1.out.rd 0 rfl)).mono ?_
  rintro e w2 ⟨rfl, hb2⟩
  have S2 := Lib.hid (S1.out.ext hb2)
  clear hb2 K1 S1 d0 d1
  obtain ⟨d0, d1, _⟩ := (S2.out.bx 1 rfl).c2
  go_wp2_with fail
  refine (K2.out _ S2.out.bel).mono ?_
  rintro e w3 ⟨rfl, hb3⟩
  have S3 := Lib.hid (S2.out.ext hb3)
  clear hb3 K2 S2 d0 d1
  go_wp2_with fail
  refine (K3.out A1 c1 _ (S3.out.rd 0 rfl)).mono ?_
  rintro e w4 ⟨rfl, hb4⟩
  have S4 := Lib.hid ((S3.out.ext hb4).new' 23 #[.int .i64 a1, .int .i64 a2] (B := w4.heap.size) rfl)
  clear hb4 K3 S3
  go_wp2_with fail
  refine (K4.out _ S4.out.bel).mono ?_
  rintro e w5 ⟨rfl, hb5⟩
  have S5 := Lib.hid ((S4.out.ext hb5).new' 23 #[.int .i64 a1, .int .i64 a2] (B := w5.heap.size) rfl)
  clear hb5 K4 S4
  go_wp2_with fail
  obtain ⟨B4, hB4⟩ : ∃ B4, B4 = w4.heap.size := ⟨_, rfl⟩
  obtain ⟨B5, hB5⟩ : ∃ B5, B5 = w5.heap.size := ⟨_, rfl⟩
  rw [← hB4, ← hB5] at S5 ⊢
  clear hB4 hB5
  generalize w5.alloc _ = W at *
  replace S5 := Lib.hid (S5.out.cast (qs := [box B5 23 [.int .i64 a1, .int .i64 a2], box B4 23 [.int .i64 a1, .int .i64 a2], row 3 1 (.slice A1 n c1) n (ints l), box w.heap.size 23 [.int .i64 num, .int .i64 den]]) rfl)
  have fx0 := fun x : OwnOf w [box B5 23 [.int .i64 a1, .int .i64 a2], box B4 23 [.int .i64 a1, .int .i64 a2], row 3 1 (.slice A1 n c1) n (ints l), box w.heap.size 23 [.int .i64 num, .int .i64 den]] => (x.bx 0 rfl).1 0 _ rfl
  have fx1 := fun x : OwnOf w [box B5 23 [.int .i64 a1, .int .i64 a2], box B4 23 [.int .i64 a1, .int .i64 a2], row 3 1 (.slice A1 n c1) n (ints l), box w.heap.size 23 [.int .i64 num, .int .i64 den]] => (x.bx 0 rfl).1 1 _ rfl
  have fy0 := fun x : OwnOf w [box B5 23 [.int .i64 a1, .int .i64 a2], box B4 23 [.int .i64 a1, .int .i64 a2], row 3 1 (.slice A1 n c1) n (ints l), box w.heap.size 23 [.int .i64 num, .int .i64 den]] => (x.bx 1 rfl).1 0 _ rfl
  have fy1 := fun x : OwnOf w [box B5 23 [.int .i64 a1, .int .i64 a2], box B4 23 [.int .i64 a1, .int .i64 a2], row 3 1 (.slice A1 n c1) n (ints l), box w.heap.size 23 [.int .i64 num, .int .i64 den]] => (x.bx 1 rfl).1 1 _ rfl
  have fz0 := fun x : OwnOf w [box B5 23 [.int .i64 a1, .int .i64 a2], box B4 23 [.int .i64 a1, .int .i64 a2], row 3 1 (.slice A1 n c1) n (ints l), box w.heap.size 23 [.int .i64 num, .int .i64 den]] => (x.bx 3 rfl).1 0 _ rfl
  have fz1 := fun x : OwnOf w [box B5 23 [.int .i64 a1, .int .i64 a2], box B4 23 [.int .i64 a1, .int .i64 a2], row 3 1 (.slice A1 n c1) n (ints l), box w.heap.size 23 [.int .i64 num, .int .i64 den]] => (x.bx 3 rfl).1 1 _ rfl
  have hne : Nonempty (OwnOf w [box B5 23 [.int .i64 a1, .int .i64 a2], box B4 23 [.int .i64 a1, .int .i64 a2], row 3 1 (.slice A1 n c1) n (ints l), box w.heap.size 23 [.int .i64 num, .int .i64 den]]) := ⟨⟨_, S5.out⟩⟩
  have G1 := Lib.hid (fun x : OwnOf w [box B5 23 [.int .i64 a1, .int .i64 a2], box B4 23 [.int .i64 a1, .int .i64 a2], row 3 1 (.slice A1 n c1) n (ints l), box w.heap.size 23 [.int .i64 num, .int .i64 den]] => checkScores_any A1 l n c1 x.wld (x.own.rd 2 rfl) HN.out (by omega))
  have G2 := Lib.hid (fun x : OwnOf w [box B5 23 [.int .i64 a1, .int .i64 a2], box B4 23 [.int .i64 a1, .int .i64 a2], row 3 1 (.slice A1 n c1) n (ints l), box w.heap.size 23 [.int .i64 num, .int .i64 den]] => refScores_any A l n c x.wld (x.rd HR.out) HN.out)
  have G3 := Lib.hid (fun x : OwnOf w [box B5 23 [.int .i64 a1, .int .i64 a2], box B4 23 [.int .i64 a1, .int .i64 a2], row 3 1 (.slice A1 n c1) n (ints l), box w.heap.size 23 [.int .i64 num, .int .i64 den]] => (by have := sameInts_any l l A1 A n n c1 c x.wld (x.own.rd 2 rfl) (x.rd HR.out) HN.out HN.out (by omega); simpa only [decide_true] using this : Calls Try.prog 33 #[.slice A1 n c1, .slice A n c] x.wld fun e w' => e = .returned (.bool true) ∧ Below x.wld.heap.size x.wld w'))
  refine wp_region_own S5.out (by kernel_rfl) (by kernel_rfl) ?_
  go_big_quiet_step (fail)
  go_big_quiet_step ((go_at_call 29; exact own_of (checkShare_any num den _)))
  go_big_quiet_step (fail)
  go_big_quiet_step ((go_at_call 30; exact own_of (refShare_any num den _)))
  iterate 3 (go_big_quiet_step (fail))
  go_big_quiet_step ((go_at_call 31; exact own_of (G1.out _)))
  go_big_quiet_step (fail)
  go_big_quiet_step ((go_at_call 32; exact own_of (G2.out _)))
  iterate 25 (go_big_quiet_step (fail))
  go_big_quiet_step ((go_at_call 33; exact own_of (G3.out _)))
  iterate 2 (go_big_quiet_step (fail))
  refine wpQuiet_nil ?_
  rintro w6 ⟨z, hz⟩
  have HE := Lib.hid (show Below w.heap.size w w6 by rw [hz]; exact z.own.bel)
  clear hz z hne fx0 fx1 fy0 fy1 fz0 fz1
  go_wp2_with fail
  go_ret
  exact ⟨rfl, HE.out⟩
end Go.Proofs.Ytnalbchggjepdaa
