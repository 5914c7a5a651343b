/- RatesTails: the walk of the law. No condition. -/
import Derived.Test.YtnalbchggjepdaaTg
import Derived.Test.YtnalbchggjepdaaTf
namespace Go.Proofs.Ytnalbchggjepdaa
open Go.RowKit
set_option maxRecDepth 100000 in
set_option maxHeartbeats 1000000 in
theorem ratesTails_walk (k n l m num den : Int) (w : World) : Calls Try.prog 3 #[.int .i64 k, .int .i64 n, .int .i64 l, .int .i64 m, .agg #[.int .i64 num, .int .i64 den]] w fun e w' => e = .returned (.bool true) ∧ Below w.heap.size w w' := by
  have hc1 := fun W => choose_any n k W
  have hc2 := fun W => refChoose_any n k W
  have hc3 := fun W => tail_any k n l m W
  have hc4 := fun W => refTail_any k n l m W
  have hc5 := fun W => differ_any k n l m num den W
  have hc6 := fun W => refDiffer_any k n l m num den W
  obtain ⟨a, b, hab⟩ : ∃ a b, chooseF n k = (a, b) := ⟨_, _, rfl⟩
  obtain ⟨c, d, hcd⟩ : ∃ c d, tailF k n l m = (c, d) := ⟨_, _, rfl⟩
  obtain ⟨f, g, hfg⟩ : ∃ f g, differF k n l m num den = (f, g) := ⟨_, _, rfl⟩
  simp only [hab] at hc1 hc2
  simp only [hcd] at hc3 hc4
  simp only [hfg] at hc5 hc6
  have H1 := Lib.hid hc1
  have H2 := Lib.hid hc2
  have H3 := Lib.hid hc3
  have H4 := Lib.hid hc4
  have H5 := Lib.hid hc5
  have H6 := Lib.hid hc6
  clear hab hcd hfg hc1 hc2 hc3 hc4 hc5 hc6
  go_enter Try.func3, Try.ntmps3
  go_wp2_with fail
  refine (H1.out _).mono ?_
  rintro e w1 ⟨rfl, hb1⟩
  go_wp2_with fail
  refine (H2.out _).mono ?_
  rintro e w2 ⟨rfl, hb2⟩
  go_wp2_with fail
  refine (H3.out _).mono ?_
  rintro e w3 ⟨rfl, hb3⟩
  go_wp2_with fail
  refine (H4.out _).mono ?_
  rintro e w4 ⟨rfl, hb4⟩
  obtain ⟨d0, d1, _⟩ := (((((Box.new w 23 #[.int .i64 num, .int .i64 den]).ext hb1).ext hb2).ext hb3).ext hb4).c2
  go_wp2_with fail
  refine (H5.out _).mono ?_
  rintro e w5 ⟨rfl, hb5⟩
  clear d0 d1
  obtain ⟨d0, d1, _⟩ := ((((((Box.new w 23 #[.int .i64 num, .int .i64 den]).ext hb1).ext hb2).ext hb3).ext hb4).ext hb5).c2
  go_wp2_with fail
  refine (H6.out _).mono ?_
  rintro e w6 ⟨rfl, hb6⟩
  go_wp2_with fail
  go_ret
  exact ⟨by simp, below_step (below_step (below_step (below_step (below_step (below_step (below_alloc _ _) hb1) hb2) hb3) hb4) hb5) hb6⟩
end Go.Proofs.Ytnalbchggjepdaa
