/- RidgeInverse holds: moved and exchanged light and dark. For every input the statement's function returns true, and each argument reads afterwards as it read before. No condition. -/
import Derived.Test.YtjelnbfnoliocaaTu
import Derived.Test.YtjelnbfnoliocaaOpen
namespace Go.Proofs.Ytjelnbfnoliocaa
open Go.ChangeShapes Go.WideShapes Go.ChangeAt Go.RowKit Go.Deep Go.Joins

theorem cells24 : Try.prog.cellsOf 24 = 3 := by kernel_rfl
theorem cells26 : Try.prog.cellsOf 26 = 4 := by kernel_rfl
theorem cells34 : Try.prog.cellsOf 34 = 3 := by kernel_rfl
theorem bytes5 : Try.prog.bytesOf 5 = 1 := by kernel_rfl
theorem bytes4 : Try.prog.bytesOf 4 = 1 := by kernel_rfl

set_option maxRecDepth 100000 in
theorem ridgeInverse_lifted (os : Os) (started : os.Started) (H : Type) (enc : TypeId × Value → H) :
    ReturnsInHanded {} Try.checked os 12 .any (Rows.ridgeInverseSpec.pre6 enc Try.prog Try.f12 Rows.ridgeInverseRow.domain false) (Rows.ridgeInverseSpec.post enc Try.prog Try.f12 false true false false) := by
  refine returnsInHanded_of_change (C := Try.checked) Try.own started (by kernel_rfl) Try.func12
    (ChangeSpec.witness6 (enc := enc) (C := Try.checked) false ⟨#[], #[.agg #[.int .i64 0, .int .i64 0, .slice none 0 0], .agg #[.int .i64 0, .int .i64 0, .slice none 0 0, .slice none 0 0], .int .u8 0], []⟩ 8 (by kernel_rfl) (by kernel_rfl) (by kernel_rfl) (by kernel_rfl)) ?_
  intro W base args ds gs before hval0 hW hcnd _
  have hval : ∀ (j : Nat) t v, Try.f12.params[j]? = some t → args[j]? = some v → Value.okWide Try.prog W .any base t v := hval0
  have hW' := hW
  obtain ⟨p, q, hA0, hV, rfl, hfz, hnd⟩ := hW
  have hA : DataW.TrodAll enc Try.prog W 0 (fun _ => true) true Try.f12.params.toList args.toList ds p := hA0
  rw [Try.params12] at hA hval
  obtain ⟨v0, vs0, d0, ds0, p0, q0, hargs, rfl, rfl, h0, r0⟩ := trodAll_cons hA
  obtain ⟨v1, vs1, d1, ds1, p1, q1, rfl, rfl, rfl, h1, r1⟩ := trodAll_cons r0
  obtain ⟨v2, vs2, d2, ds2, p2, q2, rfl, rfl, rfl, h2, r2⟩ := trodAll_cons r1
  obtain ⟨rfl, rfl, rfl⟩ := trodAll_nil r2
  obtain rfl : args = #[v0, v1, v2] := by cases args; simp_all
  obtain ⟨rfl, rfl⟩ := trodVars_none hV
  have k0 := h0
  have lt0 : ∀ x ∈ p0, x.block < W.heap.size := by obtain ⟨m, hm⟩ := k0; exact DataW.trod_lt m _ _ _ hm
  have k1 := h1
  have lt1 : ∀ x ∈ p1, x.block < W.heap.size := by obtain ⟨m, hm⟩ := k1; exact DataW.trod_lt m _ _ _ hm
  obtain ⟨x00, x01, x02, y00, y01, y02, mm0, rfl, rfl, rfl, hy00, hy01, hy02⟩ := open_agg3 Try.underlying24 (by kernel_rfl) cells24 (hval 0 24 v0 rfl rfl) h0
  obtain ⟨sW, rfl, wf00⟩ := trod_int_val Try.underlying3 hy00
  obtain ⟨sH, rfl, wf01⟩ := trod_int_val Try.underlying3 hy01
  obtain ⟨P, pix, np, cp, rfl, hnp, hp, hw0, hc0, hz0⟩ := open_nums Try.underlying22 Try.underlying5 (by kernel_rfl) hy02
  obtain ⟨x10, x11, x12, x13, y10, y11, y12, y13, mm1, rfl, rfl, rfl, hy10, hy11, hy12, hy13⟩ := open_agg4 Try.underlying26 (by kernel_rfl) cells26 (hval 1 26 v1 rfl rfl) h1
  obtain ⟨dW, rfl, wf10⟩ := trod_int_val Try.underlying3 hy10
  obtain ⟨dH, rfl, wf11⟩ := trod_int_val Try.underlying3 hy11
  obtain ⟨A, dark, n, c, rfl, hn, hr, hw1, hc1, hz1⟩ := open_nums Try.underlying22 Try.underlying5 (by kernel_rfl) hy12
  obtain ⟨A', light, n', c', rfl, hn', hr', hw2, hc2, hz2⟩ := open_nums Try.underlying22 Try.underlying5 (by kernel_rfl) hy13
  obtain ⟨b, rfl, rfl, rfl, w2⟩ := open_int Try.underlying5 (hval 2 5 v2 rfl rfl) h2
  have U0 : U8 pix := fun x hx => u8_in (hw0 x hx)
  have U1 : U8 dark := fun x hx => u8_in (hw1 x hx)
  have U2 : U8 light := fun x hx => u8_in (hw2 x hx)
  clear hA0 hval0
  refine (ridgeInverse_walk sW sH dW dH b P A A' pix dark light np cp n c n' c' W hp hr hr' hnp hn hn' U0 U1 U2 (u8_in w2)).mono fun e W' ⟨he, bel⟩ => ?_
  subst he
  exact ⟨_, rfl, _, _, _, [], _, [], hW', trodAll_mk1 (shut_bool Try.underlying4 _), (trodAll_cons_mk (Below.trod Try.laidOut (by kernel_rfl) (of_decide_eq_true (by kernel_rfl)) k0 bel lt0) (trodAll_cons_mk (Below.trod Try.laidOut (by kernel_rfl) (of_decide_eq_true (by kernel_rfl)) k1 bel lt1) (trodAll_cons_mk (shut_int Try.underlying5 w2) trodAll_mk0))), rfl, bel.frame _, fun h => by cases h⟩

theorem ridgeInverse_holds : Rows.RidgeInverseSaid :=
  OpenClaim.holds_of_wide 12 Try.f12 rfl rfl rfl rfl rfl rfl rfl ⟨rfl, rfl, rfl, rfl, rfl⟩ rfl rfl rfl rfl rfl (by kernel_rfl) Try.func12 (by kernel_rfl)
    (of_decide_eq_true (by kernel_rfl)) (by unfold Func.isWrapper; first | (rw [if_pos (by decide +kernel)]; kernel_rfl) | (rw [if_neg (by decide +kernel)]; exact ⟨rfl, rfl⟩))
    (fun os started H enc _ => ridgeInverse_lifted os started H enc)
#print axioms ridgeInverse_holds
end Go.Proofs.Ytjelnbfnoliocaa
