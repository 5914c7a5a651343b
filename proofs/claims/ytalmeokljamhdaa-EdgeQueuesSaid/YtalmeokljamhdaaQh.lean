/- EdgeQueues holds: for every input the statement's function returns true, and each argument reads afterwards as it read before. No condition. -/
import Derived.Test.YtalmeokljamhdaaQg
import Derived.Test.YtalmeokljamhdaaOpen
namespace Go.Proofs.Ytalmeokljamhdaa
open Go.ChangeShapes Go.WideShapes Go.ChangeAt Go.RowKit Go.Deep Go.Joins

theorem open_guests {H : Type} {enc : TypeId × Value → H} {w : World} {base : Nat} {spare : Nat → Bool} {held : Bool} {fuel : Nat} {v : Value} {x : DataW H × List MemPlace}
    (h : DataW.trod enc Try.prog w base spare held fuel 22 [v] = some x) : ∃ (A : Option Addr) (l : List Gst) (n c : Nat), v = .slice A n c ∧ n = l.length ∧ Rd w A (flat genc l) := by
  rcases open_rows Try.underlying22 Try.underlying41 (by kernel_rfl) (by kernel_rfl) h with rfl | ⟨a, len, cap, rfl, hl, _, hi⟩
  · exact ⟨none, [], 0, 0, rfl, rfl, .inl rfl⟩
  · obtain ⟨l, hll, hr, _⟩ := rd_of_cells (Q := fun _ => True) genc 3 genc_len (by omega) (w := w) (a := a) (n := len) (fun i hil => by
      obtain ⟨n, hf⟩ := hi i hil
      obtain ⟨v0, y0, hc0, ht0⟩ := hf 0 _ rfl
      obtain ⟨v1, y1, hc1, ht1⟩ := hf 1 _ rfl
      obtain ⟨v2, y2, hc2, ht2⟩ := hf 2 _ rfl
      obtain ⟨g0, rfl, _⟩ := trod_int_val Try.underlying3 ht0
      obtain ⟨g1, rfl⟩ := trod_bool_val Try.underlying4 ht1
      obtain ⟨g2, rfl, _⟩ := trod_int_val Try.underlying3 ht2
      refine ⟨⟨g0, g1, g2⟩, trivial, ?_⟩
      rintro (_ | _ | _ | j) u hu
      · simp [genc] at hu; subst hu; exact hc0
      · simp [genc] at hu; subst hu; exact hc1
      · simp [genc] at hu; subst hu; exact hc2
      · simp [genc] at hu)
    exact ⟨some a, l, len, cap, rfl, hll.symm, hr⟩

theorem cells24 : Try.prog.cellsOf 24 = 3 := by kernel_rfl

set_option maxRecDepth 100000 in
theorem edgeQueues_lifted (os : Os) (started : os.Started) (H : Type) (enc : TypeId × Value → H) :
    ReturnsInHanded {} Try.checked os 3 .any (Rows.edgeQueuesSpec.pre6 enc Try.prog Try.f3 Rows.edgeQueuesRow.domain false) (Rows.edgeQueuesSpec.post enc Try.prog Try.f3 false true false false) := by
  refine returnsInHanded_of_change (C := Try.checked) Try.own started (by kernel_rfl) Try.func3
    (ChangeSpec.witness6 (enc := enc) (C := Try.checked) false ⟨#[], #[.agg #[.int .i64 0, .int .i64 0, .slice none 0 0], .int .i64 0, .bool false], []⟩ 8 (by kernel_rfl) (by kernel_rfl) (by kernel_rfl) (by kernel_rfl)) ?_
  intro W base args ds gs before hval0 hW hcnd _
  have hval : ∀ (j : Nat) t v, Try.f3.params[j]? = some t → args[j]? = some v → Value.okWide Try.prog W .any base t v := hval0
  have hW' := hW
  obtain ⟨p, q, hA0, hV, rfl, hfz, hnd⟩ := hW
  have hA : DataW.TrodAll enc Try.prog W 0 (fun _ => true) true Try.f3.params.toList args.toList ds p := hA0
  rw [Try.params3] at hA hval
  obtain ⟨v0, vs0, d0, ds0, p0, q0, hargs, rfl, rfl, h0, r0⟩ := trodAll_cons hA
  obtain ⟨v1, vs1, d1, ds1, p1, q1, rfl, rfl, rfl, h1, r1⟩ := trodAll_cons r0
  obtain ⟨v2, vs2, d2, ds2, p2, q2, rfl, rfl, rfl, h2, r2⟩ := trodAll_cons r1
  obtain ⟨rfl, rfl, rfl⟩ := trodAll_nil r2
  obtain rfl : args = #[v0, v1, v2] := by cases args; simp_all
  obtain ⟨rfl, rfl⟩ := trodVars_none hV
  have k0 := h0
  have lt0 : ∀ x ∈ p0, x.block < W.heap.size := by obtain ⟨m, hm⟩ := k0; exact DataW.trod_lt m _ _ _ hm
  obtain ⟨x0, x1, x2, y0, y1, y2, mm, rfl, rfl, rfl, hy0, hy1, hy2⟩ := open_agg3 Try.underlying24 (by kernel_rfl) cells24 (hval 0 24 v0 rfl rfl) h0
  obtain ⟨lim, rfl, _⟩ := trod_int_val Try.underlying3 hy0
  obtain ⟨next, rfl, _⟩ := trod_int_val Try.underlying3 hy1
  obtain ⟨A, l, n, c, rfl, hn, hrd⟩ := open_guests hy2
  obtain ⟨limit, rfl, rfl, rfl, w1⟩ := open_int Try.underlying3 (hval 1 3 v1 rfl rfl) h1
  obtain ⟨fast, rfl, rfl, rfl⟩ := open_bool Try.underlying4 (hval 2 4 v2 rfl rfl) h2
  clear hA0 hval0
  refine (edgeQueues_walk lim next limit fast A l n c W hrd hn).mono fun e W' ⟨he, bel⟩ => ?_
  subst he
  exact ⟨_, rfl, _, _, _, [], _, [], hW', trodAll_mk1 (shut_bool Try.underlying4 _), (trodAll_cons_mk (Below.trod Try.laidOut (by kernel_rfl) (of_decide_eq_true (by kernel_rfl)) k0 bel lt0) (trodAll_cons_mk (shut_int Try.underlying3 w1) (trodAll_cons_mk (shut_bool Try.underlying4 _) trodAll_mk0))), rfl, bel.frame _, fun h => by cases h⟩

theorem edgeQueues_holds : Rows.EdgeQueuesSaid :=
  OpenClaim.holds_of_wide 3 Try.f3 rfl rfl rfl rfl rfl rfl rfl ⟨rfl, rfl, rfl, rfl, rfl⟩ rfl rfl rfl rfl rfl (by kernel_rfl) Try.func3 (by kernel_rfl)
    (of_decide_eq_true (by kernel_rfl)) (by unfold Func.isWrapper; first | (rw [if_pos (by decide +kernel)]; kernel_rfl) | (rw [if_neg (by decide +kernel)]; exact ⟨rfl, rfl⟩))
    (fun os started H enc _ => edgeQueues_lifted os started H enc)
#print axioms edgeQueues_holds
end Go.Proofs.Ytalmeokljamhdaa
