/- EdgeFair holds: nobody is passed over too often, or waits too long. For every input the statement's function returns true, and each argument reads afterwards as it read before. No condition. -/
import Derived.Test.YtalmeokljamhdaaOc
import Derived.Test.YtalmeokljamhdaaOp
import Derived.Test.YtalmeokljamhdaaOpen
namespace Go.Proofs.Ytalmeokljamhdaa
open Go.ChangeShapes Go.WideShapes Go.ChangeAt Go.RowKit Go.Deep Go.Joins

theorem u8_in' {n : Int} (h : (Lit.int .u8 n).wf = true) : 0 ≤ n ∧ n ≤ 255 := by
  simp only [Lit.wf, Bool.and_eq_true, decide_eq_true_eq] at h
  have e1 : IntKind.u8.min = 0 := by kernel_rfl
  have e2 : IntKind.u8.max = 255 := by kernel_rfl
  omega
theorem open_moves {H : Type} {enc : TypeId × Value → H} {w : World} {base : Nat} {spare : Nat → Bool} {held : Bool} {v : Value} {d : DataW H} {p : List MemPlace}
    (hv : ∃ a n c, v = .slice a n c) (h : DataW.Trod enc Try.prog w base spare held 85 v d p) : ∃ (A : Option Addr) (l : List Mv) (n c : Nat), v = .slice A n c ∧ n = l.length ∧ Rd w A (flat menc l) ∧ ∀ m ∈ l, 0 ≤ m.kind ∧ m.kind ≤ 255 := by
  obtain ⟨fuel, hf⟩ := h
  obtain ⟨a0, n0, c0, rfl⟩ := hv
  rcases open_rows Try.underlying85 Try.underlying88 (by kernel_rfl) (by kernel_rfl) hf with h0 | ⟨a, len, cap, h0, hl, _, hi⟩
  · exact ⟨none, [], 0, 0, h0, rfl, .inl rfl, fun m hm => by simp at hm⟩
  · obtain ⟨l, hll, hr, hq⟩ := rd_of_cells (Q := fun m : Mv => 0 ≤ m.kind ∧ m.kind ≤ 255) menc 2 menc_len (by omega) (w := w) (a := a) (n := len) (fun i hil => by
      obtain ⟨n, hf⟩ := hi i hil
      obtain ⟨v0, y0, hc0, ht0⟩ := hf 0 _ rfl
      obtain ⟨v1, y1, hc1, ht1⟩ := hf 1 _ rfl
      obtain ⟨g0, rfl, hw0⟩ := trod_int_val Try.underlying5 ht0
      obtain ⟨g1, rfl⟩ := trod_bool_val Try.underlying4 ht1
      refine ⟨⟨g0, g1⟩, u8_in' hw0, ?_⟩
      rintro (_ | _ | j) u hu
      · simp [menc] at hu; subst hu; exact hc0
      · simp [menc] at hu; subst hu; exact hc1
      · simp [menc] at hu)
    exact ⟨some a, l, len, cap, h0, hll.symm, hr, hq⟩

set_option maxRecDepth 100000 in
theorem edgeFair_lifted (os : Os) (started : os.Started) (H : Type) (enc : TypeId × Value → H) :
    ReturnsInHanded {} Try.checked os 11 .any (Rows.edgeFairSpec.pre6 enc Try.prog Try.f11 Rows.edgeFairRow.domain false) (Rows.edgeFairSpec.post enc Try.prog Try.f11 false true false false) := by
  refine returnsInHanded_of_change (C := Try.checked) Try.own started (by kernel_rfl) Try.func11
    (ChangeSpec.witness6 (enc := enc) (C := Try.checked) false ⟨#[], #[.int .i64 0, .slice none 0 0], []⟩ 8 (by kernel_rfl) (by kernel_rfl) (by kernel_rfl) (by kernel_rfl)) ?_
  intro W base args ds gs before hval0 hW hcnd _
  have hval : ∀ (j : Nat) t v, Try.f11.params[j]? = some t → args[j]? = some v → Value.okWide Try.prog W .any base t v := hval0
  have hW' := hW
  obtain ⟨p, q, hA0, hV, rfl, hfz, hnd⟩ := hW
  have hA : DataW.TrodAll enc Try.prog W 0 (fun _ => true) true Try.f11.params.toList args.toList ds p := hA0
  rw [Try.params11] at hA hval
  obtain ⟨v0, vs0, d0, ds0, p0, q0, hargs, rfl, rfl, h0, r0⟩ := trodAll_cons hA
  obtain ⟨v1, vs1, d1, ds1, p1, q1, rfl, rfl, rfl, h1, r1⟩ := trodAll_cons r0
  obtain ⟨rfl, rfl, rfl⟩ := trodAll_nil r1
  obtain rfl : args = #[v0, v1] := by cases args; simp_all
  obtain ⟨rfl, rfl⟩ := trodVars_none hV
  have k1 := h1
  have lt1 : ∀ x ∈ p1, x.block < W.heap.size := by obtain ⟨m, hm⟩ := k1; exact DataW.trod_lt m _ _ _ hm
  obtain ⟨A, l, n, c, rfl, hn, hrd, hmv⟩ := open_moves (okWide_slice Try.underlying85 (hval 1 85 v1 rfl rfl)) h1
  obtain ⟨a0, rfl, rfl, rfl, w0⟩ := open_int Try.underlying3 (hval 0 3 v0 rfl rfl) h0
  clear hA0 hval0
  refine (edgeFair_walk a0 A l n c W hrd hn hmv).mono fun e W' ⟨he, bel⟩ => ?_
  subst he
  exact ⟨_, rfl, _, _, _, [], _, [], hW', trodAll_mk1 (shut_bool Try.underlying4 _), (trodAll_cons_mk (shut_int Try.underlying3 w0) (trodAll_cons_mk (Below.trod Try.laidOut (by kernel_rfl) (of_decide_eq_true (by kernel_rfl)) k1 bel lt1) trodAll_mk0)), rfl, bel.frame _, fun h => by cases h⟩

theorem edgeFair_holds : Rows.EdgeFairSaid :=
  OpenClaim.holds_of_wide 11 Try.f11 rfl rfl rfl rfl rfl rfl rfl ⟨rfl, rfl, rfl, rfl, rfl⟩ rfl rfl rfl rfl rfl (by kernel_rfl) Try.func11 (by kernel_rfl)
    (of_decide_eq_true (by kernel_rfl)) (by unfold Func.isWrapper; first | (rw [if_pos (by decide +kernel)]; kernel_rfl) | (rw [if_neg (by decide +kernel)]; exact ⟨rfl, rfl⟩))
    (fun os started H enc _ => edgeFair_lifted os started H enc)
#print axioms edgeFair_holds
end Go.Proofs.Ytalmeokljamhdaa
