/- TopScored holds: from codes to a guarantee: strangers are accepted in at most the share of the ways. For every input the statement's function returns true, and each argument reads afterwards as it read before. No condition. -/
import Derived.Test.YtmjbbihbcbhaoaaIg
import Derived.Test.YtmjbbihbcbhaoaaOpen
namespace Go.Proofs.Ytmjbbihbcbhaoaa
open Go.ChangeShapes Go.WideShapes Go.ChangeAt Go.RowKit Go.Deep Go.Joins

theorem cells24 : Try.prog.cellsOf 24 = 2 := by kernel_rfl
theorem cells27 : Try.prog.cellsOf 27 = 2 := by kernel_rfl
theorem u64_nat {g : Int} (h : (Lit.int .u64 g).wf = true) : ∃ k : Nat, g = (k : Int) ∧ k < 18446744073709551616 := by
  simp only [Lit.wf, Bool.and_eq_true, decide_eq_true_eq] at h
  have h1 : IntKind.u64.min = 0 := rfl
  have h2 : IntKind.u64.max = 18446744073709551615 := rfl
  rw [h1, h2] at h
  exact ⟨g.toNat, by omega, by omega⟩
theorem open_irises {H : Type} {enc : TypeId × Value → H} {w : World} {base : Nat} {spare : Nat → Bool} {held : Bool} {v : Value} {d : DataW H} {p : List MemPlace}
    (hv : ∃ a n c, v = .slice a n c) (h : DataW.Trod enc Try.prog w base spare held 25 v d p) : ∃ (A : Option Addr) (l : List Iri) (n c : Nat), v = .slice A n c ∧ n = l.length ∧ Rd w A (flat encI l) ∧ ∀ x ∈ l, x.1 < 18446744073709551616 ∧ x.2 < 18446744073709551616 := by
  obtain ⟨fuel, hf⟩ := h
  obtain ⟨a0, n0, c0, rfl⟩ := hv
  rcases open_rows Try.underlying25 Try.underlying24 (by kernel_rfl) (by kernel_rfl) hf with h0 | ⟨a, len, cap, h0, hl, _, hi⟩
  · exact ⟨none, [], 0, 0, h0, rfl, .inl rfl, fun _ h => by cases h⟩
  · obtain ⟨l, hll, hr, hq⟩ := rd_of_cells (Q := fun x : Iri => x.1 < 18446744073709551616 ∧ x.2 < 18446744073709551616) encI 2 encI_len (by omega) (w := w) (a := a) (n := len) (fun i hil => by
      obtain ⟨n, hf⟩ := hi i hil
      obtain ⟨v0, y0, hc0, ht0⟩ := hf 0 _ rfl
      obtain ⟨v1, y1, hc1, ht1⟩ := hf 1 _ rfl
      obtain ⟨g0, rfl, w0⟩ := trod_int_val Try.underlying22 ht0
      obtain ⟨g1, rfl, w1⟩ := trod_int_val Try.underlying22 ht1
      obtain ⟨k0, rfl, b0⟩ := u64_nat w0
      obtain ⟨k1, rfl, b1⟩ := u64_nat w1
      refine ⟨⟨k0, k1⟩, ⟨b0, b1⟩, ?_⟩
      rintro (_ | _ | j) u hu
      · simp [encI] at hu; subst hu; exact hc0
      · simp [encI] at hu; subst hu; exact hc1
      · simp [encI] at hu)
    exact ⟨some a, l, len, cap, h0, hll.symm, hr, hq⟩

set_option maxRecDepth 100000 in
theorem topScored_lifted (os : Os) (started : os.Started) (H : Type) (enc : TypeId × Value → H) :
    ReturnsInHanded {} Try.checked os 3 .any (Rows.topScoredSpec.pre6 enc Try.prog Try.f3 Rows.topScoredRow.domain false) (Rows.topScoredSpec.post enc Try.prog Try.f3 false true false false) := by
  refine returnsInHanded_of_change (C := Try.checked) Try.own started (by kernel_rfl) Try.func3
    (ChangeSpec.witness6 (enc := enc) (C := Try.checked) false ⟨#[], #[.agg #[.int .u64 0, .int .u64 0], .slice none 0 0, .int .i64 0, .agg #[.int .i64 0, .int .i64 0]], []⟩ 8 (by kernel_rfl) (by kernel_rfl) (by kernel_rfl) (by kernel_rfl)) ?_
  intro W base args ds gs before hval0 hW hcnd _
  have hval : ∀ (j : Nat) t v, Try.f3.params[j]? = some t → args[j]? = some v → Value.okWide Try.prog W .any base t v := hval0
  have hW' := hW
  obtain ⟨p, q, hA0, hV, rfl, hfz, hnd⟩ := hW
  have hA : DataW.TrodAll enc Try.prog W 0 (fun _ => true) true Try.f3.params.toList args.toList ds p := hA0
  rw [Try.params3] at hA hval
  obtain ⟨v0, vs0, d0, ds0, p0, q0, hargs, rfl, rfl, h0, r0⟩ := trodAll_cons hA
  obtain ⟨v1, vs1, d1, ds1, p1, q1, rfl, rfl, rfl, h1, r1⟩ := trodAll_cons r0
  obtain ⟨v2, vs2, d2, ds2, p2, q2, rfl, rfl, rfl, h2, r2⟩ := trodAll_cons r1
  obtain ⟨v3, vs3, d3, ds3, p3, q3, rfl, rfl, rfl, h3, r3⟩ := trodAll_cons r2
  obtain ⟨rfl, rfl, rfl⟩ := trodAll_nil r3
  obtain rfl : args = #[v0, v1, v2, v3] := by cases args; simp_all
  obtain ⟨rfl, rfl⟩ := trodVars_none hV
  have k0 := h0
  have lt0 : ∀ x ∈ p0, x.block < W.heap.size := by obtain ⟨m, hm⟩ := k0; exact DataW.trod_lt m _ _ _ hm
  have k1 := h1
  have lt1 : ∀ x ∈ p1, x.block < W.heap.size := by obtain ⟨m, hm⟩ := k1; exact DataW.trod_lt m _ _ _ hm
  have k3 := h3
  have lt3 : ∀ x ∈ p3, x.block < W.heap.size := by obtain ⟨m, hm⟩ := k3; exact DataW.trod_lt m _ _ _ hm
  obtain ⟨x00, x01, y00, y01, mm0, rfl, rfl, rfl, hy00, hy01⟩ := open_agg2 Try.underlying24 (by kernel_rfl) cells24 (hval 0 24 v0 rfl rfl) h0
  obtain ⟨cc, rfl, wf00⟩ := trod_int_val Try.underlying22 hy00
  obtain ⟨mm, rfl, wf01⟩ := trod_int_val Try.underlying22 hy01
  obtain ⟨A, l, n, c, rfl, hn, hrd, hlt⟩ := open_irises (okWide_slice Try.underlying25 (hval 1 25 v1 rfl rfl)) h1
  obtain ⟨x30, x31, y30, y31, mm3, rfl, rfl, rfl, hy30, hy31⟩ := open_agg2 Try.underlying27 (by kernel_rfl) cells27 (hval 3 27 v3 rfl rfl) h3
  obtain ⟨num, rfl, wf30⟩ := trod_int_val Try.underlying3 hy30
  obtain ⟨den, rfl, wf31⟩ := trod_int_val Try.underlying3 hy31
  obtain ⟨t, rfl, rfl, rfl, w2⟩ := open_int Try.underlying3 (hval 2 3 v2 rfl rfl) h2
  obtain ⟨kc, rfl, bc⟩ := u64_nat wf00
  obtain ⟨km, rfl, bm⟩ := u64_nat wf01
  clear hA0 hval0
  refine (topScored_walk kc km bc bm A l n c t num den W hrd hn hlt).mono fun e W' ⟨he, bel⟩ => ?_
  subst he
  exact ⟨_, rfl, _, _, _, [], _, [], hW', trodAll_mk1 (shut_bool Try.underlying4 _), (trodAll_cons_mk (Below.trod Try.laidOut (by kernel_rfl) (of_decide_eq_true (by kernel_rfl)) k0 bel lt0) (trodAll_cons_mk (Below.trod Try.laidOut (by kernel_rfl) (of_decide_eq_true (by kernel_rfl)) k1 bel lt1) (trodAll_cons_mk (shut_int Try.underlying3 w2) (trodAll_cons_mk (Below.trod Try.laidOut (by kernel_rfl) (of_decide_eq_true (by kernel_rfl)) k3 bel lt3) trodAll_mk0)))), rfl, bel.frame _, fun h => by cases h⟩

theorem topScored_holds : Rows.TopScoredSaid :=
  OpenClaim.holds_of_wide 3 Try.f3 rfl rfl rfl rfl rfl rfl rfl ⟨rfl, rfl, rfl, rfl, rfl⟩ rfl rfl rfl rfl rfl (by kernel_rfl) Try.func3 (by kernel_rfl)
    (of_decide_eq_true (by kernel_rfl)) (by unfold Func.isWrapper; first | (rw [if_pos (by decide +kernel)]; kernel_rfl) | (rw [if_neg (by decide +kernel)]; exact ⟨rfl, rfl⟩))
    (fun os started H enc _ => topScored_lifted os started H enc)
#print axioms topScored_holds
end Go.Proofs.Ytmjbbihbcbhaoaa
