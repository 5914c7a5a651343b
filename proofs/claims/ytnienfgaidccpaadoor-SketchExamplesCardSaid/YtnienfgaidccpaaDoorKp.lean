/- Sketch: what the tied variable 'codes' gives; words and commitments as arguments. No condition. -/
import Derived.Test.YtnienfgaidccpaaDoorKo
import Derived.Test.YtnienfgaidccpaaDoorOpen
import Derived.Test.YtnienfgaidccpaaDoorTie
import Derived.LaidMore
import Derived.Stop.Joined
namespace Go.Proofs.YtnienfgaidccpaaDoor
open Go.ChangeShapes Go.WideShapes Go.ChangeAt Go.RowKit Go.Deep Go.Joins

theorem gCodes : Tryd.prog.globalNamed "whorl/sketch.codes" = some 0 := by kernel_rfl
theorem tCodes : (Tryd.prog.globals[0]?).map (·.type) = some 120 := by kernel_rfl
theorem cells94 : Tryd.prog.cellsOf 94 = 3 := by kernel_rfl
theorem cells25 : Tryd.prog.cellsOf 25 = 3 := by kernel_rfl
theorem cells41 : Tryd.prog.cellsOf 41 = 1 := by kernel_rfl
theorem cells3 : Tryd.prog.cellsOf 3 = 1 := by kernel_rfl
section
variable {H : Type} {enc : TypeId × Value → H} {W : World} {base : Nat} {sp : Nat → Bool} {held : Bool}
set_option maxRecDepth 100000 in
theorem code_cells {fuel : Nat} {cs : List Value} {x : DataW H × List MemPlace} (h : DataW.trod enc Tryd.prog W base sp held fuel 94 cs = some x) {a b c : Int} (hx : x.1 = .agg [.lit (.int .u16 a), .lit (.int .i64 b), .lit (.int .i64 c)]) :
    cs = [.int .u16 a, .int .i64 b, .int .i64 c] := by
  obtain ⟨xs, n, _, e1, hl, hn, hel⟩ := DataW.trod_struct Tryd.underlying94 h
  rw [cells94] at hl
  rw [e1] at hx
  simp only [DataW.agg.injEq] at hx
  have h0 := hel 0 _ rfl
  have h1 := hel 1 _ rfl
  have h2 := hel 2 _ rfl
  match cs, hl, xs, hx, h0, h1, h2 with
  | [c0, c1, c2], _, [x0, x1, x2], hx, h0, h1, h2 =>
    simp only [List.map_cons, List.map_nil, List.cons.injEq, and_true] at hx
    obtain ⟨n0, e0, f0, _⟩ := DataW.trod_int Tryd.underlying41 (show DataW.trod enc Tryd.prog W base sp held n 41 [c0] = some x0 by simpa [cells41] using h0)
    obtain ⟨n1, e1, f1, _⟩ := DataW.trod_int Tryd.underlying3 (show DataW.trod enc Tryd.prog W base sp held n 3 [c1] = some x1 by simpa [cells3] using h1)
    obtain ⟨n2, e2, f2, _⟩ := DataW.trod_int Tryd.underlying3 (show DataW.trod enc Tryd.prog W base sp held n 3 [c2] = some x2 by simpa [cells3] using h2)
    simp only [List.cons.injEq, and_true] at e0 e1 e2
    rw [f0, f1, f2] at hx
    simp only [DataW.lit.injEq, Lit.int.injEq, true_and] at hx
    rw [e0, e1, e2, hx.1, hx.2.1, hx.2.2]
/-- Words as an argument. -/
theorem open_words {fuel : Nat} {v : Value} {x : DataW H × List MemPlace} (h : DataW.trod enc Tryd.prog W base (fun _ => true) held fuel 22 [v] = some x) :
    ∃ (A : Option Addr) (l : List Nat) (n c : Nat), v = .slice A n c ∧ n = l.length ∧ Rd W A (u16s l) ∧ W16 l := by
  obtain ⟨A, l, n, c, e, hn, hr, hw, _, _⟩ := open_nums Tryd.underlying22 Tryd.underlying41 cells41 h
  have hb : ∀ y ∈ l, 0 ≤ y ∧ y ≤ 65535 := fun y hy => u16_in (hw y hy)
  have hl : (l.map Int.toNat).map (fun x : Nat => Value.int .u16 (x : Int)) = l.map (Value.int .u16) := by
    rw [List.map_map]
    apply List.map_congr_left
    intro y hy
    have := hb y hy
    simp only [Function.comp]
    rw [Int.toNat_of_nonneg this.1]
  refine ⟨A, l.map Int.toNat, n, c, e, by simpa using hn, ?_, ?_⟩
  · unfold u16s
    rw [hl]
    exact hr
  · intro y hy
    obtain ⟨z, hz, rfl⟩ := List.mem_map.1 hy
    have := hb z hz
    omega
end
set_option maxRecDepth 100000 in
/-- WHAT THE CONDITION GIVES THE WALKS: the table of the codes. -/
theorem of_laid {W : World} (h : laidMetH Tryd.prog [("whorl/sketch.codes", Rows.laid_whorl_sketch_codes)] W) : Cod W := by
  rw [MakeChecks.laidMetH_plain _ _ _ (by kernel_rfl)] at h
  obtain ⟨ps, ⟨g0, t0, cs0, f0, p0, q0, hg0, ht0, hv0, hd0, _, _⟩, _, _⟩ := h
  obtain rfl := Option.some.inj (gCodes.symm.trans hg0)
  obtain rfl := Option.some.inj (tCodes.symm.trans ht0)
  obtain ⟨xs, m, _, e1, hl, hn, hel⟩ := DataW.trod_array Tryd.underlying120 hd0
  have h0 := hel 0 (by decide)
  have h1 := hel 1 (by decide)
  have h2 := hel 2 (by decide)
  have h3 := hel 3 (by decide)
  rw [cells94] at h0 h1 h2 h3
  rw [show Tryd.prog.cellsOf 120 = 12 by kernel_rfl] at hl
  have hc := World.var?_cell hg0 hv0
  obtain ⟨L⟩ := cs0
  have hcs : L = codL := by
    simp only [Prod.mk.injEq] at e1
    obtain ⟨e1, _⟩ := e1
    simp only [Rows.laid_whorl_sketch_codes, DataW.agg.injEq] at e1
    match xs, hn, e1, h0, h1, h2, h3 with
    | [x0, x1, x2, x3], _, e1, h0, h1, h2, h3 =>
      simp only [List.map_cons, List.map_nil, List.cons.injEq, and_true] at e1
      obtain ⟨k0, k1, k2, k3⟩ := e1
      have d0 := code_cells (show DataW.trod _ Tryd.prog W 0 _ false m 94 _ = some x0 from h0) k0.symm
      have d1 := code_cells (show DataW.trod _ Tryd.prog W 0 _ false m 94 _ = some x1 from h1) k1.symm
      have d2 := code_cells (show DataW.trod _ Tryd.prog W 0 _ false m 94 _ = some x2 from h2) k2.symm
      have d3 := code_cells (show DataW.trod _ Tryd.prog W 0 _ false m 94 _ = some x3 from h3) k3.symm
      have hL : L = L.take 3 ++ ((L.drop 3).take 3 ++ ((L.drop 6).take 3 ++ (L.drop 9).take 3)) := by
        match L, hl with
        | [_, _, _, _, _, _, _, _, _, _, _, _], _ => rfl
      simp only [Nat.zero_mul, Nat.one_mul, List.drop_zero] at d0 d1 d2 d3
      rw [hL, d0, d1]
      rw [show 2 * 3 = 6 from rfl] at d2
      rw [show 3 * 3 = 9 from rfl] at d3
      rw [d2, d3]
      rfl
  subst hcs
  refine .inr ⟨0, 0, rfl, ?_, fun j u hu => ?_⟩
  · have := hc 0
    refine Classical.byContradiction fun hb => ?_
    have h0 : W.heap[0]? = none := Array.getElem?_eq_none (by omega)
    rw [show W.cell? ⟨0, 0, none⟩ = none by simp only [World.cell?, h0]] at this
    exact absurd this.symm (by simp [codL])
  · rw [Nat.zero_add, hc j, ← hu]
    simp
end Go.Proofs.YtnienfgaidccpaaDoor
