/- Sketch: lists of lists of bytes as arguments. No condition. -/
import Derived.Test.YtnienfgaidccpaaDoorMq
import Derived.Test.YtnienfgaidccpaaDoorMh
namespace Go.Proofs.YtnienfgaidccpaaDoor
open Go.ChangeShapes Go.WideShapes Go.ChangeAt Go.RowKit Go.Deep Go.Joins

theorem cells45 : Tryd.prog.cellsOf 45 = 1 := by kernel_rfl
section
variable {H : Type} {enc : TypeId × Value → H} {W : World} {base : Nat} {sp : Nat → Bool} {held : Bool}
theorem open_bytess {fuel : Nat} {v : Value} {x : DataW H × List MemPlace} (h : DataW.trod enc Tryd.prog W base (fun _ => true) held fuel 77 [v] = some x) :
    ∃ (A : Option Addr) (l : List Bys) (n c : Nat), v = .slice A n c ∧ n = l.length ∧ Rd W A (l.map byV) ∧ ∀ b ∈ l, BysOk W b := by
  rcases open_slice Tryd.underlying77 h with ⟨h0, h1⟩ | ⟨a, len, cap, m, n, D, Pl, hcs, hb, hl, hm, hmm, hx, hi⟩
  · exact ⟨none, [], 0, 0, by simpa using h0, rfl, .inl rfl, fun y hy => by simp at hy⟩
  · have hmc : m = cap := by simpa using hmm
    obtain ⟨l, hll, hr, hq⟩ := rd_of_cells (Q := fun b : Bys => BysOk W b) (fun b => [byV b]) 1 (fun _ => rfl) (by omega) (w := W) (a := a) (n := len) (fun i hil => by
      obtain ⟨cs', hc, ht'⟩ := hi i (by omega)
      rw [cells45] at hc
      obtain ⟨_, hcl, hat⟩ := World.cells?_some hc
      obtain ⟨y, rfl⟩ := List.length_eq_one_iff.1 hcl
      obtain ⟨Ab, lb, nb, cb, rfl, hn, hr, hw⟩ := open_bytes ht'
      refine ⟨(Ab, lb, nb, cb), ⟨hn, hr⟩, fun j u hu => ?_⟩
      rcases j with _ | j
      · simp at hu
        subst hu
        have := hat 0 (by omega)
        rw [← Go.Deep.add_add, this]
        rfl
      · simp at hu)
    rw [flat_one] at hr
    exact ⟨some a, l, len, cap, by simpa using hcs, hll.symm, hr, hq⟩
end
end Go.Proofs.YtnienfgaidccpaaDoor
