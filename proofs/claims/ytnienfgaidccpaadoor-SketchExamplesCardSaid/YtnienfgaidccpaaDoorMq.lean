/- Sketch: bytes and numbers as arguments. No condition. -/
import Derived.Test.YtnienfgaidccpaaDoorKp
import Derived.Test.YtnienfgaidccpaaDoorMc
import Derived.Test.YtnienfgaidccpaaDoorLa
namespace Go.Proofs.YtnienfgaidccpaaDoor
open Go.ChangeShapes Go.WideShapes Go.ChangeAt Go.RowKit Go.Deep Go.Joins

theorem cells5 : Tryd.prog.cellsOf 5 = 1 := by kernel_rfl
section
variable {H : Type} {enc : TypeId × Value → H} {W : World} {base : Nat} {sp : Nat → Bool} {held : Bool}
theorem open_bytes {fuel : Nat} {v : Value} {x : DataW H × List MemPlace} (h : DataW.trod enc Tryd.prog W base (fun _ => true) held fuel 45 [v] = some x) :
    ∃ (A : Option Addr) (l : List Nat) (n c : Nat), v = .slice A n c ∧ n = l.length ∧ Rd W A (u8s l) ∧ W8 l := by
  obtain ⟨A, l, n, c, e, hn, hr, hw, _, _⟩ := open_nums Tryd.underlying45 Tryd.underlying5 cells5 h
  have hb : ∀ y ∈ l, 0 ≤ y ∧ y ≤ 255 := fun y hy => u8_in (hw y hy)
  have hl : (l.map Int.toNat).map (fun x : Nat => Value.int .u8 (x : Int)) = l.map (Value.int .u8) := by
    rw [List.map_map]
    apply List.map_congr_left
    intro y hy
    have := hb y hy
    simp only [Function.comp]
    rw [Int.toNat_of_nonneg this.1]
  refine ⟨A, l.map Int.toNat, n, c, e, by simpa using hn, ?_, ?_⟩
  · unfold u8s
    rw [hl]
    exact hr
  · intro y hy
    obtain ⟨z, hz, rfl⟩ := List.mem_map.1 hy
    have := hb z hz
    omega
theorem open_ints {fuel : Nat} {v : Value} {x : DataW H × List MemPlace} (h : DataW.trod enc Tryd.prog W base (fun _ => true) held fuel 61 [v] = some x) :
    ∃ (A : Option Addr) (l : List Int) (n c : Nat), v = .slice A n c ∧ n = l.length ∧ Rd W A (i64s l) ∧ ∀ y ∈ l, (Lit.int .i64 y).wf = true := by
  obtain ⟨A, l, n, c, e, hn, hr, hw, _, _⟩ := open_nums Tryd.underlying61 Tryd.underlying3 cells3 h
  exact ⟨A, l, n, c, e, hn, hr, hw⟩
end
end Go.Proofs.YtnienfgaidccpaaDoor
