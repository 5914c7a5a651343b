/- A map from numbers to three numbers that the call made: how it is read and written. -/
import Derived.Test.YtalmeokljamhdaaNt
import Derived.Maps.Own
import Derived.Maps.OwnSet
import Derived.Maps.Views
namespace Go.Proofs.Ytalmeokljamhdaa
open Go.RowKit Go.Maps

structure Wt where
  before : Int
  calls : Int
  passed : Int
def wtV (x : Wt) : Value := .agg #[.int .i64 x.before, .int .i64 x.calls, .int .i64 x.passed]
def wtD (x : Wt) : DataW Unit := .agg [.lit (.int .i64 x.before), .lit (.int .i64 x.calls), .lit (.int .i64 x.passed)]
/-- How an element reads. -/
def wtR : Value → Option (DataW Unit × List MemPlace)
  | .agg ⟨[.int .i64 a, .int .i64 b, .int .i64 c]⟩ => some (wtD ⟨a, b, c⟩, [])
  | _ => none
theorem wtR_mk (x : Wt) : wtR (wtV x) = some (wtD x, []) := rfl
theorem wtR_inv {v : Value} {d : DataW Unit} {ps : List MemPlace} (h : wtR v = some (d, ps)) : ∃ x, v = wtV x ∧ d = wtD x := by
  unfold wtR at h
  split at h
  · injection h with h
    injection h with h _
    exact ⟨⟨_, _, _⟩, rfl, h.symm⟩
  · cases h
theorem wtD_inj {x y : Wt} (h : wtD x = wtD y) : x = y := by
  unfold wtD at h
  injection h with h
  injection h with h1 h
  injection h with h2 h
  injection h with h3 h
  injection h1 with h1; injection h2 with h2; injection h3 with h3
  injection h1 with _ h1; injection h2 with _ h2; injection h3 with _ h3
  cases x; cases y; simp_all
theorem keyed3 : Keyed Try.prog 3 := int_keyed Try.underlying3
theorem zero90 (w : World) : (zeroValue 90).run Try.prog w = .ok (wtV ⟨0, 0, 0⟩) w := by kernel_rfl
/-- Block b is a map that reads as f, with at most n entries. -/
def WMap (w : World) (b n : Nat) (f : Int → Wt) : Prop :=
  ∃ D : DataW Unit, w.ownsMap Try.prog 3 wtR b n D ∧ ∀ id : Int, (Lit.int .i64 id).wf = true → D.atKey (.int .i64 id) (wtD ⟨0, 0, 0⟩) = wtD (f id)
def upd (f : Int → Wt) (i : Int) (x : Wt) : Int → Wt := fun j => if j = i then x else f j
theorem WMap.alloc {w : World} {b n : Nat} {f : Int → Wt} (h : WMap w b n f) (o : Obj) : WMap (w.alloc o) b n f := by
  obtain ⟨D, h1, h2⟩ := h
  exact ⟨D, h1.alloc o, h2⟩
theorem WMap.set {w : World} {b n : Nat} {f : Int → Wt} (h : WMap w b n f) {B i : Nat} (hb : b ≠ B) (u : Value) : WMap (w.setCell ⟨B, i, none⟩ u) b n f := by
  obtain ⟨D, h1, h2⟩ := h
  exact ⟨D, h1.setCell hb u, h2⟩
theorem WMap.lt {w : World} {b n : Nat} {f : Int → Wt} (h : WMap w b n f) : b < w.heap.size := by
  obtain ⟨D, h1, _⟩ := h
  exact h1.lt
theorem WMap.ext {w w' : World} {b n : Nat} {f : Int → Wt} (h : WMap w b n f) (hb : Below w.heap.size w w') : WMap w' b n f := by
  obtain ⟨D, ⟨es, clock, g1, g2⟩, h2⟩ := h
  exact ⟨D, ⟨es, clock, (hb.block b (Array.getElem?_eq_some_iff.1 g1).1).trans g1, g2⟩, h2⟩
theorem WMap.mono {w : World} {b n n' : Nat} {f : Int → Wt} (h : WMap w b n f) (hn : n ≤ n') : WMap w b n' f := by
  obtain ⟨D, h1, h2⟩ := h
  exact ⟨D, h1.mono hn, h2⟩
theorem keyOf3 {id : Int} (h : (Lit.int .i64 id).wf = true) : keyOf Try.prog 3 (.int .i64 id) = some (.int .i64 id) := keyOf_int_mk Try.underlying3 h

theorem wpList_look_w {ops : Array Oper} {rest : List Oper} {o : Oper} {a : Act} {Q : Exit → Act → World → Prop} (w : World)
    (hg : o.guard = none) (m x : Operand) (hop : o.op = Op.lookup 86 m x false) (b n : Nat) (f : Int → Wt) (id : Int)
    (hm : a.eval m = .map (some b)) (hx : a.eval x = .int .i64 id)
    (hK : wpList Try.prog ops Q rest (a.put o.dst (wtV (f id))) w) (hown : WMap w b n f) (hid : (Lit.int .i64 id).wf = true) : wpList Try.prog ops Q (o :: rest) a w := by
  obtain ⟨D, h1, h2⟩ := hown
  refine wpList_plain hg fun K' hK' => ?_
  obtain ⟨v, ps, hrun, hv⟩ := h1.lookup keyed3 Try.underlying86 (zero90 w) (wtR_mk ⟨0, 0, 0⟩) (keyOf3 hid)
  obtain ⟨y, rfl, hy⟩ := wtR_inv hv
  rw [h2 id hid] at hy
  rw [← wtD_inj hy] at hrun
  unfold Oper.wp
  simp [execOp, hop, hm, hx, hrun, Result.andThen]
  exact hK' _ _ hK
theorem wpList_upd_w {ops : Array Oper} {rest : List Oper} {o : Oper} {a : Act} {Q : Exit → Act → World → Prop} (w : World)
    (hg : o.guard = none) (m x v : Operand) (hop : o.op = Op.mapUpdate 86 m x v) (b n : Nat) (f : Int → Wt) (id : Int) (y : Wt)
    (hm : a.eval m = .map (some b)) (hx : a.eval x = .int .i64 id) (hv : a.eval v = wtV y)
    (hK : ∀ w', WMap w' b (n + 1) (upd f id y) → w.grownBy w' (some b) → wpList Try.prog ops Q rest (a.put o.dst undef) w') (hown : WMap w b n f) (hid : (Lit.int .i64 id).wf = true) (hn : n < maxLen) : wpList Try.prog ops Q (o :: rest) a w := by
  obtain ⟨D, h1, h2⟩ := hown
  refine wpList_mapUpdate_own w hg m x v 86 hop 3 90 keyed3 Try.underlying86 wtR b n D hm h1 hn _ _ _ hx hv (keyOf3 hid) _ _ (wtR_mk y) ?_
  intro w' h3 h4
  refine hK w' ⟨_, h3, fun j hj => ?_⟩ h4
  unfold upd
  by_cases hji : j = id
  · subst hji
    rw [if_pos rfl, Maps.atKey_put_same h1.isMap (keyed3.key (keyOf3 hj))]
  · rw [if_neg hji, Maps.atKey_put_other (by intro e; injection e with _ e; exact hji e)]
    exact h2 j hj
theorem WMap.made (w : World) : WMap (w.alloc (.map #[] 0)) w.heap.size 0 (fun _ => ⟨0, 0, 0⟩) := ⟨.map [], World.ownsMap_made w _ _ _, fun _ _ => rfl⟩
theorem belX_grown {w w' : World} {b : Nat} (h : w.grownBy w' (some b)) : BelX w.heap.size b w w' := ⟨h.os, h.tape, h.output, h.size, fun k hk hx => h.block k hk (by intro e; injection e with e; exact hx e)⟩
theorem Ow.belX {w w' : World} {B X base : Nat} {A : Option Addr} {xs : List Value} (h : Ow w base A xs) (hb : BelX B X w w') (hB : w.heap.size ≤ B) (hx : X < base) : Ow w' base A xs := by
  rcases h with h | ⟨b, off, h1, h2, h3, h4, h5⟩
  · exact .inl h
  · exact .inr ⟨b, off, h1, h2, by have := hb.size; omega, fun j u hu => (hb.cell (p := ⟨b, off + j, none⟩) (by simp only; omega) (by simp only; omega)).trans (h4 j u hu), fun o => (World.frozen?_of_block (w := w) (a := ⟨b, o, none⟩) (hb.block b (by omega) (by omega))).trans (h5 o)⟩
end Go.Proofs.Ytalmeokljamhdaa
