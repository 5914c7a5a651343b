/- General lemmas on memory for the walks of this seat: slices that read as lists, worlds that only grow, append; no program in sight. General lemmas on memory, second part: append of one element onto a row of the call's own, in a plain region and in one that draws; no program in sight. General lemmas on memory, third part: what a call owns, piece by piece, each piece a block that no other one shares; no program in sight. General lemmas on ranges over a function: what a round of such a loop may do, with the pieces that the call owns; no program in sight. General lemmas on regions that draw their order: each slot by a word of its own, whatever the order; no program in sight. No condition. -/
import Derived.WalkKit
import Derived.WalkSpells
import Derived.WalkLawsBesides
import Derived.Lib.Hide
import Derived.Deep.QuietTactic
import Derived.BigQuiet
import Derived.Maps.AppendAt
import Derived.Deep.AppendLies
import Derived.RegionTactic
import Derived.Deep.RegionLaw
import Derived.Deep.DeepCutAuto
import Derived.Deep.RegionHeld3
import Derived.Deep.DrawnRows
import Derived.Laws.EntriesVeiled
import Derived.RangeFuncNested
import Derived.RangeFuncBound
import Derived.RangeFuncCalls
import Derived.RangeFuncLeaves
import Derived.Shelf.Abstract
import Derived.Shelf.RegionOpen
import Derived.OwnWalkIn
import Derived.TacticsInMore
import Derived.LoopNIn
import Derived.LoopIn
import Derived.BigGuardIn
namespace Go.Proofs.Ytmjbbihbcbhaoaa
open Go.RowKit

theorem below_drewN {B : Nat} {a w : World} (h : Below B a w) (n : Nat) : Below B a (w.drewN n) := ⟨h.os, h.tape, h.output, h.size, h.block⟩
theorem below_alloc (w : World) (o : Obj) : Below w.heap.size w (w.alloc o) := (Below.refl _ _).alloc (Nat.le_refl _) _
theorem below_step {w w1 w2 : World} (h : Below w.heap.size w w1) (k : Below w1.heap.size w1 w2) : Below w.heap.size w w2 := h.trans (k.mono h.size)

/-- The slice with the address A reads as the cells xs. -/
def Rd (w : World) (A : Option Addr) (xs : List Value) : Prop :=
  xs = [] ∨ ∃ b off, A = some ⟨b, off, none⟩ ∧ b < w.heap.size ∧ ∀ j u, xs[j]? = some u → w.cell? ⟨b, off + j, none⟩ = some u

/-- The same, in a block from base on, of which nothing is frozen. -/
def Ow (w : World) (base : Nat) (A : Option Addr) (xs : List Value) : Prop :=
  xs = [] ∨ ∃ b off, A = some ⟨b, off, none⟩ ∧ base ≤ b ∧ b < w.heap.size ∧ (∀ j u, xs[j]? = some u → w.cell? ⟨b, off + j, none⟩ = some u) ∧ ∀ o, w.frozen? ⟨b, o, none⟩ = false

theorem Rd.nil (w : World) (A : Option Addr) : Rd w A [] := .inl rfl
theorem Ow.nil (w : World) (base : Nat) (A : Option Addr) : Ow w base A [] := .inl rfl
theorem Ow.rd {w : World} {base : Nat} {A : Option Addr} {xs : List Value} (h : Ow w base A xs) : Rd w A xs := by
  rcases h with h | ⟨b, off, h1, _, h3, h4, _⟩
  · exact .inl h
  · exact .inr ⟨b, off, h1, h3, h4⟩
theorem Ow.mono {w : World} {base base' : Nat} {A : Option Addr} {xs : List Value} (h : Ow w base A xs) (hb : base' ≤ base) : Ow w base' A xs := by
  rcases h with h | ⟨b, off, h1, h2, h3, h4, h5⟩
  · exact .inl h
  · exact .inr ⟨b, off, h1, by omega, h3, h4, h5⟩
theorem Rd.keep {w w' : World} {A : Option Addr} {xs : List Value} (h : Rd w A xs) (hs : w.heap.size ≤ w'.heap.size) (hc : ∀ b o u, b < w.heap.size → w.cell? ⟨b, o, none⟩ = some u → w'.cell? ⟨b, o, none⟩ = some u) : Rd w' A xs := by
  rcases h with h | ⟨b, off, h1, h3, h4⟩
  · exact .inl h
  · exact .inr ⟨b, off, h1, by omega, fun j u hu => hc _ _ _ h3 (h4 j u hu)⟩
theorem Rd.below {w w' : World} {A : Option Addr} {xs : List Value} (h : Rd w A xs) (hb : Below w.heap.size w w') : Rd w' A xs :=
  h.keep hb.size fun b o _ hlt hu => (hb.cell (p := ⟨b, o, none⟩) hlt).trans hu
theorem Ow.below {w w' : World} {base : Nat} {A : Option Addr} {xs : List Value} (h : Ow w base A xs) (hb : Below w.heap.size w w') : Ow w' base A xs := by
  rcases h with h | ⟨b, off, h1, h2, h3, h4, h5⟩
  · exact .inl h
  · exact .inr ⟨b, off, h1, h2, by have := hb.size; omega, fun j u hu => (hb.cell (p := ⟨b, off + j, none⟩) h3).trans (h4 j u hu), fun o => (hb.frozen (p := ⟨b, o, none⟩) h3).trans (h5 o)⟩
theorem Rd.drewN {w : World} {A : Option Addr} {xs : List Value} (h : Rd w A xs) (n : Nat) : Rd (w.drewN n) A xs := h
theorem Ow.drewN {w : World} {base : Nat} {A : Option Addr} {xs : List Value} (h : Ow w base A xs) (n : Nat) : Ow (w.drewN n) base A xs := h
theorem Rd.at_ {w : World} {A : Option Addr} {xs : List Value} (h : Rd w A xs) {j : Nat} {u : Value} (hu : xs[j]? = some u) :
    ∃ b off, A = some ⟨b, off, none⟩ ∧ b < w.heap.size ∧ ∀ j u, xs[j]? = some u → w.cell? ⟨b, off + j, none⟩ = some u := by
  rcases h with h | h
  · subst h; simp at hu
  · exact h

/-- Lists of things that take so many cells each. -/
def flat {α : Type} (enc : α → List Value) (l : List α) : List Value := l.flatMap enc
theorem flat_nil {α : Type} (enc : α → List Value) : flat enc [] = [] := rfl
theorem flat_cons {α : Type} (enc : α → List Value) (x : α) (l : List α) : flat enc (x :: l) = enc x ++ flat enc l := by simp [flat]
theorem flat_append {α : Type} (enc : α → List Value) (l l' : List α) : flat enc (l ++ l') = flat enc l ++ flat enc l' := by simp [flat]
theorem flat_length {α : Type} (enc : α → List Value) (sz : Nat) (hsz : ∀ x, (enc x).length = sz) (l : List α) : (flat enc l).length = l.length * sz := by
  induction l with
  | nil => simp [flat]
  | cons x l ih => rw [flat_cons, List.length_append, ih, hsz, List.length_cons, Nat.add_mul]; omega
theorem flat_get {α : Type} (enc : α → List Value) (sz : Nat) (hsz : ∀ x, (enc x).length = sz) : ∀ (l : List α) (k : Nat) (x : α) (j : Nat), l[k]? = some x → j < sz → (flat enc l)[k * sz + j]? = (enc x)[j]? := by
  intro l
  induction l with
  | nil => intro k x j h; simp at h
  | cons y l ih =>
    intro k x j h hj
    rw [flat_cons]
    cases k with
    | zero =>
      simp at h
      subst h
      rw [Nat.zero_mul, Nat.zero_add, List.getElem?_append_left (by rw [hsz]; exact hj)]
    | succ k =>
      simp at h
      rw [List.getElem?_append_right (by rw [hsz, Nat.add_mul]; omega), hsz, ← ih k x j h hj]
      congr 1
      rw [Nat.add_mul]
      omega
theorem flat_take {α : Type} (enc : α → List Value) (sz : Nat) (hsz : ∀ x, (enc x).length = sz) : ∀ (l : List α) (n : Nat), (flat enc l).take (n * sz) = flat enc (l.take n) := by
  intro l
  induction l with
  | nil => intro n; simp [flat]
  | cons x l ih =>
    intro n
    cases n with
    | zero => simp [flat]
    | succ n =>
      rw [List.take_succ_cons, flat_cons, flat_cons, List.take_append, hsz, ← ih n, Nat.add_mul]
      rw [List.take_of_length_le (by rw [hsz]; omega)]
      congr 2
      omega
theorem flat_drop {α : Type} (enc : α → List Value) (sz : Nat) (hsz : ∀ x, (enc x).length = sz) : ∀ (l : List α) (n : Nat), (flat enc l).drop (n * sz) = flat enc (l.drop n) := by
  intro l
  induction l with
  | nil => intro n; simp [flat]
  | cons x l ih =>
    intro n
    cases n with
    | zero => simp [flat]
    | succ n =>
      rw [List.drop_succ_cons, flat_cons, List.drop_append, hsz, ← ih n, Nat.add_mul]
      rw [List.drop_of_length_le (by rw [hsz]; omega)]
      simp

/-- Element number k of such a slice: its address and its cells. -/
theorem Rd.elem {α : Type} {enc : α → List Value} {sz : Nat} (hsz : ∀ x, (enc x).length = sz) (h0 : 0 < sz) {w : World} {A : Option Addr} {l : List α} (h : Rd w A (flat enc l)) {k : Nat} (hk : k < l.length) :
    ∃ b off, A = some ⟨b, off, none⟩ ∧ b < w.heap.size ∧ ∀ j u, (enc l[k])[j]? = some u → w.cell? ⟨b, off + k * sz + j, none⟩ = some u := by
  have hx : l[k]? = some l[k] := List.getElem?_eq_getElem hk
  have h1 := flat_get enc sz hsz l k l[k] 0 hx h0
  have h2 : (enc l[k])[0]? = some ((enc l[k])[0]'(by rw [hsz]; exact h0)) := List.getElem?_eq_getElem _
  obtain ⟨b, off, hA, hb, hc⟩ := h.at_ (h1.trans h2)
  refine ⟨b, off, hA, hb, fun j u hu => ?_⟩
  have hj : j < sz := by
    have := (List.getElem?_eq_some_iff.1 hu).1
    rw [hsz] at this
    exact this
  rw [Nat.add_assoc]
  exact hc _ _ ((flat_get enc sz hsz l k l[k] j hx hj).trans hu)

theorem rd_of_own {w : World} {base : Nat} {e : TypeId} {size n : Nat} {v : Value} {xs : List Value} (h : w.ownsRow base e size v n xs) : ∃ A c, v = .slice A n c ∧ Ow w base A xs := by
  rcases h.2 with ⟨rfl, rfl⟩ | ⟨g, cap, cur, rfl, hg, hh, h1, h2, h3, h4⟩
  · exact ⟨none, 0, rfl, .inl (List.eq_nil_of_length_eq_zero (by simpa using h.1))⟩
  · refine ⟨_, _, rfl, .inr ⟨g, 0, rfl, hg, (Array.getElem?_eq_some_iff.1 hh).1, fun j u hu => ?_, fun o => by simp [World.frozen?, hh]⟩⟩
    have hj : j < xs.length := (List.getElem?_eq_some_iff.1 hu).1
    simp only [World.cell?, hh, Nat.zero_add]
    rw [← h4, List.getElem?_take] at hu
    split at hu
    · simpa using hu
    · cases hu
theorem own_ext {w w' : World} {base : Nat} {e : TypeId} {size n : Nat} {v : Value} {xs : List Value} (h : w.ownsRow base e size v n xs) (hb : Below w.heap.size w w') : w'.ownsRow base e size v n xs := by
  refine ⟨h.1, ?_⟩
  rcases h.2 with h2 | ⟨g, cap, cur, hv, hg, hh, r⟩
  · exact .inl h2
  · exact .inr ⟨g, cap, cur, hv, hg, (hb.block g (Array.getElem?_eq_some_iff.1 hh).1).trans hh, r⟩
theorem own_cast {w : World} {base : Nat} {e : TypeId} {size n n' : Nat} {v : Value} {xs xs' : List Value} (h : w.ownsRow base e size v n xs) (hn : n = n') (hx : xs = xs') : w.ownsRow base e size v n' xs' := by
  subst hn; subst hx; exact h
theorem below_more {a w : World} (h : Below a.heap.size a w) (o : Obj) : Below a.heap.size a (w.alloc o) := h.alloc h.size o
theorem bcell {B : Nat} {W w1 : World} (hb : Below B W w1) : (∀ b o, b < B → w1.cell? ⟨b, o, none⟩ = W.cell? ⟨b, o, none⟩) ∧ (∀ b o, b < B → w1.frozen? ⟨b, o, none⟩ = W.frozen? ⟨b, o, none⟩) :=
  ⟨fun b o h => hb.cell (p := ⟨b, o, none⟩) h, fun b o h => hb.frozen (p := ⟨b, o, none⟩) h⟩
theorem own_mono {w : World} {base base' : Nat} {e : TypeId} {size n : Nat} {v : Value} {xs : List Value} (h : w.ownsRow base e size v n xs) (hb : base' ≤ base) : w.ownsRow base' e size v n xs := by
  refine ⟨h.1, ?_⟩
  rcases h.2 with h2 | ⟨g, cap, cur, hv, hg, hh, r⟩
  · exact .inl h2
  · exact .inr ⟨g, cap, cur, hv, by omega, hh, r⟩
theorem own_empty (w : World) (base : Nat) (e : TypeId) (size : Nat) (g : Nat) (hg : base ≤ g) (hh : w.heap[g]? = some (.cells #[] e (0, 0))) : w.ownsRow base e size (.slice (some ⟨g, 0, none⟩) 0 0) 0 [] :=
  ⟨by simp, .inr ⟨g, 0, #[], rfl, hg, hh, Nat.le_refl _, by decide, by simp, by simp⟩⟩
theorem own_empty_new (w : World) (base : Nat) (e : TypeId) (size : Nat) (n : Nat) (hn : n = w.heap.size) (hg : base ≤ n) : (w.alloc (.cells #[] e)).ownsRow base e size (.slice (some ⟨n, 0, none⟩) 0 0) 0 [] :=
  own_empty _ _ _ _ _ hg (by subst hn; exact heap_alloc_new w _)
theorem own_set {w : World} {base : Nat} {e : TypeId} {size n : Nat} {v : Value} {xs : List Value} (h : w.ownsRow base e size v n xs) {b o : Nat} (hb : b < base) (u : Value) : (w.setCell ⟨b, o, none⟩ u).ownsRow base e size v n xs :=
  ownsRow_setCell_below h hb u
theorem below_of_own {w w' : World} {base : Nat} {e : TypeId} {size n : Nat} {v : Value} {xs : List Value} (h : w.ownsRow base e size v n xs) (hg : w.grownBy w' v.ownBlock) (hb : base ≤ w.heap.size) : Below base w w' := by
  refine (Below.refl _ _).grown hg hb fun k hk => ?_
  rcases h.2 with ⟨rfl, _⟩ | ⟨g, cap, cur, rfl, hg', _⟩
  · simp [Value.ownBlock] at hk
  · simp [Value.ownBlock] at hk
    omega
theorem below_of_grown {w w' : World} (hg : w.grownBy w' none) : Below w.heap.size w w' := (Below.refl _ _).grown hg (Nat.le_refl _) (by simp)

theorem own_cap {w : World} {base : Nat} {e : TypeId} {size n c : Nat} {A : Option Addr} {xs : List Value} (h : w.ownsRow base e size (.slice A n c) n xs) : n ≤ c := by
  rcases h.2 with ⟨h1, rfl⟩ | ⟨g, cap, cur, h1, _, _, h2, _⟩
  · exact Nat.zero_le _
  · injection h1 with _ _ h1
    omega

/-- A block of the call's own whose first cells are cs. -/
def Box (w : World) (B : Nat) (cs : List Value) : Prop := (∀ i u, cs[i]? = some u → w.cell? ⟨B, i, none⟩ = some u) ∧ (∀ o, w.frozen? ⟨B, o, none⟩ = false) ∧ B < w.heap.size
theorem Box.new (w : World) (t : TypeId) (cs : Array Value) : Box (w.alloc (.cells cs t)) w.heap.size cs.toList :=
  ⟨fun i u h => by rw [World.cell?_alloc_new]; simpa using h, fun o => World.frozen?_alloc_new w cs t o, by simp⟩
theorem Box.alloc {w : World} {B : Nat} {cs : List Value} (h : Box w B cs) (o : Obj) : Box (w.alloc o) B cs :=
  ⟨fun i u hu => (World.cell?_alloc_lt w o ⟨B, i, none⟩ h.2.2).trans (h.1 i u hu), fun i => (World.frozen?_alloc_old w o ⟨B, i, none⟩ (Nat.ne_of_lt h.2.2)).trans (h.2.1 i), by have := h.2.2; simp; omega⟩
theorem Box.below {w w' : World} {B B' : Nat} {cs : List Value} (h : Box w B cs) (hb : Below B' w w') (hB : B < B') : Box w' B cs :=
  ⟨fun i u hu => (hb.cell (p := ⟨B, i, none⟩) hB).trans (h.1 i u hu), fun i => (hb.frozen (p := ⟨B, i, none⟩) hB).trans (h.2.1 i), by have := hb.size; have := h.2.2; omega⟩
theorem Box.ext {w w' : World} {B : Nat} {cs : List Value} (h : Box w B cs) (hb : Below w.heap.size w w') : Box w' B cs := h.below hb h.2.2
theorem Box.drewN {w : World} {B : Nat} {cs : List Value} (h : Box w B cs) (n : Nat) : Box (w.drewN n) B cs := h
theorem Box.set {w : World} {B i : Nat} {cs : List Value} (h : Box w B cs) (v : Value) (hi : i < cs.length) : Box (w.setCell ⟨B, i, none⟩ v) B (cs.set i v) := by
  refine ⟨fun j u hu => ?_, fun o => by rw [World.frozen?_setCell]; exact h.2.1 o, by simpa using h.2.2⟩
  by_cases hij : i = j
  · subst hij
    rw [World.cell?_setCell_same w _ v (h.1 i _ (List.getElem?_eq_getElem hi))]
    rw [List.getElem?_set_self hi] at hu
    exact hu
  · rw [World.cell?_setCell_other w _ _ v (by intro e; injection e with _ e; exact hij e)]
    rw [List.getElem?_set_ne hij] at hu
    exact h.1 j u hu
theorem Box.far {w : World} {B B' i : Nat} {cs : List Value} (h : Box w B cs) (v : Value) (hne : B' ≠ B) : Box (w.setCell ⟨B', i, none⟩ v) B cs := by
  refine ⟨fun j u hu => ?_, fun o => by rw [World.frozen?_setCell]; exact h.2.1 o, by simpa using h.2.2⟩
  rw [World.cell?_setCell_other w _ _ v (by intro e; injection e with e _; exact hne e)]
  exact h.1 j u hu
theorem Box.c1 {w : World} {B : Nat} {x : Value} (h : Box w B [x]) : w.cell? ⟨B, 0, none⟩ = some x ∧ ∀ o, w.frozen? ⟨B, o, none⟩ = false := ⟨h.1 0 _ rfl, h.2.1⟩
theorem Box.c2 {w : World} {B : Nat} {x y : Value} (h : Box w B [x, y]) : w.cell? ⟨B, 0, none⟩ = some x ∧ w.cell? ⟨B, 1, none⟩ = some y ∧ ∀ o, w.frozen? ⟨B, o, none⟩ = false := ⟨h.1 0 _ rfl, h.1 1 _ rfl, h.2.1⟩
theorem Box.c3 {w : World} {B : Nat} {x y z : Value} (h : Box w B [x, y, z]) : w.cell? ⟨B, 0, none⟩ = some x ∧ w.cell? ⟨B, 1, none⟩ = some y ∧ w.cell? ⟨B, 2, none⟩ = some z ∧ ∀ o, w.frozen? ⟨B, o, none⟩ = false := ⟨h.1 0 _ rfl, h.1 1 _ rfl, h.1 2 _ rfl, h.2.1⟩
theorem Box.c4 {w : World} {B : Nat} {x y z u : Value} (h : Box w B [x, y, z, u]) : w.cell? ⟨B, 0, none⟩ = some x ∧ w.cell? ⟨B, 1, none⟩ = some y ∧ w.cell? ⟨B, 2, none⟩ = some z ∧ w.cell? ⟨B, 3, none⟩ = some u ∧ ∀ o, w.frozen? ⟨B, o, none⟩ = false := ⟨h.1 0 _ rfl, h.1 1 _ rfl, h.1 2 _ rfl, h.1 3 _ rfl, h.2.1⟩
theorem Box.c5 {w : World} {B : Nat} {x y z u v : Value} (h : Box w B [x, y, z, u, v]) : w.cell? ⟨B, 0, none⟩ = some x ∧ w.cell? ⟨B, 1, none⟩ = some y ∧ w.cell? ⟨B, 2, none⟩ = some z ∧ w.cell? ⟨B, 3, none⟩ = some u ∧ w.cell? ⟨B, 4, none⟩ = some v ∧ ∀ o, w.frozen? ⟨B, o, none⟩ = false := ⟨h.1 0 _ rfl, h.1 1 _ rfl, h.1 2 _ rfl, h.1 3 _ rfl, h.1 4 _ rfl, h.2.1⟩

/-! A region that draws its order, whose operations read, and whose callees make memory at most. -/
structure ExtOf (w : World) where
  wld : World
  ext : Below w.heap.size w wld
theorem ExtOf.cell_lt {w : World} (x : ExtOf w) (b o : Nat) (h : b < w.heap.size) : x.wld.cell? ⟨b, o, none⟩ = w.cell? ⟨b, o, none⟩ := x.ext.cell (p := ⟨b, o, none⟩) h
theorem ExtOf.frozen_lt {w : World} (x : ExtOf w) (b o : Nat) (h : b < w.heap.size) : x.wld.frozen? ⟨b, o, none⟩ = w.frozen? ⟨b, o, none⟩ := x.ext.frozen (p := ⟨b, o, none⟩) h
attribute [go_sem] ExtOf.cell_lt ExtOf.frozen_lt
theorem wp_region_ext {P : Program} {id : Nat} {Q : Exit → Act → World → Prop} {a : Act} {w : World} {l : List Oper} (hm : P.follows .mixedOrders = true) (hB : Region.lexB .any l.toArray = true)
    (h : wpQuiet P l.toArray (fun w' => ∃ x : ExtOf w, w' = x.wld) (fun a' => ∀ w', (∃ x : ExtOf w, w' = x.wld) → Q .normal a' w') l a) : (Code.region id l.toArray true).wp P Q a w :=
  wp_region_quiet (C := fun w' => ∃ x : ExtOf w, w' = x.wld) hm hB ⟨⟨w.drew, (Below.refl _ _).drew⟩, rfl⟩ (by simpa using h)
theorem ext_of {P : Program} {f : FuncId} {args : Array Value} {w : World} {x : ExtOf w} {v : Value}
    (h : Calls P f args x.wld fun e w' => e = .returned v ∧ Below x.wld.heap.size x.wld w') : Calls P f args x.wld fun e w'' => e = .returned v ∧ ∃ y : ExtOf w, w'' = y.wld :=
  h.mono fun _ w' ⟨he, hb⟩ => ⟨he, ⟨w', below_step x.ext hb⟩, rfl⟩
theorem ext_same {P : Program} {f : FuncId} {args : Array Value} {w : World} {x : ExtOf w} {v : Value}
    (h : Calls P f args x.wld fun e w' => e = .returned v ∧ x.wld = w') : Calls P f args x.wld fun e w'' => e = .returned v ∧ ∃ y : ExtOf w, w'' = y.wld :=
  h.mono fun _ _ ⟨he, hb⟩ => ⟨he, x, hb.symm⟩

/-! append: onto a row of the call's own; onto a slice without spare room. -/
section
variable {P : Program} (w : World)
theorem rd_news {w : World} {A : Option Addr} {xs : List Value} (h : Rd w A xs) {ad : Addr} (hA : A = some ad) : ∀ j u, xs[j]? = some u → w.cell? (ad.add j) = some u := by
  intro j u hu
  obtain ⟨b, off, h1, _, h2⟩ := h.at_ hu
  rw [hA] at h1
  injection h1 with h1
  subst h1
  rw [Addr.add_lit]
  exact h2 j u hu

theorem run_app_own (base : Nat) (t ty e : TypeId) (i : TypeInfo) (z : Value) (size bytes : Nat) (ht : P.underlying t = some (.slice e)) (hi : P.info? e = some i) (hz : i.zero = some z)
    (hsize : i.size = size) (hby : i.bytes = bytes) (hzs : z.cells.size = size) (hsz : 0 < size)
    (v : Value) (n : Nat) (xs : List Value) (hown : w.ownsRow base e size v n xs)
    (A : Option Addr) (m c : Nat) (news : List Value) (hr : Rd w A news) (hm : news.length = m * size) (h1 : ∀ u ∈ news, u.oneCell' = true)
    (h63 : n + m ≤ maxLen) (hbytes : (n + m) * bytes ≤ 140737488355328) (hbase : base ≤ w.heap.size) :
    ∃ v' w', (Builtin.append_ #[t, t] ty #[v, .slice A m c]).run P w = .ok v' w' ∧ w'.ownsRow base e size v' (n + m) (xs ++ news) ∧ w.grownBy w' v.ownBlock ∧
      (v'.ownBlock = v.ownBlock ∨ v'.ownBlock = some w.heap.size) := by
  rcases A with _ | ad
  · have hn : news = [] := by
      rcases hr with h | ⟨b, off, h, _⟩
      · exact h
      · cases h
    subst hn
    have hm0 : m = 0 := by
      rcases Nat.eq_zero_or_pos m with h0 | h0
      · exact h0
      · have := Nat.mul_pos h0 hsz
        simp at hm
        omega
    subst hm0
    refine ⟨v, w, ?_, by simpa using hown, World.grownBy.refl w _, .inl rfl⟩
    rcases hown.2 with ⟨rfl, rfl⟩ | ⟨g, cap, cur, rfl, _, _, hnc, _⟩
    · simp [Builtin.append_, run_underlying ht, sizeOf, typeInfo, hi, Builtin.lenOf, Builtin.firstCells]
    · simp [Builtin.append_, run_underlying ht, sizeOf, typeInfo, hi, Builtin.lenOf, Builtin.firstCells, hnc, storeCells]
  · obtain ⟨v', w', hrun, h2, h3, _, h5⟩ := run_append_own_at (P := P) w base t ty e i z size bytes ht hi hz hsize hby hzs hsz v n xs hown ad m c news hm (rd_news hr rfl) h1 h63 hbytes hbase
    exact ⟨v', w', hrun, h2, h3, h5⟩

/-- What becomes of an append onto a slice without spare room. -/
def FullApp (w : World) (base : Nat) (e size : Nat) (A : Option Addr) (olds : List Value) (m N : Nat) (XS : List Value) (A' : Option Addr) (c' : Nat) (w' : World) : Prop :=
  Below w.heap.size w w' ∧ (Ow w base A olds → base ≤ w.heap.size → Ow w' base A' XS) ∧ Rd w' A' XS ∧ (0 < m → w'.ownsRow w.heap.size e size (.slice A' N c') N XS) ∧ N ≤ c'

theorem run_app_full (base : Nat) (t ty e : TypeId) (i : TypeInfo) (z : Value) (size bytes : Nat) (ht : P.underlying t = some (.slice e)) (hi : P.info? e = some i) (hz : i.zero = some z)
    (hsize : i.size = size) (hby : i.bytes = bytes) (hzs : z.cells.size = size) (hsz : 0 < size)
    (A : Option Addr) (n : Nat) (olds : List Value) (ho : Rd w A olds) (hn : olds.length = n * size)
    (A2 : Option Addr) (m c : Nat) (news : List Value) (hr : Rd w A2 news) (hm : news.length = m * size) (h1 : ∀ u ∈ news, u.oneCell' = true)
    (h63 : n + m ≤ maxLen) (hbytes : (n + m) * bytes ≤ 140737488355328) :
    ∃ A' c' w', (Builtin.append_ #[t, t] ty #[.slice A n n, .slice A2 m c]).run P w = .ok (.slice A' (n + m) c') w' ∧ FullApp w base e size A olds m (n + m) (olds ++ news) A' c' w' := by
  rcases Nat.eq_zero_or_pos m with h0 | h0
  · subst h0
    have hnn : news = [] := List.eq_nil_of_length_eq_zero (by simpa using hm)
    subst hnn
    refine ⟨A, n, w, ?_, Below.refl _ _, fun h _ => by simpa using h, by simpa using ho, fun h => absurd h (by omega), Nat.le_refl _⟩
    rcases A2 with _ | ad
    · cases A <;> simp [Builtin.append_, run_underlying ht, sizeOf, typeInfo, hi, Builtin.lenOf, Builtin.firstCells, storeCells]
    · have hl : (loadCells ad 0).run P w = .ok #[] w := by simpa [Builtin.firstCells] using run_firstCells_some (P := P) w size 0 ad 0 c [] (by simp) (by simp)
      cases A <;> simp [Builtin.append_, run_underlying ht, sizeOf, typeInfo, hi, Builtin.lenOf, Builtin.firstCells, storeCells, hl]
  · have hA2 : ∃ ad, A2 = some ad := by
      rcases hr with h | ⟨b, off, h, _⟩
      · subst h
        have := Nat.mul_pos h0 hsz
        simp at hm
        omega
      · exact ⟨_, h⟩
    obtain ⟨ad, rfl⟩ := hA2
    rcases A with _ | b
    · have holds : olds = [] := by
        rcases ho with h | ⟨b, off, h, _⟩
        · exact h
        · cases h
      subst holds
      have hn0 : n = 0 := by
        rcases Nat.eq_zero_or_pos n with h' | h'
        · exact h'
        · have := Nat.mul_pos h' hsz
          simp at hn
          omega
      subst hn0
      obtain ⟨v', w', hrun, r1, r2, _⟩ := run_append_own (P := P) w w.heap.size t ty e i z size bytes ht hi hz hsize hby hzs hsz (.slice none 0 0) 0 [] (World.ownsRow_nil w _ e size) ad m c news hm (rd_news hr rfl) h1 h63 hbytes (Nat.le_refl _)
      obtain ⟨A', c', rfl, hw⟩ := rd_of_own r1
      exact ⟨A', c', w', hrun, below_of_grown (by simpa [Value.ownBlock] using r2), fun _ hb => hw.mono hb, hw.rd, fun _ => r1, own_cap r1⟩
    · obtain ⟨v', w', hrun, r1, r2⟩ := run_append_arg_grows (P := P) w t ty e i z size bytes ht hi hz hsize hby hzs hsz b n n olds hn (rd_news ho rfl) ad m c news hm (rd_news hr rfl) (by omega) h63 hbytes
      obtain ⟨A', c', rfl, hw⟩ := rd_of_own r1
      exact ⟨A', c', w', hrun, below_of_grown r2, fun _ hb => hw.mono hb, hw.rd, fun _ => r1, own_cap r1⟩

theorem wp_app {o : Oper} {a : Act} {K : Act → World → Prop} {Q : Exit → Act → World → Prop} (s x : Operand) (t : TypeId)
    (ho : o.op = .call { callee := .builtin .append, args := #[s, x], argTypes := #[t, t] }) (v u : Value) (hs : a.eval s = v) (hx : a.eval x = u) {v' : Value} {w' : World}
    (hrun : (Builtin.append_ #[t, t] o.type #[v, u]).run P w = .ok v' w') (h : K (a.put o.dst v') w') : o.wp P a w K Q := by
  unfold Oper.wp execOp
  simp only [ho, resolve, invoke, builtin, Sem.run_bind, Sem.run_pure, Result.andThen_ok, List.map_toArray, List.map_cons, List.map_nil, hs, hx, hrun]
  exact h

theorem wpList_app_own {ops : Array Oper} {rest : List Oper} {o : Oper} {a : Act} {Q : Exit → Act → World → Prop} (hgd : o.guard = none) (s x : Operand) (t : TypeId)
    (ho : o.op = .call { callee := .builtin .append, args := #[s, x], argTypes := #[t, t] })
    (base : Nat) (e : TypeId) (i : TypeInfo) (z : Value) (size bytes : Nat) (ht : P.underlying t = some (.slice e)) (hi : P.info? e = some i) (hz : i.zero = some z)
    (hsize : i.size = size) (hby : i.bytes = bytes) (hzs : z.cells.size = size) (hsz : 0 < size)
    (v : Value) (n : Nat) (xs : List Value) (hs : a.eval s = v)
    (A : Option Addr) (m c : Nat) (news : List Value) (hx : a.eval x = .slice A m c) (N : Nat) (XS : List Value)
    (h : ∀ A' c' w', w'.ownsRow base e size (.slice A' N c') N XS → Below base w w' → w.grownBy w' v.ownBlock → ((Value.slice A' N c').ownBlock = v.ownBlock ∨ (Value.slice A' N c').ownBlock = some w.heap.size) → wpList P ops Q rest (a.put o.dst (.slice A' N c')) w')
    (hN : n + m = N) (hX : xs ++ news = XS) (hown : w.ownsRow base e size v n xs) (hr : Rd w A news) (hm : news.length = m * size) (h1 : ∀ u ∈ news, u.oneCell' = true)
    (h63 : n + m ≤ maxLen) (hbytes : (n + m) * bytes ≤ 140737488355328) (hbase : base ≤ w.heap.size) : wpList P ops Q (o :: rest) a w := by
  obtain ⟨v', w', hrun, h2, h3, h4⟩ := run_app_own (P := P) w base t o.type e i z size bytes ht hi hz hsize hby hzs hsz v n xs hown A m c news hr hm h1 h63 hbytes hbase
  subst hN; subst hX
  obtain ⟨A', c', rfl, _⟩ := rd_of_own h2
  exact wpList_plain hgd fun _ hK => wp_app w s x t ho v _ hs hx hrun (hK _ _ (h A' c' w' h2 (below_of_own hown h3 hbase) h3 h4))

theorem wpList_app_full {ops : Array Oper} {rest : List Oper} {o : Oper} {a : Act} {Q : Exit → Act → World → Prop} (hgd : o.guard = none) (s x : Operand) (t : TypeId)
    (ho : o.op = .call { callee := .builtin .append, args := #[s, x], argTypes := #[t, t] })
    (base : Nat) (e : TypeId) (i : TypeInfo) (z : Value) (size bytes : Nat) (ht : P.underlying t = some (.slice e)) (hi : P.info? e = some i) (hz : i.zero = some z)
    (hsize : i.size = size) (hby : i.bytes = bytes) (hzs : z.cells.size = size) (hsz : 0 < size)
    (A1 : Option Addr) (n : Nat) (olds : List Value) (hs : a.eval s = .slice A1 n n)
    (A : Option Addr) (m c : Nat) (news : List Value) (hx : a.eval x = .slice A m c) (N : Nat) (XS : List Value)
    (h : ∀ A' c' w', FullApp w base e size A1 olds m N XS A' c' w' → wpList P ops Q rest (a.put o.dst (.slice A' N c')) w')
    (hN : n + m = N) (hX : olds ++ news = XS) (hr1 : Rd w A1 olds) (hn : olds.length = n * size) (hr : Rd w A news) (hm : news.length = m * size) (h1 : ∀ u ∈ news, u.oneCell' = true)
    (h63 : n + m ≤ maxLen) (hbytes : (n + m) * bytes ≤ 140737488355328) : wpList P ops Q (o :: rest) a w := by
  obtain ⟨A', c', w', hrun, h2⟩ := run_app_full (P := P) w base t o.type e i z size bytes ht hi hz hsize hby hzs hsz A1 n olds hr1 hn A m c news hr hm h1 h63 hbytes
  subst hN; subst hX
  exact wpList_plain hgd fun _ hK => wp_app w s x t ho _ _ hs hx hrun (hK _ _ (h A' c' w' h2))

theorem step_app_full {ops : Array Oper} {o : Oper} {a : Act} {K : Act → World → Prop} {Q : Exit → Act → World → Prop} {E : Prop} (hgd : o.guard = none) (s x : Operand) (t : TypeId)
    (ho : o.op = .call { callee := .builtin .append, args := #[s, x], argTypes := #[t, t] })
    (base : Nat) (e : TypeId) (i : TypeInfo) (z : Value) (size bytes : Nat) (ht : P.underlying t = some (.slice e)) (hi : P.info? e = some i) (hz : i.zero = some z)
    (hsize : i.size = size) (hby : i.bytes = bytes) (hzs : z.cells.size = size) (hsz : 0 < size)
    (A1 : Option Addr) (n : Nat) (olds : List Value) (hs : a.eval s = .slice A1 n n)
    (A : Option Addr) (m c : Nat) (news : List Value) (hx : a.eval x = .slice A m c) (N : Nat) (XS : List Value)
    (h : ∀ A' c' w', FullApp w base e size A1 olds m N XS A' c' w' → K (a.put o.dst (.slice A' N c')) w')
    (hN : n + m = N) (hX : olds ++ news = XS) (hr1 : Rd w A1 olds) (hn : olds.length = n * size) (hr : Rd w A news) (hm : news.length = m * size) (h1 : ∀ u ∈ news, u.oneCell' = true)
    (h63 : n + m ≤ maxLen) (hbytes : (n + m) * bytes ≤ 140737488355328) :
    if Region.wanted o (yielded ops a.tmps) = true then Oper.wp P o a w K Q else E := by
  obtain ⟨A', c', w', hrun, h2⟩ := run_app_full (P := P) w base t o.type e i z size bytes ht hi hz hsize hby hzs hsz A1 n olds hr1 hn A m c news hr hm h1 h63 hbytes
  subst hN; subst hX
  have hw : Region.wanted o (yielded ops a.tmps) = true := by simp [Region.wanted, hgd]
  rw [if_pos hw]
  exact wp_app w s x t ho _ _ hs hx hrun (h A' c' w' h2)
end

theorem ret_int {k : IntKind} {a b : Int} (h : a = b) : Ending.returned (.int k a) = .returned (.int k b) := by rw [h]
end Go.Proofs.Ytmjbbihbcbhaoaa

namespace Go.Proofs.Ytmjbbihbcbhaoaa
open Go.RowKit

theorem own_one (w : World) (u : Value) (e : TypeId) : (w.alloc (.cells #[u] e)).ownsRow w.heap.size e 1 (.slice (some ⟨w.heap.size, 0, none⟩) 1 1) 1 [u] :=
  ⟨by simp, .inr ⟨w.heap.size, 1, #[u], rfl, Nat.le_refl _, heap_alloc_new w _, Nat.le_refl _, by decide, by simp, by simp⟩⟩
theorem own_one' (w : World) (u : Value) (e : TypeId) {B base : Nat} (hB : B = w.heap.size) (hb : base ≤ B) : (w.alloc (.cells #[u] e)).ownsRow base e 1 (.slice (some ⟨B, 0, none⟩) 1 1) 1 [u] := by
  subst hB
  exact own_mono (own_one w u e) hb
section
variable {P : Program} (w : World)
theorem run_app1 (base : Nat) (t ty e : TypeId) (i : TypeInfo) (z : Value) (bytes : Nat) (ht : P.underlying t = some (.slice e)) (hi : P.info? e = some i) (hz : i.zero = some z)
    (hsize : i.size = 1) (hby : i.bytes = bytes) (hzs : z.cells.size = 1)
    (v : Value) (n : Nat) (xs : List Value) (hown : w.ownsRow base e 1 v n xs)
    (B : Nat) (u : Value) (hc : w.cell? ⟨B, 0, none⟩ = some u) (h1 : u.oneCell' = true)
    (h63 : n + 1 ≤ maxLen) (hbytes : (n + 1) * bytes ≤ 140737488355328) (hbase : base ≤ w.heap.size) :
    ∃ A' c' w', (Builtin.append_ #[t, t] ty #[v, .slice (some ⟨B, 0, none⟩) 1 1]).run P w = .ok (.slice A' (n + 1) c') w' ∧ w'.ownsRow base e 1 (.slice A' (n + 1) c') (n + 1) (xs ++ [u]) ∧ Below base w w' ∧ w.grownBy w' v.ownBlock ∧
      ((Value.slice A' (n + 1) c').ownBlock = v.ownBlock ∨ (Value.slice A' (n + 1) c').ownBlock = some w.heap.size) := by
  obtain ⟨v', w', hrun, h2, h3, h4⟩ := run_app_own (P := P) w base t ty e i z 1 bytes ht hi hz hsize hby hzs (by decide) v n xs hown (some ⟨B, 0, none⟩) 1 1 [u]
    (.inr ⟨B, 0, rfl, World.block_lt_of_cell? w _ hc, fun j x hj => by
      rcases j with _ | j
      · simp at hj; subst hj; exact hc
      · simp at hj⟩) rfl (by simpa using h1) h63 hbytes hbase
  obtain ⟨A', c', rfl, _⟩ := rd_of_own h2
  exact ⟨A', c', w', hrun, h2, below_of_own hown h3 hbase, h3, h4⟩

theorem wpList_app1 {ops : Array Oper} {rest : List Oper} {o : Oper} {a : Act} {Q : Exit → Act → World → Prop} (hgd : o.guard = none) (s x : Operand) (t : TypeId)
    (ho : o.op = .call { callee := .builtin .append, args := #[s, x], argTypes := #[t, t] })
    (base : Nat) (e : TypeId) (i : TypeInfo) (z : Value) (bytes : Nat) (ht : P.underlying t = some (.slice e)) (hi : P.info? e = some i) (hz : i.zero = some z)
    (hsize : i.size = 1) (hby : i.bytes = bytes) (hzs : z.cells.size = 1)
    (v : Value) (n : Nat) (xs : List Value) (hs : a.eval s = v) (B : Nat) (u : Value) (hx : a.eval x = .slice (some ⟨B, 0, none⟩) 1 1)
    (h : ∀ A' c' w', w'.ownsRow base e 1 (.slice A' (n + 1) c') (n + 1) (xs ++ [u]) → Below base w w' → w.grownBy w' v.ownBlock → wpList P ops Q rest (a.put o.dst (.slice A' (n + 1) c')) w')
    (hown : w.ownsRow base e 1 v n xs) (hc : w.cell? ⟨B, 0, none⟩ = some u) (h1 : u.oneCell' = true)
    (h63 : n + 1 ≤ maxLen) (hbytes : (n + 1) * bytes ≤ 140737488355328) (hbase : base ≤ w.heap.size) : wpList P ops Q (o :: rest) a w := by
  obtain ⟨A', c', w', hrun, h2, h3, h4, _⟩ := run_app1 (P := P) w base t o.type e i z bytes ht hi hz hsize hby hzs v n xs hown B u hc h1 h63 hbytes hbase
  exact wpList_plain hgd fun _ hK => wp_app w s x t ho v _ hs hx hrun (hK _ _ (h A' c' w' h2 h3 h4))

theorem step_app1 {ops : Array Oper} {o : Oper} {a : Act} {K : Act → World → Prop} {Q : Exit → Act → World → Prop} {E : Prop} (hgd : o.guard = none) (s x : Operand) (t : TypeId)
    (ho : o.op = .call { callee := .builtin .append, args := #[s, x], argTypes := #[t, t] })
    (base : Nat) (e : TypeId) (i : TypeInfo) (z : Value) (bytes : Nat) (ht : P.underlying t = some (.slice e)) (hi : P.info? e = some i) (hz : i.zero = some z)
    (hsize : i.size = 1) (hby : i.bytes = bytes) (hzs : z.cells.size = 1)
    (v : Value) (n : Nat) (xs : List Value) (hs : a.eval s = v) (B : Nat) (u : Value) (hx : a.eval x = .slice (some ⟨B, 0, none⟩) 1 1)
    (h : ∀ A' c' w', w'.ownsRow base e 1 (.slice A' (n + 1) c') (n + 1) (xs ++ [u]) → Below base w w' → w.grownBy w' v.ownBlock → K (a.put o.dst (.slice A' (n + 1) c')) w')
    (hown : w.ownsRow base e 1 v n xs) (hc : w.cell? ⟨B, 0, none⟩ = some u) (h1 : u.oneCell' = true)
    (h63 : n + 1 ≤ maxLen) (hbytes : (n + 1) * bytes ≤ 140737488355328) (hbase : base ≤ w.heap.size) :
    if Region.wanted o (yielded ops a.tmps) = true then Oper.wp P o a w K Q else E := by
  obtain ⟨A', c', w', hrun, h2, h3, h4, _⟩ := run_app1 (P := P) w base t o.type e i z bytes ht hi hz hsize hby hzs v n xs hown B u hc h1 h63 hbytes hbase
  have hw : Region.wanted o (yielded ops a.tmps) = true := by simp [Region.wanted, hgd]
  rw [if_pos hw]
  exact wp_app w s x t ho v _ hs hx hrun (h A' c' w' h2 h3 h4)
end
end Go.Proofs.Ytmjbbihbcbhaoaa

namespace Go.Proofs.Ytmjbbihbcbhaoaa
open Go.RowKit

/-- A thing that is true of a world by one of its blocks, or by none. -/
structure Piece where
  own : Option Nat
  holds : World → Prop
  loc : ∀ w w', (∀ b, own = some b → w'.heap[b]? = w.heap[b]?) → holds w → holds w'
  lt : ∀ w b, holds w → own = some b → b < w.heap.size

/-- Block b holds just these cells, none of them frozen. -/
def box (b : Nat) (t : TypeId) (cs : List Value) : Piece where
  own := some b
  holds := fun w => w.heap[b]? = some (.cells cs.toArray t (0, 0))
  loc := fun _ _ h k => (h b rfl).trans k
  lt := fun _ _ h e => by injection e with e; subst e; exact (Array.getElem?_eq_some_iff.1 h).1
/-- A slice value that is nil or has a block of its own. -/
def row (e : TypeId) (size : Nat) (v : Value) (n : Nat) (xs : List Value) : Piece where
  own := v.ownBlock
  holds := fun w => w.ownsRow 0 e size v n xs
  loc := fun w w' h k => by
    refine ⟨k.1, ?_⟩
    rcases k.2 with h2 | ⟨g, cap, cur, rfl, hg, hh, r⟩
    · exact .inl h2
    · exact .inr ⟨g, cap, cur, rfl, hg, (h g rfl).trans hh, r⟩
  lt := fun _ _ h e => (h.lt _ e).2

def OwnL (base : Nat) (w : World) : List Piece → Prop
  | [] => True
  | p :: ps => p.holds w ∧ (∀ b, p.own = some b → base ≤ b) ∧ (∀ q ∈ ps, ∀ b, p.own = some b → q.own ≠ some b) ∧ OwnL base w ps
/-- Since w0 nothing has changed that was there, and these pieces are the call's own. -/
def Own (w0 w : World) (ps : List Piece) : Prop := Below w0.heap.size w0 w ∧ OwnL w0.heap.size w ps

section
variable {w0 w w' : World} {ps : List Piece} {base : Nat}
theorem OwnL.all {w : World} : ∀ {ps : List Piece}, OwnL base w ps → ∀ p ∈ ps, p.holds w ∧ ∀ b, p.own = some b → base ≤ b
  | [], _, _, h => by cases h
  | q :: ps, h, p, hp => by
    rcases List.mem_cons.1 hp with e | hp
    · subst e; exact ⟨h.1, h.2.1⟩
    · exact h.2.2.2.all p hp
theorem OwnL.keep {w w' : World} : ∀ {ps : List Piece}, OwnL base w ps → (∀ p ∈ ps, ∀ b, p.own = some b → w'.heap[b]? = w.heap[b]?) → OwnL base w' ps
  | [], _, _ => trivial
  | p :: ps, h, k => ⟨p.loc w w' (k p (by simp)) h.1, h.2.1, h.2.2.1, h.2.2.2.keep fun q hq => k q (by simp [hq])⟩
theorem OwnL.mono {b b' : Nat} {w : World} (hb : b ≤ b') : ∀ {ps : List Piece}, OwnL b' w ps → OwnL b w ps
  | [], _ => trivial
  | _ :: _, h => ⟨h.1, fun k e => Nat.le_trans hb (h.2.1 k e), h.2.2.1, OwnL.mono hb h.2.2.2⟩
theorem Own.bel (h : Own w0 w ps) : Below w0.heap.size w0 w := h.1
theorem Own.size (h : Own w0 w ps) : w0.heap.size ≤ w.heap.size := h.1.size
theorem Own.start (w : World) : Own w w [] := ⟨Below.refl _ _, trivial⟩
theorem Own.cast (h : Own w0 w ps) {qs : List Piece} (e : ps = qs) : Own w0 w qs := e ▸ h
theorem Own.ext (h : Own w0 w ps) (hb : Below w.heap.size w w') : Own w0 w' ps :=
  ⟨below_step h.1 hb, h.2.keep fun p hp b e => hb.block b (p.lt w b (h.2.all p hp).1 e)⟩
theorem Own.drewN (h : Own w0 w ps) (n : Nat) : Own w0 (w.drewN n) ps := h.ext (below_drewN (Below.refl _ _) n)
theorem Own.memH (h : Own w0 w ps) {p : Piece} (hp : p ∈ ps) : p.holds w := (h.2.all p hp).1
theorem Own.get (h : Own w0 w ps) (i : Nat) {p : Piece} (hp : ps[i]? = some p) : p.holds w := h.memH (List.mem_of_getElem? hp)
theorem Own.getBase (h : Own w0 w ps) (i : Nat) {p : Piece} (hp : ps[i]? = some p) : ∀ b, p.own = some b → w0.heap.size ≤ b := (h.2.all p (List.mem_of_getElem? hp)).2
theorem Own.bx (h : Own w0 w ps) (i : Nat) {b : Nat} {t : TypeId} {cs : List Value} (hp : ps[i]? = some (box b t cs)) : Box w b cs := by
  have hh : w.heap[b]? = some (.cells cs.toArray t (0, 0)) := h.get i hp
  exact ⟨fun j u hu => by simp [World.cell?, hh, hu], fun o => by simp [World.frozen?, hh], (Array.getElem?_eq_some_iff.1 hh).1⟩
theorem Own.new (h : Own w0 w ps) (t : TypeId) (cs : Array Value) : Own w0 (w.alloc (.cells cs t)) (box w.heap.size t cs.toList :: ps) :=
  ⟨(h.ext (below_alloc _ _)).1, by show _ = _; rw [heap_alloc_new], fun b e => by injection e with e; subst e; exact h.size,
    fun q hq b e e2 => by injection e with e; subst e; have := q.lt w _ (h.memH hq) e2; omega, (h.ext (below_alloc _ _)).2⟩
theorem Own.new' (h : Own w0 w ps) (t : TypeId) (cs : Array Value) {B : Nat} (hB : B = w.heap.size) : Own w0 (w.alloc (.cells cs t)) (box B t cs.toList :: ps) := by subst hB; exact h.new t cs
theorem Own.tail {p : Piece} (h : Own w0 w (p :: ps)) : Own w0 w ps := ⟨h.1, h.2.2.2.2⟩
theorem Own.head {p : Piece} (h : Own w0 w (p :: ps)) : p.holds w := h.2.1
theorem OwnL.split {w : World} : ∀ {ps qs : List Piece}, OwnL base w (ps ++ qs) → OwnL base w ps ∧ OwnL base w qs ∧ ∀ p ∈ ps, ∀ q ∈ qs, ∀ b, p.own = some b → q.own ≠ some b
  | [], _, h => ⟨trivial, h, fun _ h => by cases h⟩
  | p :: ps, qs, h => by
    obtain ⟨a, b, c, d⟩ := h
    obtain ⟨e, f, g⟩ := OwnL.split d
    refine ⟨⟨a, b, fun q hq => c q (by simp [hq]), e⟩, f, fun r hr q hq => ?_⟩
    rcases List.mem_cons.1 hr with e1 | hr
    · subst e1; exact c q (by simp [hq])
    · exact g r hr q hq
theorem OwnL.join {w : World} : ∀ {ps qs : List Piece}, OwnL base w ps → OwnL base w qs → (∀ p ∈ ps, ∀ q ∈ qs, ∀ b, p.own = some b → q.own ≠ some b) → OwnL base w (ps ++ qs)
  | [], _, _, h, _ => h
  | p :: ps, qs, h, k, m => ⟨h.1, h.2.1, fun q hq => (List.mem_append.1 hq).elim (h.2.2.1 q) (m p (by simp) q), h.2.2.2.join k fun r hr => m r (by simp [hr])⟩
theorem Own.dropLast {qs : List Piece} (h : Own w0 w (qs ++ ps)) : Own w0 w ps := ⟨h.1, h.2.split.2.1⟩
theorem Own.takeFirst {qs : List Piece} (h : Own w0 w (qs ++ ps)) : Own w0 w qs := ⟨h.1, h.2.split.1⟩
theorem Own.swap {p q : Piece} (h : Own w0 w (p :: q :: ps)) : Own w0 w (q :: p :: ps) := by
  obtain ⟨a, b, c, d, e, f, g, k⟩ := h
  exact ⟨a, e, f, fun r hr => by
    rcases List.mem_cons.1 hr with e1 | hr
    · subst e1; exact fun b2 h1 h2 => d q (by simp) b2 h2 h1
    · exact g r hr, b, c, fun r hr => d r (by simp [hr]), k⟩
/-- The pieces in a shorter list of the same ones, whatever their order. -/
theorem Own.sub {qs : List Piece} (h : Own w0 w ps) (is : List Nat) (hnd : is.Nodup) (e : is.map (fun i => ps[i]?) = qs.map some) : Own w0 w qs := by
  refine ⟨h.1, ?_⟩
  have apart : ∀ (ps : List Piece) (i j : Nat) (p q : Piece), OwnL w0.heap.size w ps → i ≠ j → ps[i]? = some p → ps[j]? = some q → ∀ b, p.own = some b → q.own ≠ some b := by
    intro ps
    induction ps with
    | nil => intro i j p q _ _ h; simp at h
    | cons x ps ih =>
      intro i j p q ho hne hi hj b hb hq
      rcases i with _ | i <;> rcases j with _ | j
      · exact hne rfl
      · simp at hi hj; subst hi; exact ho.2.2.1 q (List.mem_of_getElem? hj) b hb hq
      · simp at hi hj; subst hj; exact ho.2.2.1 p (List.mem_of_getElem? hi) b hq hb
      · exact ih i j p q ho.2.2.2 (by omega) (by simpa using hi) (by simpa using hj) b hb hq
  have ho := h.2
  clear h
  induction is generalizing qs with
  | nil => cases qs <;> simp_all [OwnL]
  | cons i is ih =>
    rcases qs with _ | ⟨q, qs⟩
    · simp at e
    simp only [List.map_cons, List.cons.injEq] at e
    obtain ⟨e1, e2⟩ := e
    rw [List.nodup_cons] at hnd
    refine ⟨(ho.all q (List.mem_of_getElem? e1)).1, (ho.all q (List.mem_of_getElem? e1)).2, fun r hr => ?_, ih hnd.2 e2⟩
    obtain ⟨j, hj⟩ := List.mem_iff_getElem?.1 hr
    have : (is.map (fun i => ps[i]?))[j]? = some (some r) := by rw [e2]; simp [hj]
    rw [List.getElem?_map] at this
    obtain ⟨k, hk, hk2⟩ := Option.map_eq_some_iff.1 this
    exact apart ps i k q r ho (fun e => hnd.1 (e ▸ List.mem_of_getElem? hk)) e1 hk2

theorem OwnL.setAt {w w' : World} : ∀ {ps : List Piece} (i : Nat) {p q : Piece}, OwnL base w ps → ps[i]? = some p → q.holds w' → (∀ b, q.own = some b → p.own = some b ∨ (w.heap.size ≤ b ∧ base ≤ b)) →
    (∀ b, some b ≠ p.own → b < w.heap.size → w'.heap[b]? = w.heap[b]?) → OwnL base w' (ps.set i q)
  | [], i, p, q, _, h, _, _, _ => by simp at h
  | x :: ps, 0, p, q, ho, h, hq, hb, hk => by
    have e : x = p := by simpa using h
    subst e
    obtain ⟨h1, h2, h3, h4⟩ := ho
    refine ⟨hq, fun b e => (hb b e).elim (h2 b) And.right, fun r hr b e e2 => (hb b e).elim (fun e1 => h3 r hr b e1 e2) fun k => ?_, h4.keep fun r hr b e => hk b (fun e1 => h3 r hr b e1.symm e) (r.lt w b (h4.all r hr).1 e)⟩
    have := r.lt w b (h4.all r hr).1 e2
    omega
  | x :: ps, i + 1, p, q, ho, h, hq, hb, hk => by
    have h' : ps[i]? = some p := by simpa using h
    obtain ⟨h1, h2, h3, h4⟩ := ho
    have hm := List.mem_of_getElem? h'
    refine ⟨x.loc w w' (fun b e => hk b (fun e1 => h3 p hm b e e1.symm) (x.lt w b h1 e)) h1, h2, fun r hr b e e2 => ?_, h4.setAt i h' hq hb hk⟩
    rcases List.mem_or_eq_of_mem_set hr with hr | e3
    · exact h3 r hr b e e2
    · subst e3
      rcases hb b e2 with e4 | k
      · exact h3 p hm b e e4
      · have := x.lt w b h1 e; omega
theorem heap_set (w : World) (b o : Nat) (cs : List Value) (t : TypeId) (v : Value) (hg : w.heap[b]? = some (.cells cs.toArray t (0, 0))) : (w.setCell ⟨b, o, none⟩ v).heap[b]? = some (.cells (cs.set o v).toArray t (0, 0)) := by
  simp [World.setCell, Array.getElem?_modify, hg]
theorem Own.set (h : Own w0 w ps) (i : Nat) {b : Nat} {t : TypeId} {cs : List Value} (hp : ps[i]? = some (box b t cs)) (o : Nat) (v : Value) : Own w0 (w.setCell ⟨b, o, none⟩ v) (ps.set i (box b t (cs.set o v))) := by
  have hb := h.getBase i hp b rfl
  exact ⟨h.1.setCell hb v, h.2.setAt i hp (heap_set w b o cs t v (h.get i hp)) (fun b e => .inl e) fun k hk _ => Below.heap_setCell w ⟨b, o, none⟩ v k fun e => hk (congrArg some e)⟩
/-- A block of which only the cells are known to have changed. -/
theorem Own.change (h : Own w0 w ps) (i : Nat) {p q : Piece} (hp : ps[i]? = some p) (hq : q.holds w') (ho : ∀ b, q.own = some b → p.own = some b ∨ (w.heap.size ≤ b ∧ w0.heap.size ≤ b)) (hg : w.grownBy w' p.own) : Own w0 w' (ps.set i q) := by
  refine ⟨h.1.grown hg h.size fun k e => h.getBase i hp k e, h.2.setAt i hp hq ho fun b hb hlt => hg.block b hlt hb⟩
theorem Own.call {qs : List Piece} (h : Own w0 w ps) (k : Own w w' qs) : Own w0 w' (qs ++ ps) :=
  ⟨(h.ext k.1).1, OwnL.join (OwnL.mono h.size k.2) (h.ext k.1).2 fun p hp q hq b e e2 => by
    have h1 := (k.2.all p hp).2 b e
    have h2 := q.lt w b (h.memH hq) e2
    omega⟩
theorem Own.rd {e : TypeId} {size n c : Nat} {A : Option Addr} {xs : List Value} (h : Own w0 w ps) (i : Nat) (hp : ps[i]? = some (row e size (.slice A n c) n xs)) : Rd w A xs := by
  obtain ⟨A', c', e1, h1⟩ := rd_of_own (h.get i hp : w.ownsRow 0 e size (.slice A n c) n xs)
  injection e1 with e1
  subst e1
  exact h1.rd
theorem Own.ow {e : TypeId} {size n c : Nat} {A : Option Addr} {xs : List Value} (h : Own w0 w ps) (i : Nat) (hp : ps[i]? = some (row e size (.slice A n c) n xs)) : Ow w w0.heap.size A xs := by
  have hb := h.getBase i hp
  obtain ⟨A', c', e1, h1⟩ := rd_of_own (h.get i hp : w.ownsRow 0 e size (.slice A n c) n xs)
  injection e1 with e1
  subst e1
  rcases h1 with h1 | ⟨b, off, e2, _, h2, h3, h4⟩
  · exact .inl h1
  · exact .inr ⟨b, off, e2, hb b (by rw [e2]; rfl), h2, h3, h4⟩
theorem Own.nil (h : Own w0 w ps) (e : TypeId) (size : Nat) : Own w0 w (row e size (.slice none 0 0) 0 [] :: ps) :=
  ⟨h.1, World.ownsRow_nil _ _ _ _, fun b hb => by simp [row, Value.ownBlock] at hb, fun _ _ b hb => by simp [row, Value.ownBlock] at hb, h.2⟩
theorem own_zero {base : Nat} {e : TypeId} {size n : Nat} {v : Value} {xs : List Value} (h : w.ownsRow base e size v n xs) : w.ownsRow 0 e size v n xs := own_mono h (Nat.zero_le _)
/-- What a callee made, by an elder contract. -/
theorem Own.addRow {e : TypeId} {size n : Nat} {v : Value} {xs : List Value} (h : Own w0 w ps) (hb : Below w.heap.size w w') (hr : w'.ownsRow w.heap.size e size v n xs) : Own w0 w' (row e size v n xs :: ps) :=
  h.call (qs := [row e size v n xs]) ⟨hb, own_zero hr, fun b e => (hr.lt b e).1, fun _ h => by simp at h, trivial⟩
/-- A block of the call's own, as a row of its own. -/
theorem Own.asRow {b : Nat} {t : TypeId} {cs : List Value} {size n : Nat} (h : Own w0 w ps) (i : Nat) (hp : ps[i]? = some (box b t cs)) (hn : cs.length = n * size) (hm : n ≤ maxLen) : Own w0 w (ps.set i (row t size (.slice (some ⟨b, 0, none⟩) n n) n cs)) := by
  refine ⟨h.1, h.2.setAt i hp ?_ (fun b' e => .inl (by simpa [row, Value.ownBlock, box] using e)) fun _ _ _ => rfl⟩
  exact ⟨hn, .inr ⟨b, n, cs.toArray, rfl, Nat.zero_le _, h.get i hp, Nat.le_refl _, hm, by simpa using hn, by rw [List.take_of_length_le (by simp [hn])]⟩⟩
theorem Own.asBox {e : TypeId} {size n c : Nat} {A : Option Addr} {xs : List Value} (h : Own w0 w ps) (i : Nat) (hp : ps[i]? = some (row e size (.slice A n c) n xs)) (hn : 0 < n) : ∃ g spare, A = some ⟨g, 0, none⟩ ∧ n ≤ c ∧ Own w0 w (ps.set i (box g e (xs ++ spare))) := by
  have hr : w.ownsRow 0 e size (.slice A n c) n xs := h.get i hp
  obtain ⟨h1, h2⟩ := hr
  rcases h2 with ⟨_, h2⟩ | ⟨g, cap, cur, hv, _, hh, h3, _, _, h4⟩
  · omega
  · injection hv with hv1 hv2 hv3
    subst hv1; subst hv3
    refine ⟨g, cur.toList.drop (n * size), rfl, h3, h.1, h.2.setAt i hp ?_ (fun b' e => .inl (by simpa [row, Value.ownBlock, box] using e)) fun _ _ _ => rfl⟩
    show _ = _
    rw [hh, ← h4, List.take_append_drop]
theorem Own.setRow {e : TypeId} {size n c g : Nat} {xs : List Value} (h : Own w0 w ps) (i : Nat) (hp : ps[i]? = some (row e size (.slice (some ⟨g, 0, none⟩) n c) n xs)) (o : Nat) (v : Value) :
    Own w0 (w.setCell ⟨g, o, none⟩ v) (ps.set i (row e size (.slice (some ⟨g, 0, none⟩) n c) n (xs.set o v))) := by
  have hr : w.ownsRow 0 e size (.slice (some ⟨g, 0, none⟩) n c) n xs := h.get i hp
  have hb := h.getBase i hp g rfl
  obtain ⟨h1, h2⟩ := hr
  rcases h2 with ⟨h2, _⟩ | ⟨g', cap, cur, hv, _, hh, h3, h5, h6, h4⟩
  · cases h2
  · injection hv with hv1 hv2 hv3
    injection hv1 with hv1
    injection hv1 with hv1
    subst hv1; subst hv3
    have hc := heap_set w g o cur.toList e v (by simpa using hh)
    refine ⟨h.1.setCell hb v, h.2.setAt i hp ?_ (fun b e => .inl e) fun k hk _ => Below.heap_setCell w ⟨g, o, none⟩ v k fun e => hk (congrArg some e)⟩
    refine ⟨by simpa using h1, .inr ⟨g, c, _, rfl, Nat.zero_le _, hc, h3, h5, by simpa using h6, ?_⟩⟩
    rw [← h4]
    simp [List.take_set]

theorem Own.rowAddr {e : TypeId} {size n c : Nat} {A : Option Addr} {xs : List Value} (h : Own w0 w ps) (i : Nat) (hp : ps[i]? = some (row e size (.slice A n c) n xs)) (hn : 0 < n) : ∃ g, A = some ⟨g, 0, none⟩ := by
  rcases (show w.ownsRow 0 e size (.slice A n c) n xs from h.get i hp).2 with ⟨_, h2⟩ | ⟨g, cap, cur, hv, _⟩
  · omega
  · injection hv with hv1
    exact ⟨g, hv1⟩
theorem Own.rowLt {e : TypeId} {size n c g : Nat} {xs : List Value} (h : Own w0 w ps) (i : Nat) (hp : ps[i]? = some (row e size (.slice (some ⟨g, 0, none⟩) n c) n xs)) : g < w.heap.size ∧ ∀ o, w.frozen? ⟨g, o, none⟩ = false := by
  rcases (show w.ownsRow 0 e size (.slice (some ⟨g, 0, none⟩) n c) n xs from h.get i hp).2 with ⟨h2, _⟩ | ⟨g', cap, cur, hv, _, hh, _⟩
  · cases h2
  · injection hv with hv1
    injection hv1 with hv1
    injection hv1 with hv1
    subst hv1
    exact ⟨(Array.getElem?_eq_some_iff.1 hh).1, fun o => by simp [World.frozen?, hh]⟩
theorem Own.rowAt {e : TypeId} {size n c g : Nat} {xs : List Value} (h : Own w0 w ps) (i : Nat) (hp : ps[i]? = some (row e size (.slice (some ⟨g, 0, none⟩) n c) n xs)) {j : Nat} {u : Value} (hu : xs[j]? = some u) : w.cell? ⟨g, j, none⟩ = some u := by
  obtain ⟨b, off, e1, _, h2⟩ := (h.rd i hp).at_ hu
  injection e1 with e1
  injection e1 with e1 e2
  subst e1; subst e2
  have := h2 j u hu
  rwa [Nat.zero_add] at this

/-- A row as a block known whole, and back. -/
theorem Own.asBoxC {e : TypeId} {size n c : Nat} {A : Option Addr} {xs : List Value} (h : Own w0 w ps) (i : Nat) (hp : ps[i]? = some (row e size (.slice A n c) n xs)) (hn : 0 < n) : ∃ g spare, A = some ⟨g, 0, none⟩ ∧ n ≤ c ∧ c ≤ maxLen ∧ xs.length = n * size ∧ (xs ++ spare).length = c * size ∧ Own w0 w (ps.set i (box g e (xs ++ spare))) := by
  have hr : w.ownsRow 0 e size (.slice A n c) n xs := h.get i hp
  obtain ⟨h1, h2⟩ := hr
  rcases h2 with ⟨_, h2⟩ | ⟨g, cap, cur, hv, _, hh, h3, h5, h6, h4⟩
  · omega
  · injection hv with hv1 hv2 hv3
    subst hv1; subst hv3
    refine ⟨g, cur.toList.drop (n * size), rfl, h3, h5, h1, by rw [← h4, List.take_append_drop]; simpa using h6, h.1, h.2.setAt i hp ?_ (fun b' e => .inl (by simpa [row, Value.ownBlock, box] using e)) fun _ _ _ => rfl⟩
    show _ = _
    rw [hh, ← h4, List.take_append_drop]
theorem Own.asRowC {b : Nat} {t : TypeId} {xs sp : List Value} {size n c : Nat} (h : Own w0 w ps) (i : Nat) (hp : ps[i]? = some (box b t (xs ++ sp))) (hn : xs.length = n * size) (hc : (xs ++ sp).length = c * size) (h1 : n ≤ c) (hm : c ≤ maxLen) : Own w0 w (ps.set i (row t size (.slice (some ⟨b, 0, none⟩) n c) n xs)) := by
  refine ⟨h.1, h.2.setAt i hp ?_ (fun b' e => .inl (by simpa [row, Value.ownBlock, box] using e)) fun _ _ _ => rfl⟩
  exact ⟨hn, .inr ⟨b, c, (xs ++ sp).toArray, rfl, Nat.zero_le _, h.get i hp, h1, hm, by simpa using hc, by rw [List.toList_toArray, ← hn, List.take_left]⟩⟩
/-- Slices of elements with so many cells. -/
structure SlTy (P : Program) (t e : TypeId) (z : Value) (size bytes : Nat) : Prop where
  u : P.underlying t = some (.slice e)
  i : (P.info? e).map (fun i => (i.zero, i.size, i.bytes)) = some (some z, size, bytes)
  c : z.cells.size = size
  p : 0 < size
theorem Rd.new (w : World) (cs : Array Value) (t : TypeId) : Rd (w.alloc (.cells cs t)) (some ⟨w.heap.size, 0, none⟩) cs.toList :=
  .inr ⟨w.heap.size, 0, rfl, by simp, fun j u hu => by rw [Nat.zero_add, World.cell?_alloc_new]; simpa using hu⟩
theorem Rd.one {w : World} {b : Nat} {u : Value} (h : w.cell? ⟨b, 0, none⟩ = some u) : Rd w (some ⟨b, 0, none⟩) [u] :=
  .inr ⟨b, 0, rfl, World.block_lt_of_cell? w _ h, fun j x hj => by
    rcases j with _ | j
    · simp at hj; subst hj; exact h
    · simp at hj⟩
variable {P : Program}
theorem run_appP {t ty e : TypeId} {z : Value} {size bytes : Nat} (st : SlTy P t e z size bytes) (i : Nat) {v : Value} {n : Nat} {xs : List Value} (hO : Own w0 w ps) (hp : ps[i]? = some (row e size v n xs))
    {A : Option Addr} {m c : Nat} {news : List Value} (hr : Rd w A news) (hm : news.length = m * size) (h1 : ∀ u ∈ news, u.oneCell' = true) (h63 : n + m ≤ maxLen) (hbytes : (n + m) * bytes ≤ 140737488355328) :
    ∃ A' c' w', (Builtin.append_ #[t, t] ty #[v, .slice A m c]).run P w = .ok (.slice A' (n + m) c') w' ∧ Own w0 w' (ps.set i (row e size (.slice A' (n + m) c') (n + m) (xs ++ news))) ∧ w.grownBy w' v.ownBlock := by
  obtain ⟨i0, hi, hz0, hz1, hz2⟩ := info_parts st.i
  have hrow : w.ownsRow 0 e size v n xs := hO.get i hp
  obtain ⟨v', w', hrun, h2, h3, h4⟩ := run_app_own (P := P) w 0 t ty e i0 z size bytes st.u hi hz0 hz1 hz2 st.c st.p v n xs hrow A m c news hr hm h1 h63 hbytes (Nat.zero_le _)
  obtain ⟨A', c', rfl, _⟩ := rd_of_own h2
  exact ⟨A', c', w', hrun, hO.change i hp h2 (fun b e => by
    rcases h4 with h4 | h4
    · exact .inl (h4.symm.trans e)
    · have : some b = some w.heap.size := (show (Value.slice A' (n + m) c').ownBlock = some b from e).symm.trans h4
      injection this with this
      exact .inr ⟨by omega, by have := hO.size; omega⟩) h3, h3⟩
theorem wpList_appP {ops : Array Oper} {rest : List Oper} {o : Oper} {a : Act} {Q : Exit → Act → World → Prop} (hgd : o.guard = none) (s x : Operand) (t : TypeId)
    (ho : o.op = .call { callee := .builtin .append, args := #[s, x], argTypes := #[t, t] }) {e : TypeId} {z : Value} {size bytes : Nat} (st : SlTy P t e z size bytes) (i : Nat) {v : Value} {n : Nat} {xs : List Value} (hO : Own w0 w ps) (hp : ps[i]? = some (row e size v n xs)) (hs : a.eval s = v)
    {A : Option Addr} {m c : Nat} (hx : a.eval x = .slice A m c) (N : Nat) (XS : List Value)
    (h : ∀ A' c' w', Own w0 w' (ps.set i (row e size (.slice A' N c') N XS)) → wpList P ops Q rest (a.put o.dst (.slice A' N c')) w') (news : List Value)
    (hN : n + m = N) (hX : xs ++ news = XS) (hr : Rd w A news) (hm : news.length = m * size) (h1 : ∀ u ∈ news, u.oneCell' = true) (h63 : n + m ≤ maxLen) (hbytes : (n + m) * bytes ≤ 140737488355328) : wpList P ops Q (o :: rest) a w := by
  obtain ⟨A', c', w', hrun, h2, _⟩ := run_appP (P := P) (ty := o.type) st i hO hp hr hm h1 h63 hbytes
  subst hN; subst hX
  exact wpList_plain hgd fun _ hK => wp_app w s x t ho v _ hs hx hrun (hK _ _ (h A' c' w' h2))
theorem step_appP {ops : Array Oper} {o : Oper} {a : Act} {K : Act → World → Prop} {Q : Exit → Act → World → Prop} {E : Prop} (hgd : o.guard = none) (s x : Operand) (t : TypeId)
    (ho : o.op = .call { callee := .builtin .append, args := #[s, x], argTypes := #[t, t] }) {e : TypeId} {z : Value} {size bytes : Nat} (st : SlTy P t e z size bytes) (i : Nat) {v : Value} {n : Nat} {xs : List Value} (hO : Own w0 w ps) (hp : ps[i]? = some (row e size v n xs)) (hs : a.eval s = v)
    {A : Option Addr} {m c : Nat} (hx : a.eval x = .slice A m c) (N : Nat) (XS : List Value)
    (h : ∀ A' c' w', Own w0 w' (ps.set i (row e size (.slice A' N c') N XS)) → K (a.put o.dst (.slice A' N c')) w') (news : List Value)
    (hN : n + m = N) (hX : xs ++ news = XS) (hr : Rd w A news) (hm : news.length = m * size) (h1 : ∀ u ∈ news, u.oneCell' = true) (h63 : n + m ≤ maxLen) (hbytes : (n + m) * bytes ≤ 140737488355328) :
    if Region.wanted o (yielded ops a.tmps) = true then Oper.wp P o a w K Q else E := by
  obtain ⟨A', c', w', hrun, h2, _⟩ := run_appP (P := P) (ty := o.type) st i hO hp hr hm h1 h63 hbytes
  subst hN; subst hX
  have hw : Region.wanted o (yielded ops a.tmps) = true := by simp [Region.wanted, hgd]
  rw [if_pos hw]
  exact wp_app w s x t ho v _ hs hx hrun (h A' c' w' h2)

/-! A region that draws its order, whose operations read, and whose callees make memory at most: the pieces stay. -/
structure OwnOf (w0 : World) (ps : List Piece) where
  wld : World
  own : Own w0 wld ps
theorem OwnOf.out (x : OwnOf w0 ps) {b o : Nat} {u : Value} (hb : b < w0.heap.size) (h : w0.cell? ⟨b, o, none⟩ = some u) : x.wld.cell? ⟨b, o, none⟩ = some u := (x.own.bel.cell (p := ⟨b, o, none⟩) hb).trans h
theorem OwnOf.bx (x : OwnOf w0 ps) (i : Nat) {b : Nat} {t : TypeId} {cs : List Value} (hp : ps[i]? = some (box b t cs)) : Box x.wld b cs := x.own.bx i hp
theorem OwnOf.rd (x : OwnOf w0 ps) {A : Option Addr} {xs : List Value} (h : Rd w0 A xs) : Rd x.wld A xs := h.below x.own.bel
theorem wp_region_own {id : Nat} {Q : Exit → Act → World → Prop} {a : Act} {l : List Oper} (hO : Own w0 w ps) (hm : P.follows .mixedOrders = true) (hB : Region.lexB .any l.toArray = true)
    (h : wpQuiet P l.toArray (fun w' => ∃ x : OwnOf w0 ps, w' = x.wld) (fun a' => ∀ w', (∃ x : OwnOf w0 ps, w' = x.wld) → Q .normal a' w') l a) : (Code.region id l.toArray true).wp P Q a w :=
  wp_region_quiet (C := fun w' => ∃ x : OwnOf w0 ps, w' = x.wld) hm hB ⟨⟨w.drew, hO.ext ((Below.refl _ _).drew)⟩, rfl⟩ (by simpa using h)
theorem own_of {f : FuncId} {args : Array Value} {x : OwnOf w0 ps} {v : Value} (h : Calls P f args x.wld fun e w' => e = .returned v ∧ Below x.wld.heap.size x.wld w') : Calls P f args x.wld fun e w'' => e = .returned v ∧ ∃ y : OwnOf w0 ps, w'' = y.wld :=
  h.mono fun _ w' ⟨he, hb⟩ => ⟨he, ⟨w', x.own.ext hb⟩, rfl⟩
theorem own_same {f : FuncId} {args : Array Value} {x : OwnOf w0 ps} {v : Value} (h : Calls P f args x.wld fun e w' => e = .returned v ∧ x.wld = w') : Calls P f args x.wld fun e w'' => e = .returned v ∧ ∃ y : OwnOf w0 ps, w'' = y.wld :=
  h.mono fun _ _ ⟨he, hb⟩ => ⟨he, x, hb.symm⟩
/-- A block that is known whole, whatever it is. -/
def obj (b : Nat) (o : Obj) : Piece where
  own := some b
  holds := fun w => w.heap[b]? = some o
  loc := fun _ _ h k => (h b rfl).trans k
  lt := fun _ _ h e => by injection e with e; subst e; exact (Array.getElem?_eq_some_iff.1 h).1
theorem Own.newObj (h : Own w0 w ps) (o : Obj) : Own w0 (w.alloc o) (obj w.heap.size o :: ps) :=
  ⟨(h.ext (below_alloc _ _)).1, heap_alloc_new w o, fun b e => by injection e with e; subst e; exact h.size,
    fun q hq b e e2 => by injection e with e; subst e; have := q.lt w _ (h.memH hq) e2; omega, (h.ext (below_alloc _ _)).2⟩
end
end Go.Proofs.Ytmjbbihbcbhaoaa

namespace Go.Proofs.Ytmjbbihbcbhaoaa
open Go.RowKit

section
variable {P : Program} {ops : Array Oper} {md : Region.Mode} {C : World → Prop} {lp n : Nat}
theorem wpIn_of_quiet_round {o : Oper} {a : Act} {K : Act → Prop} {K' : Act → World → Prop} {Q' : Exit → Act → World → Prop} {w : World} (hd : ∀ c, o.op ≠ .defer c) (hw : C w) (h : ∀ a w', C w' → K a → K' a w')
    (hh : o.quiet P a C K) : o.wpIn (Fence.wide.inRound lp) n P a w K' Q' := by
  obtain ⟨v, h1, h2⟩ := hh
  have h3 := h1 w hw
  unfold Oper.quietAt at h3
  unfold Oper.wpIn
  refine ⟨fun _ _ => trivial, ?_⟩
  rw [Oper.semAt_eq _ _ _ hd]
  generalize (execOp a.eval o).run P w = r at *
  cases r with
  | ok x w' =>
    cases x <;> simp only [Oper.quietUpon] at h3 <;> simp only [Oper.uponIn]
    case value u =>
      obtain ⟨e1, e2⟩ := h3
      rw [e1, e2]
      exact h _ _ hw h2
    case skip =>
      obtain ⟨e1, e2⟩ := h3
      rw [e1, ← e2]
      exact h _ _ hw h2
    case enter f args =>
      obtain ⟨e1, hc⟩ := h3
      rw [e1]
      exact ⟨(fun h => by simp [Fence.wide] at h), (callsIn_wide (n := n - 1)).2 (hc.mono fun e w'' ⟨he, hw''⟩ => by subst he; exact h _ _ hw'' h2)⟩
  | halt x w' => simp only [Oper.quietUpon] at h3
theorem wpOpIn_of_qOp_round (hnd : ∀ (j : Nat) (o : Oper) c, ops[j]? = some o → o.op ≠ .defer c) {i : Nat} {a : Act} {K : Act → Prop} {K' : Act → World → Prop} {Q' : Exit → Act → World → Prop} {w : World} (hC : C w) (h : ∀ a w', C w' → K a → K' a w')
    (hh : qOp P ops C i K a) : wpOpIn (Fence.wide.inRound lp) n P ops Q' i K' a w := by
  unfold qOp at hh
  unfold wpOpIn
  split
  · rename_i ho; simp only [ho] at hh; exact h _ _ hC hh
  · rename_i o ho
    simp only [ho] at hh
    split
    · rename_i hw; simp only [hw, if_true] at hh; exact wpIn_of_quiet_round (fun c => hnd i o c ho) hC h hh
    · rename_i hw; simp only [hw] at hh; exact ⟨fun _ _ => trivial, h _ _ hC hh⟩
theorem wpAnyIn_of_quiet_round (hnd : ∀ (j : Nat) (o : Oper) c, ops[j]? = some o → o.op ≠ .defer c) {Q : Act → Prop} {Q' : Exit → Act → World → Prop} (hQ : ∀ a w, C w → Q a → Q' .normal a w) : ∀ (fuel : Nat) (listed : Array Bool) (a : Act) (w : World), C w →
    wpAnyQ P md ops C Q fuel listed a → wpAnyIn (Fence.wide.inRound lp) n P md ops Q' fuel listed a w
  | 0, _, _, _, hw, h => ⟨h.1, hQ _ _ hw h.2⟩
  | fuel + 1, _, _, _, hw, h => ⟨fun h0 => hQ _ _ hw (h.1 h0), fun i hi => wpOpIn_of_qOp_round hnd hw (fun a' w' hw' => wpAnyIn_of_quiet_round hnd hQ fuel _ a' w' hw') (h.2 i hi)⟩
def noDefer (ops : Array Oper) : Bool := ops.all fun o => match o.op with | .defer _ => false | _ => true
theorem noDefer_spec {ops : Array Oper} (h : noDefer ops = true) (j : Nat) (o : Oper) (c : Call) (ho : ops[j]? = some o) : o.op ≠ .defer c := by
  intro e
  obtain ⟨hj, rfl⟩ := Array.getElem?_eq_some_iff.1 ho
  have := (Array.all_eq_true.1 h) j hj
  rw [e] at this
  cases this
theorem wpIn_region_class {id : Nat} {Q : Exit → Act → World → Prop} {a : Act} {w : World} {l : List Oper} (hm : P.follows .mixedOrders = true) (hB : Region.lexB .any l.toArray = true) (hd : noDefer l.toArray = true) (hC : C w.drew)
    (h : wpQuiet P l.toArray C (fun a' => ∀ w', C w' → Q .normal a' w') l a) : (Code.region id l.toArray true).wpIn (Fence.wide.inRound lp) n P Q a w := by
  simp only [Region.lexB, Bool.and_eq_true] at hB
  refine wpIn_region_any hm (wpAnyIn_of_quiet_round (C := C) (noDefer_spec hd) (Q := fun a' => ∀ w', C w' → Q .normal a' w') (fun _ w' hw' h => h w' hw') _ _ _ _ hC ?_)
  have := wpAnyQ_lex (C := C) (md := .any) hB.1 l 0 (Array.replicate l.toArray.size false) a (by simp) (by simpa using hB.2) h
  simpa using this
theorem wpIn_region_ext {id : Nat} {Q : Exit → Act → World → Prop} {a : Act} {w : World} {l : List Oper} (hm : P.follows .mixedOrders = true) (hB : Region.lexB .any l.toArray = true) (hd : noDefer l.toArray = true)
    (h : wpQuiet P l.toArray (fun w' => ∃ x : ExtOf w, w' = x.wld) (fun a' => ∀ w', (∃ x : ExtOf w, w' = x.wld) → Q .normal a' w') l a) : (Code.region id l.toArray true).wpIn (Fence.wide.inRound lp) n P Q a w :=
  wpIn_region_class (C := fun w' => ∃ x : ExtOf w, w' = x.wld) hm hB hd ⟨⟨w.drew, (Below.refl _ _).drew⟩, rfl⟩ h
theorem keeps_below {w w' : World} (h : Below w.heap.size w w') : KeepsOthers w w' := ⟨h.size, fun k _ hk _ => (h.block k (Array.getElem?_eq_some_iff.1 hk).1).trans hk⟩
theorem rd_box {w : World} {b : Nat} {xs sp : List Value} (h : Box w b (xs ++ sp)) : Rd w (some ⟨b, 0, none⟩) xs :=
  .inr ⟨b, 0, rfl, h.2.2, fun j u hu => by rw [Nat.zero_add]; exact h.1 j u (by rw [List.getElem?_append_left (List.getElem?_eq_some_iff.1 hu).1]; exact hu)⟩
/-- In a round: a region that draws its order, whose operations read, and whose callees make memory at most. -/
theorem wpIn_region_own {id : Nat} {Q : Exit → Act → World → Prop} {a : Act} {w0 w : World} {ps : List Piece} {l : List Oper} (hO : Own w0 w ps) (hm : P.follows .mixedOrders = true) (hB : Region.lexB .any l.toArray = true) (hd : noDefer l.toArray = true)
    (h : wpQuiet P l.toArray (fun w' => ∃ x : OwnOf w0 ps, w' = x.wld) (fun a' => ∀ w', (∃ x : OwnOf w0 ps, w' = x.wld) → Q .normal a' w') l a) : (Code.region id l.toArray true).wpIn (Fence.wide.inRound lp) n P Q a w := by
  simp only [Region.lexB, Bool.and_eq_true] at hB
  refine wpIn_region_any hm (wpAnyIn_of_quiet_round (C := fun w' => ∃ x : OwnOf w0 ps, w' = x.wld) (noDefer_spec hd) (Q := fun a' => ∀ w', (∃ x : OwnOf w0 ps, w' = x.wld) → Q .normal a' w') (fun _ w' hw' h => h w' hw') _ _ _ _ ⟨⟨w.drew, hO.ext ((Below.refl _ _).drew)⟩, rfl⟩ ?_)
  have := wpAnyQ_lex (C := fun w' => ∃ x : OwnOf w0 ps, w' = x.wld) (md := .any) hB.1 l 0 (Array.replicate l.toArray.size false) a (by simp) (by simpa using hB.2) h
  simpa using this
theorem wpListIn_appP {F : Fence} {w0 w : World} {ps : List Piece} {rest : List Oper} {o : Oper} {a : Act} {Q : Exit → Act → World → Prop} (hgd : o.guard = none) (s x : Operand) (t : TypeId)
    (ho : o.op = .call { callee := .builtin .append, args := #[s, x], argTypes := #[t, t] }) {e : TypeId} {z : Value} {size bytes : Nat} (st : SlTy P t e z size bytes) (i : Nat) {v : Value} {k : Nat} {xs : List Value} (hO : Own w0 w ps) (hp : ps[i]? = some (row e size v k xs)) (hs : a.eval s = v)
    {ad : Addr} {m c : Nat} (hx : a.eval x = .slice (some ad) m c) (N : Nat) (XS : List Value)
    (h : ∀ A' c' w', Own w0 w' (ps.set i (row e size (.slice A' N c') N XS)) → KeepsOthers w w' → wpListIn F n P ops Q rest (a.put o.dst (.slice A' N c')) w') (news : List Value)
    (hN : k + m = N) (hX : xs ++ news = XS) (hr : Rd w (some ad) news) (hm : news.length = m * size) (h1 : ∀ u ∈ news, u.oneCell' = true) (h63 : k + m ≤ maxLen) (hbytes : (k + m) * bytes ≤ 140737488355328) : wpListIn F n P ops Q (o :: rest) a w := by
  obtain ⟨A', c', w', hrun, h2, h3⟩ := run_appP (P := P) (ty := o.type) (c := c) st i hO hp hr hm h1 h63 hbytes
  subst hN; subst hX
  refine wpListIn_plain hgd fun K hK' => ?_
  unfold Oper.wpIn
  refine ⟨?_, ?_⟩
  · simp [Oper.about, ho, resolve, Target.leads, Sem.run_pure]
  · rw [Oper.semAt_plain F _ _ (by rw [ho]; intro c hc'; cases hc')]
    unfold execOp
    simp only [ho, resolve, invoke, builtin, Sem.run_bind, Sem.run_pure, Result.andThen_ok, List.map_toArray, List.map_cons, List.map_nil, hs, hx, hrun]
    refine hK' _ _ (h A' c' w' h2 (KeepsOthers.of_grownBy h3 fun j o' hj ho' => ?_))
    have hrow : w.ownsRow 0 e size v k xs := hO.get i hp
    rcases hrow.2 with ⟨rfl, _⟩ | ⟨g, cap, cur, rfl, _, hh, _⟩
    · simp [Value.ownBlock] at hj
    · simp [Value.ownBlock] at hj
      subst hj
      rw [hh] at ho'
      injection ho' with ho'
      subst ho'
      rfl
/-- A piece that lies in a block of cells, if it has one. -/
def Piece.Cel (p : Piece) : Prop := ∀ w b, p.holds w → p.own = some b → ∃ o, w.heap[b]? = some o ∧ o.isCells = true
theorem box_cel (b : Nat) (t : TypeId) (cs : List Value) : (box b t cs).Cel := fun _ _ h e => by injection e with e; subst e; exact ⟨_, h, rfl⟩
theorem row_cel (e : TypeId) (size : Nat) (v : Value) (n : Nat) (xs : List Value) : (row e size v n xs).Cel := fun w b h e1 => by
  rcases (show w.ownsRow 0 e size v n xs from h).2 with ⟨rfl, _⟩ | ⟨g, cap, cur, rfl, _, hh, _⟩
  · simp [row, Value.ownBlock] at e1
  · simp [row, Value.ownBlock] at e1
    subst e1
    exact ⟨_, hh, rfl⟩
theorem Own.other {w0 w w' : World} {ps : List Piece} {r : Option Nat} (h : Own w0 w ps) (hg : w.grownBy w' r) (hr : ∀ k, r = some k → w0.heap.size ≤ k ∧ ∀ p ∈ ps, p.own ≠ some k) : Own w0 w' ps :=
  ⟨h.1.grown hg h.size fun k e => (hr k e).1, h.2.keep fun p hp b e => hg.block b (p.lt w b (h.memH hp) e) fun e2 => (hr b e2.symm).2 p hp e⟩
theorem Own.addObj {w0 w : World} {ps : List Piece} {D : Nat} {o : Obj} (h : Own w0 w ps) (hD : w.heap[D]? = some o) (hs : w0.heap.size ≤ D) (hp : ∀ p ∈ ps, p.own ≠ some D) : Own w0 w (obj D o :: ps) :=
  ⟨h.1, hD, fun b e => by injection e with e; subst e; exact hs, fun q hq b e e2 => by injection e with e; subst e; exact hp q hq e2, h.2⟩
/-- What a round of a range over a function leaves. -/
def roundPost {σ : Type} (Kp : World → World → Prop) (R : σ → Prop) (pcs : σ → List Piece) (w0 W : World) : Exit → Act → World → Prop
  | .normal, _, W' => KeepsOthers W W' ∧ Kp W W' ∧ ∃ s, R s ∧ Own w0 W' (pcs s)
  | _, _, _ => False
theorem wp_range_own {α σ : Type} {g : Operand} {prm : Array Tmp} {assign body : Code} {Q : Exit → Act → World → Prop} {a : Act} {w0 w : World} {gf : Nat} {lb : Array Value}
    (hg : a.eval g = .func (.func gf) #[] lb) (eg : ∀ args w, (callFunc gf args).run P w = .ok (.enter gf args) w)
    {encs : α → Array Value} {Kp : World → World → Prop} {S : List α → Prop} {N : Nat} (hseq : SeqStopsK Fence.wide 9 P gf lb encs Kp S (fun _ => True) N w)
    (hKt : ∀ {A B C : World}, Kp A B → Kp B C → Kp A C) (hKb : ∀ (W : World) (l : Nat) (o o' : Obj), w.heap.size ≤ l → W.heap[l]? = some o → o.isCells = false → o.isWalk = false → Kp W (W.putObj l o')) (hKr : ∀ W, Kp W W) (hps : ∀ x, (encs x).size = prm.size)
    (R : List α → σ → Prop) (pcs : σ → List Piece) (hcel : ∀ s, ∀ p ∈ pcs s, p.Cel ∨ ∀ b, p.own = some b → b < w.heap.size) (s0 : σ) (h0 : R [] s0) (hO : Own w0 w (pcs s0)) (ax : α → Act)
    (hassign : ∀ (x : α) (l : Nat) (K : Act → World → Prop) (W : World), K (ax x) W → assign.wpIn (Fence.wide.inRound l) 8 P (Exit.then K fun _ _ _ => False) { tmps := (prm.zip (encs x)).foldl (fun t (p, v) => t.setIfInBounds p v) a.tmps, defers := [] } W)
    (hbody : ∀ (l : Nat) (pre : List α) (x : α) (s : σ) (W : World), pre.length < N → R pre s → Own w0 W (pcs s) → body.wpIn (Fence.wide.inRound l) 8 P (roundPost Kp (R (pre ++ [x])) pcs w0 W) (ax x) W)
    (hdone : ∀ (D : Nat) (xs : List α) (s : σ) (W : World), S xs → R xs s → Own w0 W (obj D (.deferred (some [])) :: pcs s) → Q .normal { a with defers := { target := .collected D, args := #[] } :: a.defers } W) :
    (Code.rangeFunc g prm assign body).wp P Q a w := by
  have hst : OwnFrom w.heap.size (fun (pre : List α) W => ∃ s, R pre s ∧ Own w0 W (pcs s)) := by
    rintro pre X Y r ⟨s, h1, h2⟩ hgr hr
    refine ⟨s, h1, h2.other hgr fun k e => ⟨by have := (hr k e).1; have := hO.size; omega, fun p hp e2 => ?_⟩⟩
    obtain ⟨hb, o, ho, hoc⟩ := hr k e
    rcases hcel s p hp with h | h
    · obtain ⟨o', ho', hc'⟩ := h X k (h2.memH hp) e2
      rw [ho] at ho'
      injection ho' with ho'
      subst ho'
      rw [hoc] at hc'
      cases hc'
    · have := h k e2; omega
  refine (wpIn_wide (n := 10)).1 ?_
  refine wpIn_rangeFunc_ownH rfl (by omega) hg trivial eg hseq hKt hKb (Below.refl _ _) hps (fun pre W => ∃ s, R pre s ∧ Own w0 W (pcs s)) (fun _ _ _ => False) hst (fun _ _ _ _ _ hs _ _ => hs) ⟨s0, h0, hO⟩ (fun x a' _ => a' = ax x) (fun x a' _ _ _ _ hs _ _ => hs) ?_ ?_ ?_ ?_
  · intro l pre x W K hI hK
    exact hassign x l K W (hK _ _ (KeepsFrom.refl _ _) (hKr _) hI rfl)
  · rintro l pre x a' W hl _ ⟨s, h1, h2⟩ rfl hlt
    refine wpIn_mono (hbody l pre x s W hlt h1 h2) fun e a' W' h => ?_
    cases e with
    | normal => exact ⟨h.1.from _, h.2.1, h.2.2⟩
    | _ => exact h.elim
  · rintro D xs W hD hS ⟨s, h1, h2⟩ hK
    refine hdone D xs s W hS h1 (h2.addObj hK (by have := hO.size; omega) fun p hp e => ?_)
    rcases hcel s p hp with h | h
    · obtain ⟨o', ho', hc'⟩ := h W D (h2.memH hp) e
      rw [hK] at ho'
      injection ho' with ho'
      subst ho'
      cases hc'
    · have := h D e; omega
  · rintro D c pre W _ _ h _
    exact h.elim
theorem OwnL.perm {base : Nat} {w : World} {ps qs : List Piece} (h : ps.Perm qs) (ho : OwnL base w ps) : OwnL base w qs := by
  induction h with
  | nil => trivial
  | cons x h ih => exact ⟨ho.1, ho.2.1, fun q hq => ho.2.2.1 q (h.mem_iff.2 hq), ih ho.2.2.2⟩
  | swap x y l =>
    obtain ⟨a, b, c, d, e, f, g⟩ := ho
    exact ⟨d, e, fun r hr => by
      rcases List.mem_cons.1 hr with e1 | hr
      · subst e1; exact fun b2 h1 h2 => c x (by simp) b2 h2 h1
      · exact f r hr, a, b, fun r hr => c r (by simp [hr]), g⟩
  | trans _ _ ih1 ih2 => exact ih2 (ih1 ho)
theorem Own.perm {w0 w : World} {ps qs : List Piece} (h : Own w0 w ps) (hp : ps.Perm qs) : Own w0 w qs := ⟨h.1, h.2.perm hp⟩
/-- The marks that ranges over functions leave behind. -/
def mk (D : Nat) : Piece := obj D (.deferred (some []))
def dfr (D : Nat) : Deferred := { target := .collected D, args := #[] }
theorem Own.mark {w0 w : World} {ps : List Piece} {D : Nat} {Ds : List Nat} (h : Own w0 w (mk D :: (ps ++ Ds.map mk))) : Own w0 w (ps ++ (D :: Ds).map mk) := h.perm List.perm_middle.symm
theorem mk_old {w0 w : World} {ps : List Piece} {Ds : List Nat} (h : Own w0 w (ps ++ Ds.map mk)) : ∀ p ∈ Ds.map mk, p.Cel ∨ ∀ b, p.own = some b → b < w.heap.size := fun p hp => .inr fun b e => p.lt w b (h.memH (by simp only [List.mem_append]; exact .inr hp)) e
theorem leaves_marks {fn : Func} {tmps : Array Value} {R : Ending → World → Prop} {w0 : World} {ps : List Piece} (h : ∀ w', Own w0 w' ps → ∃ v, (results fn tmps).run P w' = .ok v w' ∧ R (.returned v) w') :
    ∀ (Ds : List Nat) (w : World), Own w0 w (ps ++ Ds.map mk) → LeavesInM Fence.wide n P fn tmps R (Ds.map dfr) .returning w
  | [], w, hO => h w (by simpa using hO)
  | D :: Ds, w, hO => by
    have h1 : Own w0 w (mk D :: (ps ++ Ds.map mk)) := hO.perm List.perm_middle
    have hD : w.heap[D]? = some (.deferred (some [])) := h1.head
    refine ⟨by simp, .inl ⟨D, _, rfl, run_takeDeferred hD, leaves_marks h Ds _ (h1.tail.other (r := some D) (grownBy_putObj' w D _) fun k e => ?_)⟩⟩
    injection e with e
    subst e
    exact ⟨h1.2.2.1 D rfl, fun p hp e2 => h1.2.2.2.1 p hp D rfl e2⟩
theorem calls_of_wp_marks {f : FuncId} {fn : Func} {c : Code} {args : Array Value} {w : World} {R : Ending → World → Prop} (hf : P.funcs[f]? = some fn) (hb : fn.body = some c)
    (h : c.wp P (bodyPostM Fence.wide 10 P fn R) { tmps := args ++ Array.replicate (fn.ntmps - args.size) undef, defers := [] } w) : Calls P f args w R :=
  (callsIn_wide (n := 10)).1 (callsIn_of_wp_marks hf hb trivial (wpIn_wide.2 h) rfl)
end
end Go.Proofs.Ytmjbbihbcbhaoaa

namespace Go.Proofs.Ytmjbbihbcbhaoaa
open Go.RowKit

/-- The slots that a region fills. -/
def slotsOf (ops : Array Oper) : List Tmp := ops.toList.filterMap (·.dst)
/-- Those of them that an operation looks at. -/
def look (ops : Array Oper) (o : Oper) : List Tmp := (o.looksAt ops).filter fun s => (slotsOf ops).contains s
def puts (a : Act) (ss : List Tmp) (vs : Tmp → Value) : Act := ss.foldl (fun a s => a.put (some s) (vs s)) a
theorem puts_size (vs : Tmp → Value) : ∀ (ss : List Tmp) (a : Act), (puts a ss vs).tmps.size = a.tmps.size
  | [], _ => rfl
  | s :: ss, a => by
    show (puts (a.put (some s) (vs s)) ss vs).tmps.size = _
    rw [puts_size vs ss]
    simp [Act.put]
theorem puts_defers (vs : Tmp → Value) : ∀ (ss : List Tmp) (a : Act), (puts a ss vs).defers = a.defers
  | [], _ => rfl
  | s :: ss, a => (puts_defers vs ss (a.put (some s) (vs s))).trans rfl
theorem puts_at (vs : Tmp → Value) (t : Tmp) : ∀ (ss : List Tmp) (a : Act), (puts a ss vs).tmps[t]? = if t ∈ ss then (a.tmps[t]?).map (fun _ => vs t) else a.tmps[t]?
  | [], _ => by simp [puts]
  | s :: ss, a => by
    show (puts (a.put (some s) (vs s)) ss vs).tmps[t]? = _
    rw [puts_at vs t ss]
    have e : (a.put (some s) (vs s)).tmps[t]? = if s = t then (a.tmps[t]?).map (fun _ => vs t) else a.tmps[t]? := by
      simp only [Act.put, Array.getElem?_setIfInBounds]
      by_cases h : s = t
      · subst h
        by_cases h2 : s < a.tmps.size
        · simp [h2]
        · simp [h2]
      · simp [h]
    rw [e]
    by_cases h1 : t ∈ ss
    · by_cases h2 : s = t
      · simp [h1, h2]
        cases a.tmps[t]? <;> rfl
      · simp [h1, h2]
    · by_cases h2 : s = t
      · subst h2; simp [h1]
      · have h3 : ¬ t = s := fun e => h2 e.symm
        simp [h1, h2, h3]
theorem act_ext {a b : Act} (h : ∀ t : Nat, a.tmps[t]? = b.tmps[t]?) (k : a.defers = b.defers) : a = b := by
  cases a; cases b
  simp only at h k
  subst k
  congr 1
  exact Array.ext_getElem? h
theorem puts_same {a : Act} {vs us : Tmp → Value} {ss rs : List Tmp} (h : ∀ t, t ∈ ss ↔ t ∈ rs) (k : ∀ t ∈ ss, vs t = us t) : puts a ss vs = puts a rs us := by
  refine act_ext (fun t => ?_) (by rw [puts_defers, puts_defers])
  rw [puts_at, puts_at]
  by_cases ht : t ∈ ss
  · rw [if_pos ht, if_pos ((h t).1 ht), k t ht]
  · rw [if_neg ht, if_neg (fun e => ht ((h t).2 e))]

/-- The region's edges go backwards, and whoever looks at a slot of the region waits for one that fills it. -/
def tabOk (md : Region.Mode) (ops : Array Oper) : Bool :=
  Region.noSelect ops && (List.range ops.size).all fun i => match ops[i]? with
    | none => true
    | some o => o.dst.isSome && (o.after.all fun e => !Region.binds md e || decide (e.on < i)) &&
        (look ops o).all fun s => o.after.any fun e => Region.binds md e && ((ops[e.on]?).bind (·.dst) == some s)

section
variable {P : Program} {md : Region.Mode} {ops : Array Oper} {C : World → Prop} {T : Tmp → Value → World → Prop} {a0 : Act} {Q : Exit → Act → World → Prop}
/-- What is to be shown of one operation. -/
def StepT (P : Program) (ops : Array Oper) (C : World → Prop) (T : Tmp → Value → World → Prop) (a0 : Act) (o : Oper) : Prop :=
  ∀ (vs : Tmp → Value) (w : World), C w → (∀ s ∈ look ops o, T s (vs s) w) →
    (Region.wanted o (yielded ops (puts a0 (look ops o) vs).tmps) = true ∧ o.wp P (puts a0 (look ops o) vs) w (fun a' w' => a'.defers = a0.defers ∧ Below w.heap.size w w' ∧ ∀ d, o.dst = some d → T d (a'.tmps.getD d undef) w') fun _ _ _ => False) ∨
    (Region.wanted o (yielded ops (puts a0 (look ops o) vs).tmps) = false ∧ ∀ d, o.dst = some d → T d undef w)
def StepsT (P : Program) (ops : Array Oper) (C : World → Prop) (T : Tmp → Value → World → Prop) (a0 : Act) : List Oper → Prop
  | [] => True
  | o :: l => StepT P ops C T a0 o ∧ StepsT P ops C T a0 l
theorem StepsT.mem : ∀ {l : List Oper}, StepsT P ops C T a0 l → ∀ o ∈ l, StepT P ops C T a0 o
  | [], _, _, h => by cases h
  | x :: l, h, o, ho => by
    rcases List.mem_cons.1 ho with e | ho
    · subst e; exact h.1
    · exact StepsT.mem h.2 o ho
structure InvT (ops : Array Oper) (C : World → Prop) (T : Tmp → Value → World → Prop) (a0 : Act) (listed : Array Bool) (a : Act) (w : World) (L : List Tmp) (vs : Tmp → Value) : Prop where
  act : a = puts a0 L vs
  fact : ∀ s ∈ L, T s (vs s) w
  cls : C w
  all : ∀ j o d, ops[j]? = some o → listed.getD j true = true → o.dst = some d → d ∈ L
  sub : ∀ s ∈ L, s ∈ slotsOf ops
theorem upon_to {o : Oper} {a b : Act} {K K' : Act → World → Prop} {r : Result Next} (hr : ∀ d w', K ({ a with defers := d :: a.defers }.put o.dst undef) w' → False)
    (h : ∀ u w', K (a.put o.dst u) w' → K' (b.put o.dst u) w') (hh : o.upon P a K (fun _ _ _ => False) r) : o.upon P b K' Q r := by
  cases r with
  | ok n w' =>
    cases n <;> simp only [Oper.upon] at hh ⊢
    case value u => exact h _ _ hh
    case skip => exact h _ _ hh
    case defer d => exact (hr d w' hh).elim
    case enter f args =>
      refine Calls.mono hh fun e w'' he => ?_
      cases e with
      | returned u => exact h _ _ he
      | panicked c => exact he.elim
      | outgrown => obtain ⟨_, _, k⟩ := he; exact k.elim
    case row row args => exact Rows.mono hh fun u w'' he => h _ _ he
  | halt x w' => cases x <;> simp only [Oper.upon] at hh
theorem wpAny_table (hok : tabOk md ops = true) (hsz : ∀ s ∈ slotsOf ops, s < a0.tmps.size)
    (hC : ∀ w w', C w → Below w.heap.size w w' → C w') (hT : ∀ s v w w', T s v w → Below w.heap.size w w' → T s v w')
    (hs : ∀ o ∈ ops.toList, StepT P ops C T a0 o)
    (hdone : ∀ vs w, C w → (∀ s ∈ slotsOf ops, T s (vs s) w) → Q .normal (puts a0 (slotsOf ops) vs) w) :
    ∀ (fuel : Nat) (listed : Array Bool) (a : Act) (w : World) (L : List Tmp) (vs : Tmp → Value), listed.size = ops.size → (listed.toList.countP fun b => !b) ≤ fuel → InvT ops C T a0 listed a w L vs → wpAny P md ops Q fuel listed a w := by
  simp only [tabOk, Bool.and_eq_true, List.all_eq_true, List.mem_range] at hok
  obtain ⟨hsel, hok⟩ := hok
  have hopn : ∀ (i : Nat) (o : Oper), ops[i]? = some o → (∃ d, o.dst = some d) ∧ (∀ e ∈ o.after, Region.binds md e = true → e.on < i) ∧ ∀ s ∈ look ops o, ∃ e ∈ o.after, Region.binds md e = true ∧ ∃ o2, ops[e.on]? = some o2 ∧ o2.dst = some s := by
    intro i o ho
    have h := hok i (Array.getElem?_eq_some_iff.1 ho).1
    rw [ho] at h
    simp only [Bool.and_eq_true, List.all_eq_true] at h
    obtain ⟨⟨h2, h3⟩, h4⟩ := h
    refine ⟨Option.isSome_iff_exists.1 h2, fun e he hb => ?_, fun s hs => ?_⟩
    · have := Array.all_eq_true_iff_forall_mem.1 h3 e he
      simpa [hb] using this
    · have h5 := h4 s hs
      obtain ⟨e, he, hb⟩ := Array.any_eq_true'.1 h5
      simp only [Bool.and_eq_true, beq_iff_eq] at hb
      obtain ⟨o2, e2, e3⟩ := Option.bind_eq_some_iff.1 hb.2
      exact ⟨e, he, hb.1, o2, e2, e3⟩
  have hmem : ∀ (i : Nat) (o : Oper), ops[i]? = some o → o ∈ ops.toList := fun i o ho => by
    rw [← Array.getElem?_toList] at ho
    exact List.mem_of_getElem? ho
  have fin : ∀ (listed : Array Bool) (a : Act) (w : World) (L : List Tmp) (vs : Tmp → Value), InvT ops C T a0 listed a w L vs → (∀ j, j < ops.size → listed.getD j true = true) → Q .normal a w := by
    intro listed a w L vs hI hall
    have hsub : ∀ t, t ∈ L ↔ t ∈ slotsOf ops := fun t => ⟨hI.sub t, fun ht => by
      obtain ⟨o, ho, hd⟩ := List.mem_filterMap.1 ht
      obtain ⟨j, hj⟩ := List.mem_iff_getElem?.1 ho
      rw [Array.getElem?_toList] at hj
      exact hI.all j o t hj (hall j (Array.getElem?_eq_some_iff.1 hj).1) hd⟩
    rw [hI.act, puts_same hsub fun _ _ => rfl]
    exact hdone vs w hI.cls fun s hs => hI.fact s ((hsub s).2 hs)
  have empty : ∀ (listed : Array Bool), listed.size = ops.size → Region.ready md ops listed = [] → ∀ j, j < ops.size → listed.getD j true = true := by
    intro listed hl hr j
    induction j using Nat.strongRecOn with
    | _ j ih =>
      intro hj
      refine Classical.byContradiction fun hne => ?_
      have hf : listed.getD j true = false := by simpa using hne
      have hm : j ∈ Region.ready md ops listed := by
        have ho : ops[j]? = some ops[j] := Array.getElem?_eq_getElem hj
        simp only [Region.ready, List.mem_filter, List.mem_range]
        refine ⟨hj, ?_⟩
        rw [hf, ho]
        simp only [Bool.not_false, Bool.true_and, Option.map_some, Option.getD_some]
        refine Array.all_eq_true_iff_forall_mem.2 fun e he => ?_
        cases hb : Region.binds md e with
        | false => rfl
        | true =>
          have h1 := (hopn j _ ho).2.1 e he hb
          have h2 := ih e.on h1 (by omega)
          have h3 : e.on < listed.size := by omega
          simp only [Array.getD_eq_getD_getElem?, Array.getElem?_eq_getElem h3, Option.getD_some] at h2 ⊢
          simp [h2]
      rw [hr] at hm
      cases hm
  intro fuel
  induction fuel with
  | zero =>
    intro listed a w L vs hl hc hI
    have hall : ∀ j, j < ops.size → listed.getD j true = true := by
      intro j hj
      have h0 : (listed.toList.countP fun b => !b) = 0 := by omega
      rw [List.countP_eq_zero] at h0
      have h3 : j < listed.size := by omega
      have := h0 listed[j] (by simp)
      simp only [Array.getD_eq_getD_getElem?, Array.getElem?_eq_getElem h3, Option.getD_some]
      simpa using this
    refine ⟨?_, fin listed a w L vs hI hall⟩
    refine List.filter_eq_nil_iff.2 fun j hj => ?_
    rw [hall j (List.mem_range.1 hj)]
    simp
  | succ fuel ih =>
    intro listed a w L vs hl hc hI
    refine ⟨fun hr => fin listed a w L vs hI (empty listed hl hr), fun i hi => ?_⟩
    simp only [Region.ready, List.mem_filter, List.mem_range, Bool.and_eq_true, Bool.not_eq_true'] at hi
    obtain ⟨hi, hf, haft⟩ := hi
    have ho : ops[i]? = some ops[i] := Array.getElem?_eq_getElem hi
    generalize ops[i] = o at ho
    rw [ho] at haft
    simp only [Option.map_some, Option.getD_some] at haft
    obtain ⟨⟨d, hd⟩, h3, h4⟩ := hopn i o ho
    have hlk : ∀ s ∈ look ops o, s ∈ L := fun s hs => by
      obtain ⟨e, he, hb, o2, e2, e3⟩ := h4 s hs
      have := Array.all_eq_true_iff_forall_mem.1 haft e he
      simp only [hb, Bool.not_true, Bool.false_or] at this
      refine hI.all e.on o2 s e2 ?_ e3
      have h5 : e.on < listed.size := by rw [hl]; exact (Array.getElem?_eq_some_iff.1 e2).1
      simp only [Array.getD_eq_getD_getElem?, Array.getElem?_eq_getElem h5, Option.getD_some] at this ⊢
      exact this
    have hst := hs o (hmem i o ho) vs w hI.cls fun s hs => hI.fact s (hlk s hs)
    have hagree : ∀ t ∈ o.looksAt ops, a.tmps[t]? = (puts a0 (look ops o) vs).tmps[t]? := by
      intro t ht
      rw [hI.act, puts_at, puts_at]
      by_cases hL : t ∈ L
      · have : t ∈ look ops o := List.mem_filter.2 ⟨ht, by simpa using hI.sub t hL⟩
        rw [if_pos hL, if_pos this]
      · rw [if_neg hL, if_neg fun e => hL (hlk t e)]
    have hselo : ∀ cs b, o.op ≠ .select cs b := fun cs b => Region.noSelect_spec hsel i o cs b ho
    have hex : execOp a.eval o = execOp (puts a0 (look ops o) vs).eval o := execOp_congr o hselo fun x hx => by
      cases x with
      | tmp t =>
        have := hagree t (List.mem_append_left _ (List.mem_filterMap.2 ⟨.tmp t, by simpa using hx, rfl⟩))
        simp only [Act.eval, Array.getD_eq_getD_getElem?, this]
      | _ => rfl
    have hwt : Region.wanted o (yielded ops a.tmps) = Region.wanted o (yielded ops (puts a0 (look ops o) vs).tmps) := by
      unfold Region.wanted
      cases hg : o.guard with
      | none => rfl
      | some gw =>
        obtain ⟨g, want⟩ := gw
        have hy : yielded ops a.tmps g = yielded ops (puts a0 (look ops o) vs).tmps g := by
          unfold yielded
          cases ht : (ops[g]?).bind (·.dst) with
          | none => rfl
          | some t =>
            have := hagree t (by simp [Oper.looksAt, hg, ht])
            simp only [Option.bind_some, this]
        simp only [hy]
    have hdl : d < a0.tmps.size := hsz d (List.mem_filterMap.2 ⟨o, hmem i o ho, hd⟩)
    have next : ∀ u w', Below w.heap.size w w' → T d u w' → wpAny P md ops Q fuel (listed.setIfInBounds i true) (a.put o.dst u) w' := by
      intro u w' hb ht
      refine ih _ _ _ (d :: L) (fun t => if t = d then u else vs t) (by simpa using hl) ?_ ?_
      · have hil : i < listed.size := by omega
        have e1 : listed.toList[i]? = some false := by
          rw [Array.getElem?_toList, Array.getElem?_eq_getElem hil]
          simp only [Array.getD_eq_getD_getElem?, Array.getElem?_eq_getElem hil, Option.getD_some] at hf
          rw [hf]
        have : ∀ (l : List Bool) (k : Nat), l[k]? = some false → ((l.set k true).countP fun b => !b) + 1 = l.countP fun b => !b := by
          intro l
          induction l with
          | nil => intro k h; simp at h
          | cons b l ih2 =>
            intro k h
            cases k with
            | zero =>
              have : b = false := by simpa using h
              subst this
              simp
            | succ k =>
              have := ih2 k (by simpa using h)
              simp only [List.set_cons_succ, List.countP_cons]
              omega
        have h2 := this _ i e1
        rw [Array.toList_setIfInBounds]
        omega
      · refine ⟨?_, ?_, hC _ _ hI.cls hb, ?_, ?_⟩
        · rw [hI.act, hd]
          refine act_ext (fun t => ?_) (by rw [puts_defers]; exact puts_defers _ _ _)
          rw [puts_at]
          simp only [Act.put, Array.getElem?_setIfInBounds, puts_at, puts_size]
          by_cases e : t = d
          · subst e
            simp [hdl]
          · have e' : ¬ d = t := fun h => e h.symm
            simp [e, e']
        · intro s hs'
          rcases List.mem_cons.1 hs' with e | hs'
          · subst e; simpa using ht
          · by_cases e : s = d
            · subst e; simpa using ht
            · simp only [e, if_false]
              exact hT _ _ _ _ (hI.fact s hs') hb
        · intro j o2 d2 hj hl2 hd2
          by_cases e : i = j
          · subst e
            rw [ho] at hj
            injection hj with hj
            subst hj
            rw [hd] at hd2
            injection hd2 with hd2
            simp [hd2]
          · refine List.mem_cons_of_mem _ (hI.all j o2 d2 hj ?_ hd2)
            simpa only [Array.getD_eq_getD_getElem?, Array.getElem?_setIfInBounds_ne e] using hl2
        · intro s hs'
          rcases List.mem_cons.1 hs' with e | hs'
          · subst e; exact List.mem_filterMap.2 ⟨o, hmem i o ho, hd⟩
          · exact hI.sub s hs'
    unfold wpOp
    rw [ho]
    simp only [hwt]
    rcases hst with ⟨hw, hwp⟩ | ⟨hw, hu⟩
    · rw [if_pos hw]
      refine .inl ?_
      unfold Oper.wp at hwp ⊢
      rw [hex]
      refine upon_to (fun d' w' hk => ?_) (fun u w' hk => ?_) hwp
      · have := hk.1
        rw [hd] at this
        simp only [Act.put, puts_defers] at this
        exact absurd (congrArg List.length this) (by simp)
      have hk2 := hk.2.2 d hd
      rw [hd] at hk2
      have e : ((puts a0 (look ops o) vs).put (some d) u).tmps.getD d undef = u := by
        simp only [Act.put, Array.getD_eq_getD_getElem?, Array.getElem?_setIfInBounds, puts_size]
        simp [hdl]
      rw [e] at hk2
      exact next u w' hk.2.1 hk2
    · rw [if_neg (by rw [hw]; simp)]
      exact next undef w (Below.refl _ _) (hu d hd)
/-- For all values that the slots' words allow. -/
def stepFor (T : Tmp → Value → World → Prop) (w : World) : List Tmp → Act → (Act → Prop) → Prop
  | [], a, G => G a
  | s :: ss, a, G => ∀ x, T s x w → stepFor T w ss (a.put (some s) x) G
theorem stepFor.at_ {T : Tmp → Value → World → Prop} {w : World} {G : Act → Prop} {vs : Tmp → Value} : ∀ {ss : List Tmp} {a : Act}, stepFor T w ss a G → (∀ s ∈ ss, T s (vs s) w) → G (puts a ss vs)
  | [], _, h, _ => h
  | s :: ss, a, h, k => stepFor.at_ (ss := ss) (show stepFor T w ss (a.put (some s) (vs s)) G from h (vs s) (k s (by simp))) fun t ht => k t (by simp [ht])
/-- What is to be shown of one operation, in one state. -/
def StepG (P : Program) (ops : Array Oper) (T : Tmp → Value → World → Prop) (a0 : Act) (o : Oper) (a : Act) (w : World) : Prop :=
  (Region.wanted o (yielded ops a.tmps) = true ∧ o.wp P a w (fun a' w' => a'.defers = a0.defers ∧ Below w.heap.size w w' ∧ ∀ d, o.dst = some d → T d (a'.tmps.getD d undef) w') fun _ _ _ => False) ∨
    (Region.wanted o (yielded ops a.tmps) = false ∧ ∀ d, o.dst = some d → T d undef w)
theorem StepT.of {o : Oper} (ss : List Tmp) (e : look ops o = ss) (h : ∀ w, C w → stepFor T w ss a0 fun a => StepG P ops T a0 o a w) : StepT P ops C T a0 o := by
  subst e
  intro vs w hC hT
  exact (h w hC).at_ hT
theorem put_getD (a : Act) {d : Tmp} (u : Value) (h : d < a.tmps.size) : (a.put (some d) u).tmps.getD d undef = u := by
  simp [Act.put, Array.getD_eq_getD_getElem?, h]
theorem StepG.val {o : Oper} {a : Act} {w w' : World} {v : Value} (d : Tmp) (hw : Region.wanted o (yielded ops a.tmps) = true) (hrun : (execOp a.eval o).run P w = .ok (.value v) w') (hd : o.dst = some d) (hs : d < a.tmps.size) (hf : a.defers = a0.defers)
    (hb : Below w.heap.size w w') (ht : T d v w') : StepG P ops T a0 o a w := by
  refine .inl ⟨hw, ?_⟩
  unfold Oper.wp
  rw [hrun]
  refine ⟨by rw [hd]; exact hf, hb, fun d' hd' => ?_⟩
  rw [hd] at hd'
  injection hd' with hd'
  subst hd'
  rw [hd, put_getD a v hs]
  exact ht
theorem StepG.call {o : Oper} {a : Act} {w w1 : World} {f : FuncId} {args : Array Value} (d : Tmp) (hw : Region.wanted o (yielded ops a.tmps) = true) (hrun : (execOp a.eval o).run P w = .ok (.enter f args) w1) (hd : o.dst = some d) (hs : d < a.tmps.size) (hf : a.defers = a0.defers)
    (hc : Calls P f args w1 fun e w' => ∃ v, e = .returned v ∧ Below w.heap.size w w' ∧ T d v w') : StepG P ops T a0 o a w := by
  refine .inl ⟨hw, ?_⟩
  unfold Oper.wp
  rw [hrun]
  refine Calls.mono hc ?_
  rintro e w' ⟨v, rfl, hb, ht⟩
  refine ⟨by rw [hd]; exact hf, hb, fun d' hd' => ?_⟩
  rw [hd] at hd'
  injection hd' with hd'
  subst hd'
  rw [hd, put_getD a v hs]
  exact ht
/-- What a slot may hold: a word that stays true while memory grows. -/
structure Wd where
  holds : Value → World → Prop
  mono : ∀ v w w', holds v w → Below w.heap.size w w' → holds v w'
def Wd.is (c : Value) : Wd := ⟨fun v _ => v = c, fun _ _ _ h _ => h⟩
def Wd.any : Wd := ⟨fun _ _ => True, fun _ _ _ h _ => h⟩
/-- A value with a slice in it that reads as these cells. -/
def Wd.rd (f : Option Addr → Nat → Value) (xs : List Value) : Wd := ⟨fun v w => ∃ A c, v = f A c ∧ Rd w A xs, fun _ _ _ ⟨A, c, h, k⟩ hb => ⟨A, c, h, k.below hb⟩⟩
/-- The slots' words, by number; the others hold anything. -/
def tabOf (l : List (Tmp × Wd)) (s : Tmp) (v : Value) (w : World) : Prop := ((l.lookup s).getD .any).holds v w
theorem wp_region_table {id : Nat} {w0 w : World} {ps : List Piece} {l : List Oper} (N : Nat) (tb : List (Tmp × Wd)) (hO : Own w0 w ps) (hm : P.follows .mixedOrders = true) (hok : tabOk .any l.toArray = true) (ss : List Tmp) (hss : slotsOf l.toArray = ss) (hN : a0.tmps.size = N) (hsz : (ss.all fun s => decide (s < N)) = true)
    (hs : StepsT P l.toArray (fun w' => Own w0 w' ps) (tabOf tb) a0 l)
    (hdone : ∀ w', Own w0 w' ps → stepFor (tabOf tb) w' ss a0 fun a => Q .normal a w') : (Code.region id l.toArray true).wp P Q a0 w := by
  refine wp_region_any hm ?_
  subst hss
  refine wpAny_table (md := .any) (C := fun w' => Own w0 w' ps) (T := tabOf tb) (a0 := a0) hok (fun s h => ?_) (fun w1 w2 h hb => h.ext hb) (fun s v w1 w2 h hb => Wd.mono _ v w1 w2 h hb) (fun o ho => hs.mem o (by simpa using ho))
    (fun vs w' hC hT => (hdone w' hC).at_ hT) _ _ a0 _ [] (fun _ => undef) (by simp) ?_ ⟨rfl, fun _ h => by simp at h, hO.ext ((Below.refl _ _).drew), fun j o d h1 h2 _ => ?_, fun _ h => by simp at h⟩
  · rw [hN]
    simpa using List.all_eq_true.1 hsz s h
  · refine Nat.le_trans List.countP_le_length ?_
    simp
  · have hj : j < l.length := by simpa using (Array.getElem?_eq_some_iff.1 h1).1
    simp [hj] at h2
end
end Go.Proofs.Ytmjbbihbcbhaoaa
