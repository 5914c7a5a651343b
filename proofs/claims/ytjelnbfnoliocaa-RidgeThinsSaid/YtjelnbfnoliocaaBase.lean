/- General lemmas on memory for the walks of this seat: slices that read as lists, worlds that only grow, append; no program in sight. -/
import Derived.WalkKit
import Derived.WalkSpells
import Derived.WalkLawsBesides
import Derived.Lib.Hide
import Derived.Deep.QuietTactic
import Derived.BigQuiet
import Derived.Maps.AppendAt
import Derived.Deep.AppendLies
import Derived.RegionTactic
import Derived.Deep.RegionLaw
import Derived.Deep.DeepCutAuto
namespace Go.Proofs.Ytjelnbfnoliocaa
open Go.RowKit

theorem below_drewN {B : Nat} {a w : World} (h : Below B a w) (n : Nat) : Below B a (w.drewN n) := ⟨h.os, h.tape, h.output, h.size, h.block⟩
theorem below_alloc (w : World) (o : Obj) : Below w.heap.size w (w.alloc o) := (Below.refl _ _).alloc (Nat.le_refl _) _
theorem below_step {w w1 w2 : World} (h : Below w.heap.size w w1) (k : Below w1.heap.size w1 w2) : Below w.heap.size w w2 := h.trans (k.mono h.size)

/-- The slice with the address A reads as the cells xs. -/
def Rd (w : World) (A : Option Addr) (xs : List Value) : Prop :=
  xs = [] ∨ ∃ b off, A = some ⟨b, off, none⟩ ∧ b < w.heap.size ∧ ∀ j u, xs[j]? = some u → w.cell? ⟨b, off + j, none⟩ = some u

/-- The same, in a block from base on, of which nothing is frozen. -/
def Ow (w : World) (base : Nat) (A : Option Addr) (xs : List Value) : Prop :=
  xs = [] ∨ ∃ b off, A = some ⟨b, off, none⟩ ∧ base ≤ b ∧ b < w.heap.size ∧ (∀ j u, xs[j]? = some u → w.cell? ⟨b, off + j, none⟩ = some u) ∧ ∀ o, w.frozen? ⟨b, o, none⟩ = false

theorem Rd.nil (w : World) (A : Option Addr) : Rd w A [] := .inl rfl
theorem Ow.nil (w : World) (base : Nat) (A : Option Addr) : Ow w base A [] := .inl rfl
theorem Ow.rd {w : World} {base : Nat} {A : Option Addr} {xs : List Value} (h : Ow w base A xs) : Rd w A xs := by
  rcases h with h | ⟨b, off, h1, _, h3, h4, _⟩
  · exact .inl h
  · exact .inr ⟨b, off, h1, h3, h4⟩
theorem Ow.mono {w : World} {base base' : Nat} {A : Option Addr} {xs : List Value} (h : Ow w base A xs) (hb : base' ≤ base) : Ow w base' A xs := by
  rcases h with h | ⟨b, off, h1, h2, h3, h4, h5⟩
  · exact .inl h
  · exact .inr ⟨b, off, h1, by omega, h3, h4, h5⟩
theorem Rd.keep {w w' : World} {A : Option Addr} {xs : List Value} (h : Rd w A xs) (hs : w.heap.size ≤ w'.heap.size) (hc : ∀ b o u, b < w.heap.size → w.cell? ⟨b, o, none⟩ = some u → w'.cell? ⟨b, o, none⟩ = some u) : Rd w' A xs := by
  rcases h with h | ⟨b, off, h1, h3, h4⟩
  · exact .inl h
  · exact .inr ⟨b, off, h1, by omega, fun j u hu => hc _ _ _ h3 (h4 j u hu)⟩
theorem Rd.below {w w' : World} {A : Option Addr} {xs : List Value} (h : Rd w A xs) (hb : Below w.heap.size w w') : Rd w' A xs :=
  h.keep hb.size fun b o _ hlt hu => (hb.cell (p := ⟨b, o, none⟩) hlt).trans hu
theorem Ow.below {w w' : World} {base : Nat} {A : Option Addr} {xs : List Value} (h : Ow w base A xs) (hb : Below w.heap.size w w') : Ow w' base A xs := by
  rcases h with h | ⟨b, off, h1, h2, h3, h4, h5⟩
  · exact .inl h
  · exact .inr ⟨b, off, h1, h2, by have := hb.size; omega, fun j u hu => (hb.cell (p := ⟨b, off + j, none⟩) h3).trans (h4 j u hu), fun o => (hb.frozen (p := ⟨b, o, none⟩) h3).trans (h5 o)⟩
theorem Rd.drewN {w : World} {A : Option Addr} {xs : List Value} (h : Rd w A xs) (n : Nat) : Rd (w.drewN n) A xs := h
theorem Ow.drewN {w : World} {base : Nat} {A : Option Addr} {xs : List Value} (h : Ow w base A xs) (n : Nat) : Ow (w.drewN n) base A xs := h
theorem Rd.at_ {w : World} {A : Option Addr} {xs : List Value} (h : Rd w A xs) {j : Nat} {u : Value} (hu : xs[j]? = some u) :
    ∃ b off, A = some ⟨b, off, none⟩ ∧ b < w.heap.size ∧ ∀ j u, xs[j]? = some u → w.cell? ⟨b, off + j, none⟩ = some u := by
  rcases h with h | h
  · subst h; simp at hu
  · exact h

/-- Lists of things that take so many cells each. -/
def flat {α : Type} (enc : α → List Value) (l : List α) : List Value := l.flatMap enc
theorem flat_nil {α : Type} (enc : α → List Value) : flat enc [] = [] := rfl
theorem flat_cons {α : Type} (enc : α → List Value) (x : α) (l : List α) : flat enc (x :: l) = enc x ++ flat enc l := by simp [flat]
theorem flat_append {α : Type} (enc : α → List Value) (l l' : List α) : flat enc (l ++ l') = flat enc l ++ flat enc l' := by simp [flat]
theorem flat_length {α : Type} (enc : α → List Value) (sz : Nat) (hsz : ∀ x, (enc x).length = sz) (l : List α) : (flat enc l).length = l.length * sz := by
  induction l with
  | nil => simp [flat]
  | cons x l ih => rw [flat_cons, List.length_append, ih, hsz, List.length_cons, Nat.add_mul]; omega
theorem flat_get {α : Type} (enc : α → List Value) (sz : Nat) (hsz : ∀ x, (enc x).length = sz) : ∀ (l : List α) (k : Nat) (x : α) (j : Nat), l[k]? = some x → j < sz → (flat enc l)[k * sz + j]? = (enc x)[j]? := by
  intro l
  induction l with
  | nil => intro k x j h; simp at h
  | cons y l ih =>
    intro k x j h hj
    rw [flat_cons]
    cases k with
    | zero =>
      simp at h
      subst h
      rw [Nat.zero_mul, Nat.zero_add, List.getElem?_append_left (by rw [hsz]; exact hj)]
    | succ k =>
      simp at h
      rw [List.getElem?_append_right (by rw [hsz, Nat.add_mul]; omega), hsz, ← ih k x j h hj]
      congr 1
      rw [Nat.add_mul]
      omega
theorem flat_take {α : Type} (enc : α → List Value) (sz : Nat) (hsz : ∀ x, (enc x).length = sz) : ∀ (l : List α) (n : Nat), (flat enc l).take (n * sz) = flat enc (l.take n) := by
  intro l
  induction l with
  | nil => intro n; simp [flat]
  | cons x l ih =>
    intro n
    cases n with
    | zero => simp [flat]
    | succ n =>
      rw [List.take_succ_cons, flat_cons, flat_cons, List.take_append, hsz, ← ih n, Nat.add_mul]
      rw [List.take_of_length_le (by rw [hsz]; omega)]
      congr 2
      omega
theorem flat_drop {α : Type} (enc : α → List Value) (sz : Nat) (hsz : ∀ x, (enc x).length = sz) : ∀ (l : List α) (n : Nat), (flat enc l).drop (n * sz) = flat enc (l.drop n) := by
  intro l
  induction l with
  | nil => intro n; simp [flat]
  | cons x l ih =>
    intro n
    cases n with
    | zero => simp [flat]
    | succ n =>
      rw [List.drop_succ_cons, flat_cons, List.drop_append, hsz, ← ih n, Nat.add_mul]
      rw [List.drop_of_length_le (by rw [hsz]; omega)]
      simp

/-- Element number k of such a slice: its address and its cells. -/
theorem Rd.elem {α : Type} {enc : α → List Value} {sz : Nat} (hsz : ∀ x, (enc x).length = sz) (h0 : 0 < sz) {w : World} {A : Option Addr} {l : List α} (h : Rd w A (flat enc l)) {k : Nat} (hk : k < l.length) :
    ∃ b off, A = some ⟨b, off, none⟩ ∧ b < w.heap.size ∧ ∀ j u, (enc l[k])[j]? = some u → w.cell? ⟨b, off + k * sz + j, none⟩ = some u := by
  have hx : l[k]? = some l[k] := List.getElem?_eq_getElem hk
  have h1 := flat_get enc sz hsz l k l[k] 0 hx h0
  have h2 : (enc l[k])[0]? = some ((enc l[k])[0]'(by rw [hsz]; exact h0)) := List.getElem?_eq_getElem _
  obtain ⟨b, off, hA, hb, hc⟩ := h.at_ (h1.trans h2)
  refine ⟨b, off, hA, hb, fun j u hu => ?_⟩
  have hj : j < sz := by
    have := (List.getElem?_eq_some_iff.1 hu).1
    rw [hsz] at this
    exact this
  rw [Nat.add_assoc]
  exact hc _ _ ((flat_get enc sz hsz l k l[k] j hx hj).trans hu)

theorem rd_of_own {w : World} {base : Nat} {e : TypeId} {size n : Nat} {v : Value} {xs : List Value} (h : w.ownsRow base e size v n xs) : ∃ A c, v = .slice A n c ∧ Ow w base A xs := by
  rcases h.2 with ⟨rfl, rfl⟩ | ⟨g, cap, cur, rfl, hg, hh, h1, h2, h3, h4⟩
  · exact ⟨none, 0, rfl, .inl (List.eq_nil_of_length_eq_zero (by simpa using h.1))⟩
  · refine ⟨_, _, rfl, .inr ⟨g, 0, rfl, hg, (Array.getElem?_eq_some_iff.1 hh).1, fun j u hu => ?_, fun o => by simp [World.frozen?, hh]⟩⟩
    have hj : j < xs.length := (List.getElem?_eq_some_iff.1 hu).1
    simp only [World.cell?, hh, Nat.zero_add]
    rw [← h4, List.getElem?_take] at hu
    split at hu
    · simpa using hu
    · cases hu
theorem own_ext {w w' : World} {base : Nat} {e : TypeId} {size n : Nat} {v : Value} {xs : List Value} (h : w.ownsRow base e size v n xs) (hb : Below w.heap.size w w') : w'.ownsRow base e size v n xs := by
  refine ⟨h.1, ?_⟩
  rcases h.2 with h2 | ⟨g, cap, cur, hv, hg, hh, r⟩
  · exact .inl h2
  · exact .inr ⟨g, cap, cur, hv, hg, (hb.block g (Array.getElem?_eq_some_iff.1 hh).1).trans hh, r⟩
theorem own_cast {w : World} {base : Nat} {e : TypeId} {size n n' : Nat} {v : Value} {xs xs' : List Value} (h : w.ownsRow base e size v n xs) (hn : n = n') (hx : xs = xs') : w.ownsRow base e size v n' xs' := by
  subst hn; subst hx; exact h
theorem below_more {a w : World} (h : Below a.heap.size a w) (o : Obj) : Below a.heap.size a (w.alloc o) := h.alloc h.size o
theorem bcell {B : Nat} {W w1 : World} (hb : Below B W w1) : (∀ b o, b < B → w1.cell? ⟨b, o, none⟩ = W.cell? ⟨b, o, none⟩) ∧ (∀ b o, b < B → w1.frozen? ⟨b, o, none⟩ = W.frozen? ⟨b, o, none⟩) :=
  ⟨fun b o h => hb.cell (p := ⟨b, o, none⟩) h, fun b o h => hb.frozen (p := ⟨b, o, none⟩) h⟩
theorem own_mono {w : World} {base base' : Nat} {e : TypeId} {size n : Nat} {v : Value} {xs : List Value} (h : w.ownsRow base e size v n xs) (hb : base' ≤ base) : w.ownsRow base' e size v n xs := by
  refine ⟨h.1, ?_⟩
  rcases h.2 with h2 | ⟨g, cap, cur, hv, hg, hh, r⟩
  · exact .inl h2
  · exact .inr ⟨g, cap, cur, hv, by omega, hh, r⟩
theorem own_empty (w : World) (base : Nat) (e : TypeId) (size : Nat) (g : Nat) (hg : base ≤ g) (hh : w.heap[g]? = some (.cells #[] e (0, 0))) : w.ownsRow base e size (.slice (some ⟨g, 0, none⟩) 0 0) 0 [] :=
  ⟨by simp, .inr ⟨g, 0, #[], rfl, hg, hh, Nat.le_refl _, by decide, by simp, by simp⟩⟩
theorem own_empty_new (w : World) (base : Nat) (e : TypeId) (size : Nat) (n : Nat) (hn : n = w.heap.size) (hg : base ≤ n) : (w.alloc (.cells #[] e)).ownsRow base e size (.slice (some ⟨n, 0, none⟩) 0 0) 0 [] :=
  own_empty _ _ _ _ _ hg (by subst hn; exact heap_alloc_new w _)
theorem own_set {w : World} {base : Nat} {e : TypeId} {size n : Nat} {v : Value} {xs : List Value} (h : w.ownsRow base e size v n xs) {b o : Nat} (hb : b < base) (u : Value) : (w.setCell ⟨b, o, none⟩ u).ownsRow base e size v n xs :=
  ownsRow_setCell_below h hb u
theorem below_of_own {w w' : World} {base : Nat} {e : TypeId} {size n : Nat} {v : Value} {xs : List Value} (h : w.ownsRow base e size v n xs) (hg : w.grownBy w' v.ownBlock) (hb : base ≤ w.heap.size) : Below base w w' := by
  refine (Below.refl _ _).grown hg hb fun k hk => ?_
  rcases h.2 with ⟨rfl, _⟩ | ⟨g, cap, cur, rfl, hg', _⟩
  · simp [Value.ownBlock] at hk
  · simp [Value.ownBlock] at hk
    omega
theorem below_of_grown {w w' : World} (hg : w.grownBy w' none) : Below w.heap.size w w' := (Below.refl _ _).grown hg (Nat.le_refl _) (by simp)

theorem own_cap {w : World} {base : Nat} {e : TypeId} {size n c : Nat} {A : Option Addr} {xs : List Value} (h : w.ownsRow base e size (.slice A n c) n xs) : n ≤ c := by
  rcases h.2 with ⟨h1, rfl⟩ | ⟨g, cap, cur, h1, _, _, h2, _⟩
  · exact Nat.zero_le _
  · injection h1 with _ _ h1
    omega

/-- A block of the call's own whose first cells are cs. -/
def Box (w : World) (B : Nat) (cs : List Value) : Prop := (∀ i u, cs[i]? = some u → w.cell? ⟨B, i, none⟩ = some u) ∧ (∀ o, w.frozen? ⟨B, o, none⟩ = false) ∧ B < w.heap.size
theorem Box.new (w : World) (t : TypeId) (cs : Array Value) : Box (w.alloc (.cells cs t)) w.heap.size cs.toList :=
  ⟨fun i u h => by rw [World.cell?_alloc_new]; simpa using h, fun o => World.frozen?_alloc_new w cs t o, by simp⟩
theorem Box.alloc {w : World} {B : Nat} {cs : List Value} (h : Box w B cs) (o : Obj) : Box (w.alloc o) B cs :=
  ⟨fun i u hu => (World.cell?_alloc_lt w o ⟨B, i, none⟩ h.2.2).trans (h.1 i u hu), fun i => (World.frozen?_alloc_old w o ⟨B, i, none⟩ (Nat.ne_of_lt h.2.2)).trans (h.2.1 i), by have := h.2.2; simp; omega⟩
theorem Box.below {w w' : World} {B B' : Nat} {cs : List Value} (h : Box w B cs) (hb : Below B' w w') (hB : B < B') : Box w' B cs :=
  ⟨fun i u hu => (hb.cell (p := ⟨B, i, none⟩) hB).trans (h.1 i u hu), fun i => (hb.frozen (p := ⟨B, i, none⟩) hB).trans (h.2.1 i), by have := hb.size; have := h.2.2; omega⟩
theorem Box.ext {w w' : World} {B : Nat} {cs : List Value} (h : Box w B cs) (hb : Below w.heap.size w w') : Box w' B cs := h.below hb h.2.2
theorem Box.drewN {w : World} {B : Nat} {cs : List Value} (h : Box w B cs) (n : Nat) : Box (w.drewN n) B cs := h
theorem Box.set {w : World} {B i : Nat} {cs : List Value} (h : Box w B cs) (v : Value) (hi : i < cs.length) : Box (w.setCell ⟨B, i, none⟩ v) B (cs.set i v) := by
  refine ⟨fun j u hu => ?_, fun o => by rw [World.frozen?_setCell]; exact h.2.1 o, by simpa using h.2.2⟩
  by_cases hij : i = j
  · subst hij
    rw [World.cell?_setCell_same w _ v (h.1 i _ (List.getElem?_eq_getElem hi))]
    rw [List.getElem?_set_self hi] at hu
    exact hu
  · rw [World.cell?_setCell_other w _ _ v (by intro e; injection e with _ e; exact hij e)]
    rw [List.getElem?_set_ne hij] at hu
    exact h.1 j u hu
theorem Box.far {w : World} {B B' i : Nat} {cs : List Value} (h : Box w B cs) (v : Value) (hne : B' ≠ B) : Box (w.setCell ⟨B', i, none⟩ v) B cs := by
  refine ⟨fun j u hu => ?_, fun o => by rw [World.frozen?_setCell]; exact h.2.1 o, by simpa using h.2.2⟩
  rw [World.cell?_setCell_other w _ _ v (by intro e; injection e with e _; exact hne e)]
  exact h.1 j u hu
theorem Box.c1 {w : World} {B : Nat} {x : Value} (h : Box w B [x]) : w.cell? ⟨B, 0, none⟩ = some x ∧ ∀ o, w.frozen? ⟨B, o, none⟩ = false := ⟨h.1 0 _ rfl, h.2.1⟩
theorem Box.c2 {w : World} {B : Nat} {x y : Value} (h : Box w B [x, y]) : w.cell? ⟨B, 0, none⟩ = some x ∧ w.cell? ⟨B, 1, none⟩ = some y ∧ ∀ o, w.frozen? ⟨B, o, none⟩ = false := ⟨h.1 0 _ rfl, h.1 1 _ rfl, h.2.1⟩
theorem Box.c3 {w : World} {B : Nat} {x y z : Value} (h : Box w B [x, y, z]) : w.cell? ⟨B, 0, none⟩ = some x ∧ w.cell? ⟨B, 1, none⟩ = some y ∧ w.cell? ⟨B, 2, none⟩ = some z ∧ ∀ o, w.frozen? ⟨B, o, none⟩ = false := ⟨h.1 0 _ rfl, h.1 1 _ rfl, h.1 2 _ rfl, h.2.1⟩
theorem Box.c4 {w : World} {B : Nat} {x y z u : Value} (h : Box w B [x, y, z, u]) : w.cell? ⟨B, 0, none⟩ = some x ∧ w.cell? ⟨B, 1, none⟩ = some y ∧ w.cell? ⟨B, 2, none⟩ = some z ∧ w.cell? ⟨B, 3, none⟩ = some u ∧ ∀ o, w.frozen? ⟨B, o, none⟩ = false := ⟨h.1 0 _ rfl, h.1 1 _ rfl, h.1 2 _ rfl, h.1 3 _ rfl, h.2.1⟩
theorem Box.c5 {w : World} {B : Nat} {x y z u v : Value} (h : Box w B [x, y, z, u, v]) : w.cell? ⟨B, 0, none⟩ = some x ∧ w.cell? ⟨B, 1, none⟩ = some y ∧ w.cell? ⟨B, 2, none⟩ = some z ∧ w.cell? ⟨B, 3, none⟩ = some u ∧ w.cell? ⟨B, 4, none⟩ = some v ∧ ∀ o, w.frozen? ⟨B, o, none⟩ = false := ⟨h.1 0 _ rfl, h.1 1 _ rfl, h.1 2 _ rfl, h.1 3 _ rfl, h.1 4 _ rfl, h.2.1⟩

/-! A region that draws its order, whose operations read, and whose callees make memory at most. -/
structure ExtOf (w : World) where
  wld : World
  ext : Below w.heap.size w wld
theorem ExtOf.cell_lt {w : World} (x : ExtOf w) (b o : Nat) (h : b < w.heap.size) : x.wld.cell? ⟨b, o, none⟩ = w.cell? ⟨b, o, none⟩ := x.ext.cell (p := ⟨b, o, none⟩) h
theorem ExtOf.frozen_lt {w : World} (x : ExtOf w) (b o : Nat) (h : b < w.heap.size) : x.wld.frozen? ⟨b, o, none⟩ = w.frozen? ⟨b, o, none⟩ := x.ext.frozen (p := ⟨b, o, none⟩) h
attribute [go_sem] ExtOf.cell_lt ExtOf.frozen_lt
theorem wp_region_ext {P : Program} {id : Nat} {Q : Exit → Act → World → Prop} {a : Act} {w : World} {l : List Oper} (hm : P.follows .mixedOrders = true) (hB : Region.lexB .any l.toArray = true)
    (h : wpQuiet P l.toArray (fun w' => ∃ x : ExtOf w, w' = x.wld) (fun a' => ∀ w', (∃ x : ExtOf w, w' = x.wld) → Q .normal a' w') l a) : (Code.region id l.toArray true).wp P Q a w :=
  wp_region_quiet (C := fun w' => ∃ x : ExtOf w, w' = x.wld) hm hB ⟨⟨w.drew, (Below.refl _ _).drew⟩, rfl⟩ (by simpa using h)
theorem ext_of {P : Program} {f : FuncId} {args : Array Value} {w : World} {x : ExtOf w} {v : Value}
    (h : Calls P f args x.wld fun e w' => e = .returned v ∧ Below x.wld.heap.size x.wld w') : Calls P f args x.wld fun e w'' => e = .returned v ∧ ∃ y : ExtOf w, w'' = y.wld :=
  h.mono fun _ w' ⟨he, hb⟩ => ⟨he, ⟨w', below_step x.ext hb⟩, rfl⟩
theorem ext_same {P : Program} {f : FuncId} {args : Array Value} {w : World} {x : ExtOf w} {v : Value}
    (h : Calls P f args x.wld fun e w' => e = .returned v ∧ x.wld = w') : Calls P f args x.wld fun e w'' => e = .returned v ∧ ∃ y : ExtOf w, w'' = y.wld :=
  h.mono fun _ _ ⟨he, hb⟩ => ⟨he, x, hb.symm⟩

/-! append: onto a row of the call's own; onto a slice without spare room. -/
section
variable {P : Program} (w : World)
theorem rd_news {w : World} {A : Option Addr} {xs : List Value} (h : Rd w A xs) {ad : Addr} (hA : A = some ad) : ∀ j u, xs[j]? = some u → w.cell? (ad.add j) = some u := by
  intro j u hu
  obtain ⟨b, off, h1, _, h2⟩ := h.at_ hu
  rw [hA] at h1
  injection h1 with h1
  subst h1
  rw [Addr.add_lit]
  exact h2 j u hu

theorem run_app_own (base : Nat) (t ty e : TypeId) (i : TypeInfo) (z : Value) (size bytes : Nat) (ht : P.underlying t = some (.slice e)) (hi : P.info? e = some i) (hz : i.zero = some z)
    (hsize : i.size = size) (hby : i.bytes = bytes) (hzs : z.cells.size = size) (hsz : 0 < size)
    (v : Value) (n : Nat) (xs : List Value) (hown : w.ownsRow base e size v n xs)
    (A : Option Addr) (m c : Nat) (news : List Value) (hr : Rd w A news) (hm : news.length = m * size) (h1 : ∀ u ∈ news, u.oneCell' = true)
    (h63 : n + m ≤ maxLen) (hbytes : (n + m) * bytes ≤ 140737488355328) (hbase : base ≤ w.heap.size) :
    ∃ v' w', (Builtin.append_ #[t, t] ty #[v, .slice A m c]).run P w = .ok v' w' ∧ w'.ownsRow base e size v' (n + m) (xs ++ news) ∧ w.grownBy w' v.ownBlock ∧
      (v'.ownBlock = v.ownBlock ∨ v'.ownBlock = some w.heap.size) := by
  rcases A with _ | ad
  · have hn : news = [] := by
      rcases hr with h | ⟨b, off, h, _⟩
      · exact h
      · cases h
    subst hn
    have hm0 : m = 0 := by
      rcases Nat.eq_zero_or_pos m with h0 | h0
      · exact h0
      · have := Nat.mul_pos h0 hsz
        simp at hm
        omega
    subst hm0
    refine ⟨v, w, ?_, by simpa using hown, World.grownBy.refl w _, .inl rfl⟩
    rcases hown.2 with ⟨rfl, rfl⟩ | ⟨g, cap, cur, rfl, _, _, hnc, _⟩
    · simp [Builtin.append_, run_underlying ht, sizeOf, typeInfo, hi, Builtin.lenOf, Builtin.firstCells]
    · simp [Builtin.append_, run_underlying ht, sizeOf, typeInfo, hi, Builtin.lenOf, Builtin.firstCells, hnc, storeCells]
  · obtain ⟨v', w', hrun, h2, h3, _, h5⟩ := run_append_own_at (P := P) w base t ty e i z size bytes ht hi hz hsize hby hzs hsz v n xs hown ad m c news hm (rd_news hr rfl) h1 h63 hbytes hbase
    exact ⟨v', w', hrun, h2, h3, h5⟩

/-- What becomes of an append onto a slice without spare room. -/
def FullApp (w : World) (base : Nat) (e size : Nat) (A : Option Addr) (olds : List Value) (m N : Nat) (XS : List Value) (A' : Option Addr) (c' : Nat) (w' : World) : Prop :=
  Below w.heap.size w w' ∧ (Ow w base A olds → base ≤ w.heap.size → Ow w' base A' XS) ∧ Rd w' A' XS ∧ (0 < m → w'.ownsRow w.heap.size e size (.slice A' N c') N XS) ∧ N ≤ c'

theorem run_app_full (base : Nat) (t ty e : TypeId) (i : TypeInfo) (z : Value) (size bytes : Nat) (ht : P.underlying t = some (.slice e)) (hi : P.info? e = some i) (hz : i.zero = some z)
    (hsize : i.size = size) (hby : i.bytes = bytes) (hzs : z.cells.size = size) (hsz : 0 < size)
    (A : Option Addr) (n : Nat) (olds : List Value) (ho : Rd w A olds) (hn : olds.length = n * size)
    (A2 : Option Addr) (m c : Nat) (news : List Value) (hr : Rd w A2 news) (hm : news.length = m * size) (h1 : ∀ u ∈ news, u.oneCell' = true)
    (h63 : n + m ≤ maxLen) (hbytes : (n + m) * bytes ≤ 140737488355328) :
    ∃ A' c' w', (Builtin.append_ #[t, t] ty #[.slice A n n, .slice A2 m c]).run P w = .ok (.slice A' (n + m) c') w' ∧ FullApp w base e size A olds m (n + m) (olds ++ news) A' c' w' := by
  rcases Nat.eq_zero_or_pos m with h0 | h0
  · subst h0
    have hnn : news = [] := List.eq_nil_of_length_eq_zero (by simpa using hm)
    subst hnn
    refine ⟨A, n, w, ?_, Below.refl _ _, fun h _ => by simpa using h, by simpa using ho, fun h => absurd h (by omega), Nat.le_refl _⟩
    rcases A2 with _ | ad
    · cases A <;> simp [Builtin.append_, run_underlying ht, sizeOf, typeInfo, hi, Builtin.lenOf, Builtin.firstCells, storeCells]
    · have hl : (loadCells ad 0).run P w = .ok #[] w := by simpa [Builtin.firstCells] using run_firstCells_some (P := P) w size 0 ad 0 c [] (by simp) (by simp)
      cases A <;> simp [Builtin.append_, run_underlying ht, sizeOf, typeInfo, hi, Builtin.lenOf, Builtin.firstCells, storeCells, hl]
  · have hA2 : ∃ ad, A2 = some ad := by
      rcases hr with h | ⟨b, off, h, _⟩
      · subst h
        have := Nat.mul_pos h0 hsz
        simp at hm
        omega
      · exact ⟨_, h⟩
    obtain ⟨ad, rfl⟩ := hA2
    rcases A with _ | b
    · have holds : olds = [] := by
        rcases ho with h | ⟨b, off, h, _⟩
        · exact h
        · cases h
      subst holds
      have hn0 : n = 0 := by
        rcases Nat.eq_zero_or_pos n with h' | h'
        · exact h'
        · have := Nat.mul_pos h' hsz
          simp at hn
          omega
      subst hn0
      obtain ⟨v', w', hrun, r1, r2, _⟩ := run_append_own (P := P) w w.heap.size t ty e i z size bytes ht hi hz hsize hby hzs hsz (.slice none 0 0) 0 [] (World.ownsRow_nil w _ e size) ad m c news hm (rd_news hr rfl) h1 h63 hbytes (Nat.le_refl _)
      obtain ⟨A', c', rfl, hw⟩ := rd_of_own r1
      exact ⟨A', c', w', hrun, below_of_grown (by simpa [Value.ownBlock] using r2), fun _ hb => hw.mono hb, hw.rd, fun _ => r1, own_cap r1⟩
    · obtain ⟨v', w', hrun, r1, r2⟩ := run_append_arg_grows (P := P) w t ty e i z size bytes ht hi hz hsize hby hzs hsz b n n olds hn (rd_news ho rfl) ad m c news hm (rd_news hr rfl) (by omega) h63 hbytes
      obtain ⟨A', c', rfl, hw⟩ := rd_of_own r1
      exact ⟨A', c', w', hrun, below_of_grown r2, fun _ hb => hw.mono hb, hw.rd, fun _ => r1, own_cap r1⟩

theorem wp_app {o : Oper} {a : Act} {K : Act → World → Prop} {Q : Exit → Act → World → Prop} (s x : Operand) (t : TypeId)
    (ho : o.op = .call { callee := .builtin .append, args := #[s, x], argTypes := #[t, t] }) (v u : Value) (hs : a.eval s = v) (hx : a.eval x = u) {v' : Value} {w' : World}
    (hrun : (Builtin.append_ #[t, t] o.type #[v, u]).run P w = .ok v' w') (h : K (a.put o.dst v') w') : o.wp P a w K Q := by
  unfold Oper.wp execOp
  simp only [ho, resolve, invoke, builtin, Sem.run_bind, Sem.run_pure, Result.andThen_ok, List.map_toArray, List.map_cons, List.map_nil, hs, hx, hrun]
  exact h

theorem wpList_app_own {ops : Array Oper} {rest : List Oper} {o : Oper} {a : Act} {Q : Exit → Act → World → Prop} (hgd : o.guard = none) (s x : Operand) (t : TypeId)
    (ho : o.op = .call { callee := .builtin .append, args := #[s, x], argTypes := #[t, t] })
    (base : Nat) (e : TypeId) (i : TypeInfo) (z : Value) (size bytes : Nat) (ht : P.underlying t = some (.slice e)) (hi : P.info? e = some i) (hz : i.zero = some z)
    (hsize : i.size = size) (hby : i.bytes = bytes) (hzs : z.cells.size = size) (hsz : 0 < size)
    (v : Value) (n : Nat) (xs : List Value) (hs : a.eval s = v)
    (A : Option Addr) (m c : Nat) (news : List Value) (hx : a.eval x = .slice A m c) (N : Nat) (XS : List Value)
    (h : ∀ A' c' w', w'.ownsRow base e size (.slice A' N c') N XS → Below base w w' → w.grownBy w' v.ownBlock → ((Value.slice A' N c').ownBlock = v.ownBlock ∨ (Value.slice A' N c').ownBlock = some w.heap.size) → wpList P ops Q rest (a.put o.dst (.slice A' N c')) w')
    (hN : n + m = N) (hX : xs ++ news = XS) (hown : w.ownsRow base e size v n xs) (hr : Rd w A news) (hm : news.length = m * size) (h1 : ∀ u ∈ news, u.oneCell' = true)
    (h63 : n + m ≤ maxLen) (hbytes : (n + m) * bytes ≤ 140737488355328) (hbase : base ≤ w.heap.size) : wpList P ops Q (o :: rest) a w := by
  obtain ⟨v', w', hrun, h2, h3, h4⟩ := run_app_own (P := P) w base t o.type e i z size bytes ht hi hz hsize hby hzs hsz v n xs hown A m c news hr hm h1 h63 hbytes hbase
  subst hN; subst hX
  obtain ⟨A', c', rfl, _⟩ := rd_of_own h2
  exact wpList_plain hgd fun _ hK => wp_app w s x t ho v _ hs hx hrun (hK _ _ (h A' c' w' h2 (below_of_own hown h3 hbase) h3 h4))

theorem wpList_app_full {ops : Array Oper} {rest : List Oper} {o : Oper} {a : Act} {Q : Exit → Act → World → Prop} (hgd : o.guard = none) (s x : Operand) (t : TypeId)
    (ho : o.op = .call { callee := .builtin .append, args := #[s, x], argTypes := #[t, t] })
    (base : Nat) (e : TypeId) (i : TypeInfo) (z : Value) (size bytes : Nat) (ht : P.underlying t = some (.slice e)) (hi : P.info? e = some i) (hz : i.zero = some z)
    (hsize : i.size = size) (hby : i.bytes = bytes) (hzs : z.cells.size = size) (hsz : 0 < size)
    (A1 : Option Addr) (n : Nat) (olds : List Value) (hs : a.eval s = .slice A1 n n)
    (A : Option Addr) (m c : Nat) (news : List Value) (hx : a.eval x = .slice A m c) (N : Nat) (XS : List Value)
    (h : ∀ A' c' w', FullApp w base e size A1 olds m N XS A' c' w' → wpList P ops Q rest (a.put o.dst (.slice A' N c')) w')
    (hN : n + m = N) (hX : olds ++ news = XS) (hr1 : Rd w A1 olds) (hn : olds.length = n * size) (hr : Rd w A news) (hm : news.length = m * size) (h1 : ∀ u ∈ news, u.oneCell' = true)
    (h63 : n + m ≤ maxLen) (hbytes : (n + m) * bytes ≤ 140737488355328) : wpList P ops Q (o :: rest) a w := by
  obtain ⟨A', c', w', hrun, h2⟩ := run_app_full (P := P) w base t o.type e i z size bytes ht hi hz hsize hby hzs hsz A1 n olds hr1 hn A m c news hr hm h1 h63 hbytes
  subst hN; subst hX
  exact wpList_plain hgd fun _ hK => wp_app w s x t ho _ _ hs hx hrun (hK _ _ (h A' c' w' h2))

theorem step_app_full {ops : Array Oper} {o : Oper} {a : Act} {K : Act → World → Prop} {Q : Exit → Act → World → Prop} {E : Prop} (hgd : o.guard = none) (s x : Operand) (t : TypeId)
    (ho : o.op = .call { callee := .builtin .append, args := #[s, x], argTypes := #[t, t] })
    (base : Nat) (e : TypeId) (i : TypeInfo) (z : Value) (size bytes : Nat) (ht : P.underlying t = some (.slice e)) (hi : P.info? e = some i) (hz : i.zero = some z)
    (hsize : i.size = size) (hby : i.bytes = bytes) (hzs : z.cells.size = size) (hsz : 0 < size)
    (A1 : Option Addr) (n : Nat) (olds : List Value) (hs : a.eval s = .slice A1 n n)
    (A : Option Addr) (m c : Nat) (news : List Value) (hx : a.eval x = .slice A m c) (N : Nat) (XS : List Value)
    (h : ∀ A' c' w', FullApp w base e size A1 olds m N XS A' c' w' → K (a.put o.dst (.slice A' N c')) w')
    (hN : n + m = N) (hX : olds ++ news = XS) (hr1 : Rd w A1 olds) (hn : olds.length = n * size) (hr : Rd w A news) (hm : news.length = m * size) (h1 : ∀ u ∈ news, u.oneCell' = true)
    (h63 : n + m ≤ maxLen) (hbytes : (n + m) * bytes ≤ 140737488355328) :
    if Region.wanted o (yielded ops a.tmps) = true then Oper.wp P o a w K Q else E := by
  obtain ⟨A', c', w', hrun, h2⟩ := run_app_full (P := P) w base t o.type e i z size bytes ht hi hz hsize hby hzs hsz A1 n olds hr1 hn A m c news hr hm h1 h63 hbytes
  subst hN; subst hX
  have hw : Region.wanted o (yielded ops a.tmps) = true := by simp [Region.wanted, hgd]
  rw [if_pos hw]
  exact wp_app w s x t ho _ _ hs hx hrun (h A' c' w' h2)
end

theorem ret_int {k : IntKind} {a b : Int} (h : a = b) : Ending.returned (.int k a) = .returned (.int k b) := by rw [h]
end Go.Proofs.Ytjelnbfnoliocaa
