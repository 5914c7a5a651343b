/- General lemmas on memory, third part: what a call owns, piece by piece, each piece a block that no other one shares; no program in sight. No condition. -/
import Derived.Test.YtjelnbfnoliocaaBb
import Derived.Laws.EntriesVeiled
namespace Go.Proofs.Ytjelnbfnoliocaa
open Go.RowKit

/-- A thing that is true of a world by one of its blocks, or by none. -/
structure Piece where
  own : Option Nat
  holds : World → Prop
  loc : ∀ w w', (∀ b, own = some b → w'.heap[b]? = w.heap[b]?) → holds w → holds w'
  lt : ∀ w b, holds w → own = some b → b < w.heap.size

/-- Block b holds just these cells, none of them frozen. -/
def box (b : Nat) (t : TypeId) (cs : List Value) : Piece where
  own := some b
  holds := fun w => w.heap[b]? = some (.cells cs.toArray t (0, 0))
  loc := fun _ _ h k => (h b rfl).trans k
  lt := fun _ _ h e => by injection e with e; subst e; exact (Array.getElem?_eq_some_iff.1 h).1
/-- A slice value that is nil or has a block of its own. -/
def row (e : TypeId) (size : Nat) (v : Value) (n : Nat) (xs : List Value) : Piece where
  own := v.ownBlock
  holds := fun w => w.ownsRow 0 e size v n xs
  loc := fun w w' h k => by
    refine ⟨k.1, ?_⟩
    rcases k.2 with h2 | ⟨g, cap, cur, rfl, hg, hh, r⟩
    · exact .inl h2
    · exact .inr ⟨g, cap, cur, rfl, hg, (h g rfl).trans hh, r⟩
  lt := fun _ _ h e => (h.lt _ e).2

def OwnL (base : Nat) (w : World) : List Piece → Prop
  | [] => True
  | p :: ps => p.holds w ∧ (∀ b, p.own = some b → base ≤ b) ∧ (∀ q ∈ ps, ∀ b, p.own = some b → q.own ≠ some b) ∧ OwnL base w ps
/-- Since w0 nothing has changed that was there, and these pieces are the call's own. -/
def Own (w0 w : World) (ps : List Piece) : Prop := Below w0.heap.size w0 w ∧ OwnL w0.heap.size w ps

section
variable {w0 w w' : World} {ps : List Piece} {base : Nat}
theorem OwnL.all {w : World} : ∀ {ps : List Piece}, OwnL base w ps → ∀ p ∈ ps, p.holds w ∧ ∀ b, p.own = some b → base ≤ b
  | [], _, _, h => by cases h
  | q :: ps, h, p, hp => by
    rcases List.mem_cons.1 hp with e | hp
    · subst e; exact ⟨h.1, h.2.1⟩
    · exact h.2.2.2.all p hp
theorem OwnL.keep {w w' : World} : ∀ {ps : List Piece}, OwnL base w ps → (∀ p ∈ ps, ∀ b, p.own = some b → w'.heap[b]? = w.heap[b]?) → OwnL base w' ps
  | [], _, _ => trivial
  | p :: ps, h, k => ⟨p.loc w w' (k p (by simp)) h.1, h.2.1, h.2.2.1, h.2.2.2.keep fun q hq => k q (by simp [hq])⟩
theorem OwnL.mono {b b' : Nat} {w : World} (hb : b ≤ b') : ∀ {ps : List Piece}, OwnL b' w ps → OwnL b w ps
  | [], _ => trivial
  | _ :: _, h => ⟨h.1, fun k e => Nat.le_trans hb (h.2.1 k e), h.2.2.1, OwnL.mono hb h.2.2.2⟩
theorem Own.bel (h : Own w0 w ps) : Below w0.heap.size w0 w := h.1
theorem Own.size (h : Own w0 w ps) : w0.heap.size ≤ w.heap.size := h.1.size
theorem Own.start (w : World) : Own w w [] := ⟨Below.refl _ _, trivial⟩
theorem Own.cast (h : Own w0 w ps) {qs : List Piece} (e : ps = qs) : Own w0 w qs := e ▸ h
theorem Own.ext (h : Own w0 w ps) (hb : Below w.heap.size w w') : Own w0 w' ps :=
  ⟨below_step h.1 hb, h.2.keep fun p hp b e => hb.block b (p.lt w b (h.2.all p hp).1 e)⟩
theorem Own.drewN (h : Own w0 w ps) (n : Nat) : Own w0 (w.drewN n) ps := h.ext (below_drewN (Below.refl _ _) n)
theorem Own.memH (h : Own w0 w ps) {p : Piece} (hp : p ∈ ps) : p.holds w := (h.2.all p hp).1
theorem Own.get (h : Own w0 w ps) (i : Nat) {p : Piece} (hp : ps[i]? = some p) : p.holds w := h.memH (List.mem_of_getElem? hp)
theorem Own.getBase (h : Own w0 w ps) (i : Nat) {p : Piece} (hp : ps[i]? = some p) : ∀ b, p.own = some b → w0.heap.size ≤ b := (h.2.all p (List.mem_of_getElem? hp)).2
theorem Own.bx (h : Own w0 w ps) (i : Nat) {b : Nat} {t : TypeId} {cs : List Value} (hp : ps[i]? = some (box b t cs)) : Box w b cs := by
  have hh : w.heap[b]? = some (.cells cs.toArray t (0, 0)) := h.get i hp
  exact ⟨fun j u hu => by simp [World.cell?, hh, hu], fun o => by simp [World.frozen?, hh], (Array.getElem?_eq_some_iff.1 hh).1⟩
theorem Own.new (h : Own w0 w ps) (t : TypeId) (cs : Array Value) : Own w0 (w.alloc (.cells cs t)) (box w.heap.size t cs.toList :: ps) :=
  ⟨(h.ext (below_alloc _ _)).1, by show _ = _; rw [heap_alloc_new], fun b e => by injection e with e; subst e; exact h.size,
    fun q hq b e e2 => by injection e with e; subst e; have := q.lt w _ (h.memH hq) e2; omega, (h.ext (below_alloc _ _)).2⟩
theorem Own.new' (h : Own w0 w ps) (t : TypeId) (cs : Array Value) {B : Nat} (hB : B = w.heap.size) : Own w0 (w.alloc (.cells cs t)) (box B t cs.toList :: ps) := by subst hB; exact h.new t cs
theorem Own.tail {p : Piece} (h : Own w0 w (p :: ps)) : Own w0 w ps := ⟨h.1, h.2.2.2.2⟩
theorem Own.head {p : Piece} (h : Own w0 w (p :: ps)) : p.holds w := h.2.1
theorem OwnL.split {w : World} : ∀ {ps qs : List Piece}, OwnL base w (ps ++ qs) → OwnL base w ps ∧ OwnL base w qs ∧ ∀ p ∈ ps, ∀ q ∈ qs, ∀ b, p.own = some b → q.own ≠ some b
  | [], _, h => ⟨trivial, h, fun _ h => by cases h⟩
  | p :: ps, qs, h => by
    obtain ⟨a, b, c, d⟩ := h
    obtain ⟨e, f, g⟩ := OwnL.split d
    refine ⟨⟨a, b, fun q hq => c q (by simp [hq]), e⟩, f, fun r hr q hq => ?_⟩
    rcases List.mem_cons.1 hr with e1 | hr
    · subst e1; exact c q (by simp [hq])
    · exact g r hr q hq
theorem OwnL.join {w : World} : ∀ {ps qs : List Piece}, OwnL base w ps → OwnL base w qs → (∀ p ∈ ps, ∀ q ∈ qs, ∀ b, p.own = some b → q.own ≠ some b) → OwnL base w (ps ++ qs)
  | [], _, _, h, _ => h
  | p :: ps, qs, h, k, m => ⟨h.1, h.2.1, fun q hq => (List.mem_append.1 hq).elim (h.2.2.1 q) (m p (by simp) q), h.2.2.2.join k fun r hr => m r (by simp [hr])⟩
theorem Own.dropLast {qs : List Piece} (h : Own w0 w (qs ++ ps)) : Own w0 w ps := ⟨h.1, h.2.split.2.1⟩
theorem Own.takeFirst {qs : List Piece} (h : Own w0 w (qs ++ ps)) : Own w0 w qs := ⟨h.1, h.2.split.1⟩
theorem Own.swap {p q : Piece} (h : Own w0 w (p :: q :: ps)) : Own w0 w (q :: p :: ps) := by
  obtain ⟨a, b, c, d, e, f, g, k⟩ := h
  exact ⟨a, e, f, fun r hr => by
    rcases List.mem_cons.1 hr with e1 | hr
    · subst e1; exact fun b2 h1 h2 => d q (by simp) b2 h2 h1
    · exact g r hr, b, c, fun r hr => d r (by simp [hr]), k⟩
/-- The pieces in a shorter list of the same ones, whatever their order. -/
theorem Own.sub {qs : List Piece} (h : Own w0 w ps) (is : List Nat) (hnd : is.Nodup) (e : is.map (fun i => ps[i]?) = qs.map some) : Own w0 w qs := by
  refine ⟨h.1, ?_⟩
  have apart : ∀ (ps : List Piece) (i j : Nat) (p q : Piece), OwnL w0.heap.size w ps → i ≠ j → ps[i]? = some p → ps[j]? = some q → ∀ b, p.own = some b → q.own ≠ some b := by
    intro ps
    induction ps with
    | nil => intro i j p q _ _ h; simp at h
    | cons x ps ih =>
      intro i j p q ho hne hi hj b hb hq
      rcases i with _ | i <;> rcases j with _ | j
      · exact hne rfl
      · simp at hi hj; subst hi; exact ho.2.2.1 q (List.mem_of_getElem? hj) b hb hq
      · simp at hi hj; subst hj; exact ho.2.2.1 p (List.mem_of_getElem? hi) b hq hb
      · exact ih i j p q ho.2.2.2 (by omega) (by simpa using hi) (by simpa using hj) b hb hq
  have ho := h.2
  clear h
  induction is generalizing qs with
  | nil => cases qs <;> simp_all [OwnL]
  | cons i is ih =>
    rcases qs with _ | ⟨q, qs⟩
    · simp at e
    simp only [List.map_cons, List.cons.injEq] at e
    obtain ⟨e1, e2⟩ := e
    rw [List.nodup_cons] at hnd
    refine ⟨(ho.all q (List.mem_of_getElem? e1)).1, (ho.all q (List.mem_of_getElem? e1)).2, fun r hr => ?_, ih hnd.2 e2⟩
    obtain ⟨j, hj⟩ := List.mem_iff_getElem?.1 hr
    have : (is.map (fun i => ps[i]?))[j]? = some (some r) := by rw [e2]; simp [hj]
    rw [List.getElem?_map] at this
    obtain ⟨k, hk, hk2⟩ := Option.map_eq_some_iff.1 this
    exact apart ps i k q r ho (fun e => hnd.1 (e ▸ List.mem_of_getElem? hk)) e1 hk2

theorem OwnL.setAt {w w' : World} : ∀ {ps : List Piece} (i : Nat) {p q : Piece}, OwnL base w ps → ps[i]? = some p → q.holds w' → (∀ b, q.own = some b → p.own = some b ∨ (w.heap.size ≤ b ∧ base ≤ b)) →
    (∀ b, some b ≠ p.own → b < w.heap.size → w'.heap[b]? = w.heap[b]?) → OwnL base w' (ps.set i q)
  | [], i, p, q, _, h, _, _, _ => by simp at h
  | x :: ps, 0, p, q, ho, h, hq, hb, hk => by
    have e : x = p := by simpa using h
    subst e
    obtain ⟨h1, h2, h3, h4⟩ := ho
    refine ⟨hq, fun b e => (hb b e).elim (h2 b) And.right, fun r hr b e e2 => (hb b e).elim (fun e1 => h3 r hr b e1 e2) fun k => ?_, h4.keep fun r hr b e => hk b (fun e1 => h3 r hr b e1.symm e) (r.lt w b (h4.all r hr).1 e)⟩
    have := r.lt w b (h4.all r hr).1 e2
    omega
  | x :: ps, i + 1, p, q, ho, h, hq, hb, hk => by
    have h' : ps[i]? = some p := by simpa using h
    obtain ⟨h1, h2, h3, h4⟩ := ho
    have hm := List.mem_of_getElem? h'
    refine ⟨x.loc w w' (fun b e => hk b (fun e1 => h3 p hm b e e1.symm) (x.lt w b h1 e)) h1, h2, fun r hr b e e2 => ?_, h4.setAt i h' hq hb hk⟩
    rcases List.mem_or_eq_of_mem_set hr with hr | e3
    · exact h3 r hr b e e2
    · subst e3
      rcases hb b e2 with e4 | k
      · exact h3 p hm b e e4
      · have := x.lt w b h1 e; omega
theorem heap_set (w : World) (b o : Nat) (cs : List Value) (t : TypeId) (v : Value) (hg : w.heap[b]? = some (.cells cs.toArray t (0, 0))) : (w.setCell ⟨b, o, none⟩ v).heap[b]? = some (.cells (cs.set o v).toArray t (0, 0)) := by
  simp [World.setCell, Array.getElem?_modify, hg]
theorem Own.set (h : Own w0 w ps) (i : Nat) {b : Nat} {t : TypeId} {cs : List Value} (hp : ps[i]? = some (box b t cs)) (o : Nat) (v : Value) : Own w0 (w.setCell ⟨b, o, none⟩ v) (ps.set i (box b t (cs.set o v))) := by
  have hb := h.getBase i hp b rfl
  exact ⟨h.1.setCell hb v, h.2.setAt i hp (heap_set w b o cs t v (h.get i hp)) (fun b e => .inl e) fun k hk _ => Below.heap_setCell w ⟨b, o, none⟩ v k fun e => hk (congrArg some e)⟩
/-- A block of which only the cells are known to have changed. -/
theorem Own.change (h : Own w0 w ps) (i : Nat) {p q : Piece} (hp : ps[i]? = some p) (hq : q.holds w') (ho : ∀ b, q.own = some b → p.own = some b ∨ (w.heap.size ≤ b ∧ w0.heap.size ≤ b)) (hg : w.grownBy w' p.own) : Own w0 w' (ps.set i q) := by
  refine ⟨h.1.grown hg h.size fun k e => h.getBase i hp k e, h.2.setAt i hp hq ho fun b hb hlt => hg.block b hlt hb⟩
theorem Own.call {qs : List Piece} (h : Own w0 w ps) (k : Own w w' qs) : Own w0 w' (qs ++ ps) :=
  ⟨(h.ext k.1).1, OwnL.join (OwnL.mono h.size k.2) (h.ext k.1).2 fun p hp q hq b e e2 => by
    have h1 := (k.2.all p hp).2 b e
    have h2 := q.lt w b (h.memH hq) e2
    omega⟩
theorem Own.rd {e : TypeId} {size n c : Nat} {A : Option Addr} {xs : List Value} (h : Own w0 w ps) (i : Nat) (hp : ps[i]? = some (row e size (.slice A n c) n xs)) : Rd w A xs := by
  obtain ⟨A', c', e1, h1⟩ := rd_of_own (h.get i hp : w.ownsRow 0 e size (.slice A n c) n xs)
  injection e1 with e1
  subst e1
  exact h1.rd
theorem Own.ow {e : TypeId} {size n c : Nat} {A : Option Addr} {xs : List Value} (h : Own w0 w ps) (i : Nat) (hp : ps[i]? = some (row e size (.slice A n c) n xs)) : Ow w w0.heap.size A xs := by
  have hb := h.getBase i hp
  obtain ⟨A', c', e1, h1⟩ := rd_of_own (h.get i hp : w.ownsRow 0 e size (.slice A n c) n xs)
  injection e1 with e1
  subst e1
  rcases h1 with h1 | ⟨b, off, e2, _, h2, h3, h4⟩
  · exact .inl h1
  · exact .inr ⟨b, off, e2, hb b (by rw [e2]; rfl), h2, h3, h4⟩
theorem Own.nil (h : Own w0 w ps) (e : TypeId) (size : Nat) : Own w0 w (row e size (.slice none 0 0) 0 [] :: ps) :=
  ⟨h.1, World.ownsRow_nil _ _ _ _, fun b hb => by simp [row, Value.ownBlock] at hb, fun _ _ b hb => by simp [row, Value.ownBlock] at hb, h.2⟩
theorem own_zero {base : Nat} {e : TypeId} {size n : Nat} {v : Value} {xs : List Value} (h : w.ownsRow base e size v n xs) : w.ownsRow 0 e size v n xs := own_mono h (Nat.zero_le _)
/-- What a callee made, by an elder contract. -/
theorem Own.addRow {e : TypeId} {size n : Nat} {v : Value} {xs : List Value} (h : Own w0 w ps) (hb : Below w.heap.size w w') (hr : w'.ownsRow w.heap.size e size v n xs) : Own w0 w' (row e size v n xs :: ps) :=
  h.call (qs := [row e size v n xs]) ⟨hb, own_zero hr, fun b e => (hr.lt b e).1, fun _ h => by simp at h, trivial⟩
/-- A block of the call's own, as a row of its own. -/
theorem Own.asRow {b : Nat} {t : TypeId} {cs : List Value} {size n : Nat} (h : Own w0 w ps) (i : Nat) (hp : ps[i]? = some (box b t cs)) (hn : cs.length = n * size) (hm : n ≤ maxLen) : Own w0 w (ps.set i (row t size (.slice (some ⟨b, 0, none⟩) n n) n cs)) := by
  refine ⟨h.1, h.2.setAt i hp ?_ (fun b' e => .inl (by simpa [row, Value.ownBlock, box] using e)) fun _ _ _ => rfl⟩
  exact ⟨hn, .inr ⟨b, n, cs.toArray, rfl, Nat.zero_le _, h.get i hp, Nat.le_refl _, hm, by simpa using hn, by rw [List.take_of_length_le (by simp [hn])]⟩⟩
theorem Own.asBox {e : TypeId} {size n c : Nat} {A : Option Addr} {xs : List Value} (h : Own w0 w ps) (i : Nat) (hp : ps[i]? = some (row e size (.slice A n c) n xs)) (hn : 0 < n) : ∃ g spare, A = some ⟨g, 0, none⟩ ∧ n ≤ c ∧ Own w0 w (ps.set i (box g e (xs ++ spare))) := by
  have hr : w.ownsRow 0 e size (.slice A n c) n xs := h.get i hp
  obtain ⟨h1, h2⟩ := hr
  rcases h2 with ⟨_, h2⟩ | ⟨g, cap, cur, hv, _, hh, h3, _, _, h4⟩
  · omega
  · injection hv with hv1 hv2 hv3
    subst hv1; subst hv3
    refine ⟨g, cur.toList.drop (n * size), rfl, h3, h.1, h.2.setAt i hp ?_ (fun b' e => .inl (by simpa [row, Value.ownBlock, box] using e)) fun _ _ _ => rfl⟩
    show _ = _
    rw [hh, ← h4, List.take_append_drop]
theorem Own.setRow {e : TypeId} {size n c g : Nat} {xs : List Value} (h : Own w0 w ps) (i : Nat) (hp : ps[i]? = some (row e size (.slice (some ⟨g, 0, none⟩) n c) n xs)) (o : Nat) (v : Value) :
    Own w0 (w.setCell ⟨g, o, none⟩ v) (ps.set i (row e size (.slice (some ⟨g, 0, none⟩) n c) n (xs.set o v))) := by
  have hr : w.ownsRow 0 e size (.slice (some ⟨g, 0, none⟩) n c) n xs := h.get i hp
  have hb := h.getBase i hp g rfl
  obtain ⟨h1, h2⟩ := hr
  rcases h2 with ⟨h2, _⟩ | ⟨g', cap, cur, hv, _, hh, h3, h5, h6, h4⟩
  · cases h2
  · injection hv with hv1 hv2 hv3
    injection hv1 with hv1
    injection hv1 with hv1
    subst hv1; subst hv3
    have hc := heap_set w g o cur.toList e v (by simpa using hh)
    refine ⟨h.1.setCell hb v, h.2.setAt i hp ?_ (fun b e => .inl e) fun k hk _ => Below.heap_setCell w ⟨g, o, none⟩ v k fun e => hk (congrArg some e)⟩
    refine ⟨by simpa using h1, .inr ⟨g, c, _, rfl, Nat.zero_le _, hc, h3, h5, by simpa using h6, ?_⟩⟩
    rw [← h4]
    simp [List.take_set]

theorem Own.rowAddr {e : TypeId} {size n c : Nat} {A : Option Addr} {xs : List Value} (h : Own w0 w ps) (i : Nat) (hp : ps[i]? = some (row e size (.slice A n c) n xs)) (hn : 0 < n) : ∃ g, A = some ⟨g, 0, none⟩ := by
  rcases (show w.ownsRow 0 e size (.slice A n c) n xs from h.get i hp).2 with ⟨_, h2⟩ | ⟨g, cap, cur, hv, _⟩
  · omega
  · injection hv with hv1
    exact ⟨g, hv1⟩
theorem Own.rowLt {e : TypeId} {size n c g : Nat} {xs : List Value} (h : Own w0 w ps) (i : Nat) (hp : ps[i]? = some (row e size (.slice (some ⟨g, 0, none⟩) n c) n xs)) : g < w.heap.size ∧ ∀ o, w.frozen? ⟨g, o, none⟩ = false := by
  rcases (show w.ownsRow 0 e size (.slice (some ⟨g, 0, none⟩) n c) n xs from h.get i hp).2 with ⟨h2, _⟩ | ⟨g', cap, cur, hv, _, hh, _⟩
  · cases h2
  · injection hv with hv1
    injection hv1 with hv1
    injection hv1 with hv1
    subst hv1
    exact ⟨(Array.getElem?_eq_some_iff.1 hh).1, fun o => by simp [World.frozen?, hh]⟩
theorem Own.rowAt {e : TypeId} {size n c g : Nat} {xs : List Value} (h : Own w0 w ps) (i : Nat) (hp : ps[i]? = some (row e size (.slice (some ⟨g, 0, none⟩) n c) n xs)) {j : Nat} {u : Value} (hu : xs[j]? = some u) : w.cell? ⟨g, j, none⟩ = some u := by
  obtain ⟨b, off, e1, _, h2⟩ := (h.rd i hp).at_ hu
  injection e1 with e1
  injection e1 with e1 e2
  subst e1; subst e2
  have := h2 j u hu
  rwa [Nat.zero_add] at this

/-- A row as a block known whole, and back. -/
theorem Own.asBoxC {e : TypeId} {size n c : Nat} {A : Option Addr} {xs : List Value} (h : Own w0 w ps) (i : Nat) (hp : ps[i]? = some (row e size (.slice A n c) n xs)) (hn : 0 < n) : ∃ g spare, A = some ⟨g, 0, none⟩ ∧ n ≤ c ∧ c ≤ maxLen ∧ xs.length = n * size ∧ (xs ++ spare).length = c * size ∧ Own w0 w (ps.set i (box g e (xs ++ spare))) := by
  have hr : w.ownsRow 0 e size (.slice A n c) n xs := h.get i hp
  obtain ⟨h1, h2⟩ := hr
  rcases h2 with ⟨_, h2⟩ | ⟨g, cap, cur, hv, _, hh, h3, h5, h6, h4⟩
  · omega
  · injection hv with hv1 hv2 hv3
    subst hv1; subst hv3
    refine ⟨g, cur.toList.drop (n * size), rfl, h3, h5, h1, by rw [← h4, List.take_append_drop]; simpa using h6, h.1, h.2.setAt i hp ?_ (fun b' e => .inl (by simpa [row, Value.ownBlock, box] using e)) fun _ _ _ => rfl⟩
    show _ = _
    rw [hh, ← h4, List.take_append_drop]
theorem Own.asRowC {b : Nat} {t : TypeId} {xs sp : List Value} {size n c : Nat} (h : Own w0 w ps) (i : Nat) (hp : ps[i]? = some (box b t (xs ++ sp))) (hn : xs.length = n * size) (hc : (xs ++ sp).length = c * size) (h1 : n ≤ c) (hm : c ≤ maxLen) : Own w0 w (ps.set i (row t size (.slice (some ⟨b, 0, none⟩) n c) n xs)) := by
  refine ⟨h.1, h.2.setAt i hp ?_ (fun b' e => .inl (by simpa [row, Value.ownBlock, box] using e)) fun _ _ _ => rfl⟩
  exact ⟨hn, .inr ⟨b, c, (xs ++ sp).toArray, rfl, Nat.zero_le _, h.get i hp, h1, hm, by simpa using hc, by rw [List.toList_toArray, ← hn, List.take_left]⟩⟩
/-- Slices of elements with so many cells. -/
structure SlTy (P : Program) (t e : TypeId) (z : Value) (size bytes : Nat) : Prop where
  u : P.underlying t = some (.slice e)
  i : (P.info? e).map (fun i => (i.zero, i.size, i.bytes)) = some (some z, size, bytes)
  c : z.cells.size = size
  p : 0 < size
theorem Rd.new (w : World) (cs : Array Value) (t : TypeId) : Rd (w.alloc (.cells cs t)) (some ⟨w.heap.size, 0, none⟩) cs.toList :=
  .inr ⟨w.heap.size, 0, rfl, by simp, fun j u hu => by rw [Nat.zero_add, World.cell?_alloc_new]; simpa using hu⟩
theorem Rd.one {w : World} {b : Nat} {u : Value} (h : w.cell? ⟨b, 0, none⟩ = some u) : Rd w (some ⟨b, 0, none⟩) [u] :=
  .inr ⟨b, 0, rfl, World.block_lt_of_cell? w _ h, fun j x hj => by
    rcases j with _ | j
    · simp at hj; subst hj; exact h
    · simp at hj⟩
variable {P : Program}
theorem run_appP {t ty e : TypeId} {z : Value} {size bytes : Nat} (st : SlTy P t e z size bytes) (i : Nat) {v : Value} {n : Nat} {xs : List Value} (hO : Own w0 w ps) (hp : ps[i]? = some (row e size v n xs))
    {A : Option Addr} {m c : Nat} {news : List Value} (hr : Rd w A news) (hm : news.length = m * size) (h1 : ∀ u ∈ news, u.oneCell' = true) (h63 : n + m ≤ maxLen) (hbytes : (n + m) * bytes ≤ 140737488355328) :
    ∃ A' c' w', (Builtin.append_ #[t, t] ty #[v, .slice A m c]).run P w = .ok (.slice A' (n + m) c') w' ∧ Own w0 w' (ps.set i (row e size (.slice A' (n + m) c') (n + m) (xs ++ news))) ∧ w.grownBy w' v.ownBlock := by
  obtain ⟨i0, hi, hz0, hz1, hz2⟩ := info_parts st.i
  have hrow : w.ownsRow 0 e size v n xs := hO.get i hp
  obtain ⟨v', w', hrun, h2, h3, h4⟩ := run_app_own (P := P) w 0 t ty e i0 z size bytes st.u hi hz0 hz1 hz2 st.c st.p v n xs hrow A m c news hr hm h1 h63 hbytes (Nat.zero_le _)
  obtain ⟨A', c', rfl, _⟩ := rd_of_own h2
  exact ⟨A', c', w', hrun, hO.change i hp h2 (fun b e => by
    rcases h4 with h4 | h4
    · exact .inl (h4.symm.trans e)
    · have : some b = some w.heap.size := (show (Value.slice A' (n + m) c').ownBlock = some b from e).symm.trans h4
      injection this with this
      exact .inr ⟨by omega, by have := hO.size; omega⟩) h3, h3⟩
theorem wpList_appP {ops : Array Oper} {rest : List Oper} {o : Oper} {a : Act} {Q : Exit → Act → World → Prop} (hgd : o.guard = none) (s x : Operand) (t : TypeId)
    (ho : o.op = .call { callee := .builtin .append, args := #[s, x], argTypes := #[t, t] }) {e : TypeId} {z : Value} {size bytes : Nat} (st : SlTy P t e z size bytes) (i : Nat) {v : Value} {n : Nat} {xs : List Value} (hO : Own w0 w ps) (hp : ps[i]? = some (row e size v n xs)) (hs : a.eval s = v)
    {A : Option Addr} {m c : Nat} (hx : a.eval x = .slice A m c) (N : Nat) (XS : List Value)
    (h : ∀ A' c' w', Own w0 w' (ps.set i (row e size (.slice A' N c') N XS)) → wpList P ops Q rest (a.put o.dst (.slice A' N c')) w') (news : List Value)
    (hN : n + m = N) (hX : xs ++ news = XS) (hr : Rd w A news) (hm : news.length = m * size) (h1 : ∀ u ∈ news, u.oneCell' = true) (h63 : n + m ≤ maxLen) (hbytes : (n + m) * bytes ≤ 140737488355328) : wpList P ops Q (o :: rest) a w := by
  obtain ⟨A', c', w', hrun, h2, _⟩ := run_appP (P := P) (ty := o.type) st i hO hp hr hm h1 h63 hbytes
  subst hN; subst hX
  exact wpList_plain hgd fun _ hK => wp_app w s x t ho v _ hs hx hrun (hK _ _ (h A' c' w' h2))
theorem step_appP {ops : Array Oper} {o : Oper} {a : Act} {K : Act → World → Prop} {Q : Exit → Act → World → Prop} {E : Prop} (hgd : o.guard = none) (s x : Operand) (t : TypeId)
    (ho : o.op = .call { callee := .builtin .append, args := #[s, x], argTypes := #[t, t] }) {e : TypeId} {z : Value} {size bytes : Nat} (st : SlTy P t e z size bytes) (i : Nat) {v : Value} {n : Nat} {xs : List Value} (hO : Own w0 w ps) (hp : ps[i]? = some (row e size v n xs)) (hs : a.eval s = v)
    {A : Option Addr} {m c : Nat} (hx : a.eval x = .slice A m c) (N : Nat) (XS : List Value)
    (h : ∀ A' c' w', Own w0 w' (ps.set i (row e size (.slice A' N c') N XS)) → K (a.put o.dst (.slice A' N c')) w') (news : List Value)
    (hN : n + m = N) (hX : xs ++ news = XS) (hr : Rd w A news) (hm : news.length = m * size) (h1 : ∀ u ∈ news, u.oneCell' = true) (h63 : n + m ≤ maxLen) (hbytes : (n + m) * bytes ≤ 140737488355328) :
    if Region.wanted o (yielded ops a.tmps) = true then Oper.wp P o a w K Q else E := by
  obtain ⟨A', c', w', hrun, h2, _⟩ := run_appP (P := P) (ty := o.type) st i hO hp hr hm h1 h63 hbytes
  subst hN; subst hX
  have hw : Region.wanted o (yielded ops a.tmps) = true := by simp [Region.wanted, hgd]
  rw [if_pos hw]
  exact wp_app w s x t ho v _ hs hx hrun (h A' c' w' h2)

/-! A region that draws its order, whose operations read, and whose callees make memory at most: the pieces stay. -/
structure OwnOf (w0 : World) (ps : List Piece) where
  wld : World
  own : Own w0 wld ps
theorem OwnOf.out (x : OwnOf w0 ps) {b o : Nat} {u : Value} (hb : b < w0.heap.size) (h : w0.cell? ⟨b, o, none⟩ = some u) : x.wld.cell? ⟨b, o, none⟩ = some u := (x.own.bel.cell (p := ⟨b, o, none⟩) hb).trans h
theorem OwnOf.bx (x : OwnOf w0 ps) (i : Nat) {b : Nat} {t : TypeId} {cs : List Value} (hp : ps[i]? = some (box b t cs)) : Box x.wld b cs := x.own.bx i hp
theorem OwnOf.rd (x : OwnOf w0 ps) {A : Option Addr} {xs : List Value} (h : Rd w0 A xs) : Rd x.wld A xs := h.below x.own.bel
theorem wp_region_own {id : Nat} {Q : Exit → Act → World → Prop} {a : Act} {l : List Oper} (hO : Own w0 w ps) (hm : P.follows .mixedOrders = true) (hB : Region.lexB .any l.toArray = true)
    (h : wpQuiet P l.toArray (fun w' => ∃ x : OwnOf w0 ps, w' = x.wld) (fun a' => ∀ w', (∃ x : OwnOf w0 ps, w' = x.wld) → Q .normal a' w') l a) : (Code.region id l.toArray true).wp P Q a w :=
  wp_region_quiet (C := fun w' => ∃ x : OwnOf w0 ps, w' = x.wld) hm hB ⟨⟨w.drew, hO.ext ((Below.refl _ _).drew)⟩, rfl⟩ (by simpa using h)
theorem own_of {f : FuncId} {args : Array Value} {x : OwnOf w0 ps} {v : Value} (h : Calls P f args x.wld fun e w' => e = .returned v ∧ Below x.wld.heap.size x.wld w') : Calls P f args x.wld fun e w'' => e = .returned v ∧ ∃ y : OwnOf w0 ps, w'' = y.wld :=
  h.mono fun _ w' ⟨he, hb⟩ => ⟨he, ⟨w', x.own.ext hb⟩, rfl⟩
theorem own_same {f : FuncId} {args : Array Value} {x : OwnOf w0 ps} {v : Value} (h : Calls P f args x.wld fun e w' => e = .returned v ∧ x.wld = w') : Calls P f args x.wld fun e w'' => e = .returned v ∧ ∃ y : OwnOf w0 ps, w'' = y.wld :=
  h.mono fun _ _ ⟨he, hb⟩ => ⟨he, x, hb.symm⟩
/-- A block that is known whole, whatever it is. -/
def obj (b : Nat) (o : Obj) : Piece where
  own := some b
  holds := fun w => w.heap[b]? = some o
  loc := fun _ _ h k => (h b rfl).trans k
  lt := fun _ _ h e => by injection e with e; subst e; exact (Array.getElem?_eq_some_iff.1 h).1
theorem Own.newObj (h : Own w0 w ps) (o : Obj) : Own w0 (w.alloc o) (obj w.heap.size o :: ps) :=
  ⟨(h.ext (below_alloc _ _)).1, heap_alloc_new w o, fun b e => by injection e with e; subst e; exact h.size,
    fun q hq b e e2 => by injection e with e; subst e; have := q.lt w _ (h.memH hq) e2; omega, (h.ext (below_alloc _ _)).2⟩
end
end Go.Proofs.Ytjelnbfnoliocaa
