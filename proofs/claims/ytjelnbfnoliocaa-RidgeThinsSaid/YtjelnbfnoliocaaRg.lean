/- General lemmas on ranges over a function: what a round of such a loop may do, with the pieces that the call owns; no program in sight. No condition. -/
import Derived.Test.YtjelnbfnoliocaaOw
import Derived.RangeFuncNested
import Derived.RangeFuncBound
import Derived.RangeFuncCalls
import Derived.RangeFuncLeaves
import Derived.Shelf.Abstract
import Derived.Shelf.RegionOpen
import Derived.OwnWalkIn
import Derived.TacticsInMore
import Derived.LoopNIn
import Derived.LoopIn
import Derived.BigGuardIn
namespace Go.Proofs.Ytjelnbfnoliocaa
open Go.RowKit

section
variable {P : Program} {ops : Array Oper} {md : Region.Mode} {C : World → Prop} {lp n : Nat}
theorem wpIn_of_quiet_round {o : Oper} {a : Act} {K : Act → Prop} {K' : Act → World → Prop} {Q' : Exit → Act → World → Prop} {w : World} (hd : ∀ c, o.op ≠ .defer c) (hw : C w) (h : ∀ a w', C w' → K a → K' a w')
    (hh : o.quiet P a C K) : o.wpIn (Fence.wide.inRound lp) n P a w K' Q' := by
  obtain ⟨v, h1, h2⟩ := hh
  have h3 := h1 w hw
  unfold Oper.quietAt at h3
  unfold Oper.wpIn
  refine ⟨fun _ _ => trivial, ?_⟩
  rw [Oper.semAt_eq _ _ _ hd]
  generalize (execOp a.eval o).run P w = r at *
  cases r with
  | ok x w' =>
    cases x <;> simp only [Oper.quietUpon] at h3 <;> simp only [Oper.uponIn]
    case value u =>
      obtain ⟨e1, e2⟩ := h3
      rw [e1, e2]
      exact h _ _ hw h2
    case skip =>
      obtain ⟨e1, e2⟩ := h3
      rw [e1, ← e2]
      exact h _ _ hw h2
    case enter f args =>
      obtain ⟨e1, hc⟩ := h3
      rw [e1]
      exact ⟨(fun h => by simp [Fence.wide] at h), (callsIn_wide (n := n - 1)).2 (hc.mono fun e w'' ⟨he, hw''⟩ => by subst he; exact h _ _ hw'' h2)⟩
  | halt x w' => simp only [Oper.quietUpon] at h3
theorem wpOpIn_of_qOp_round (hnd : ∀ (j : Nat) (o : Oper) c, ops[j]? = some o → o.op ≠ .defer c) {i : Nat} {a : Act} {K : Act → Prop} {K' : Act → World → Prop} {Q' : Exit → Act → World → Prop} {w : World} (hC : C w) (h : ∀ a w', C w' → K a → K' a w')
    (hh : qOp P ops C i K a) : wpOpIn (Fence.wide.inRound lp) n P ops Q' i K' a w := by
  unfold qOp at hh
  unfold wpOpIn
  split
  · rename_i ho; simp only [ho] at hh; exact h _ _ hC hh
  · rename_i o ho
    simp only [ho] at hh
    split
    · rename_i hw; simp only [hw, if_true] at hh; exact wpIn_of_quiet_round (fun c => hnd i o c ho) hC h hh
    · rename_i hw; simp only [hw] at hh; exact ⟨fun _ _ => trivial, h _ _ hC hh⟩
theorem wpAnyIn_of_quiet_round (hnd : ∀ (j : Nat) (o : Oper) c, ops[j]? = some o → o.op ≠ .defer c) {Q : Act → Prop} {Q' : Exit → Act → World → Prop} (hQ : ∀ a w, C w → Q a → Q' .normal a w) : ∀ (fuel : Nat) (listed : Array Bool) (a : Act) (w : World), C w →
    wpAnyQ P md ops C Q fuel listed a → wpAnyIn (Fence.wide.inRound lp) n P md ops Q' fuel listed a w
  | 0, _, _, _, hw, h => ⟨h.1, hQ _ _ hw h.2⟩
  | fuel + 1, _, _, _, hw, h => ⟨fun h0 => hQ _ _ hw (h.1 h0), fun i hi => wpOpIn_of_qOp_round hnd hw (fun a' w' hw' => wpAnyIn_of_quiet_round hnd hQ fuel _ a' w' hw') (h.2 i hi)⟩
def noDefer (ops : Array Oper) : Bool := ops.all fun o => match o.op with | .defer _ => false | _ => true
theorem noDefer_spec {ops : Array Oper} (h : noDefer ops = true) (j : Nat) (o : Oper) (c : Call) (ho : ops[j]? = some o) : o.op ≠ .defer c := by
  intro e
  obtain ⟨hj, rfl⟩ := Array.getElem?_eq_some_iff.1 ho
  have := (Array.all_eq_true.1 h) j hj
  rw [e] at this
  cases this
theorem wpIn_region_class {id : Nat} {Q : Exit → Act → World → Prop} {a : Act} {w : World} {l : List Oper} (hm : P.follows .mixedOrders = true) (hB : Region.lexB .any l.toArray = true) (hd : noDefer l.toArray = true) (hC : C w.drew)
    (h : wpQuiet P l.toArray C (fun a' => ∀ w', C w' → Q .normal a' w') l a) : (Code.region id l.toArray true).wpIn (Fence.wide.inRound lp) n P Q a w := by
  simp only [Region.lexB, Bool.and_eq_true] at hB
  refine wpIn_region_any hm (wpAnyIn_of_quiet_round (C := C) (noDefer_spec hd) (Q := fun a' => ∀ w', C w' → Q .normal a' w') (fun _ w' hw' h => h w' hw') _ _ _ _ hC ?_)
  have := wpAnyQ_lex (C := C) (md := .any) hB.1 l 0 (Array.replicate l.toArray.size false) a (by simp) (by simpa using hB.2) h
  simpa using this
theorem wpIn_region_ext {id : Nat} {Q : Exit → Act → World → Prop} {a : Act} {w : World} {l : List Oper} (hm : P.follows .mixedOrders = true) (hB : Region.lexB .any l.toArray = true) (hd : noDefer l.toArray = true)
    (h : wpQuiet P l.toArray (fun w' => ∃ x : ExtOf w, w' = x.wld) (fun a' => ∀ w', (∃ x : ExtOf w, w' = x.wld) → Q .normal a' w') l a) : (Code.region id l.toArray true).wpIn (Fence.wide.inRound lp) n P Q a w :=
  wpIn_region_class (C := fun w' => ∃ x : ExtOf w, w' = x.wld) hm hB hd ⟨⟨w.drew, (Below.refl _ _).drew⟩, rfl⟩ h
theorem keeps_below {w w' : World} (h : Below w.heap.size w w') : KeepsOthers w w' := ⟨h.size, fun k _ hk _ => (h.block k (Array.getElem?_eq_some_iff.1 hk).1).trans hk⟩
theorem rd_box {w : World} {b : Nat} {xs sp : List Value} (h : Box w b (xs ++ sp)) : Rd w (some ⟨b, 0, none⟩) xs :=
  .inr ⟨b, 0, rfl, h.2.2, fun j u hu => by rw [Nat.zero_add]; exact h.1 j u (by rw [List.getElem?_append_left (List.getElem?_eq_some_iff.1 hu).1]; exact hu)⟩
/-- In a round: a region that draws its order, whose operations read, and whose callees make memory at most. -/
theorem wpIn_region_own {id : Nat} {Q : Exit → Act → World → Prop} {a : Act} {w0 w : World} {ps : List Piece} {l : List Oper} (hO : Own w0 w ps) (hm : P.follows .mixedOrders = true) (hB : Region.lexB .any l.toArray = true) (hd : noDefer l.toArray = true)
    (h : wpQuiet P l.toArray (fun w' => ∃ x : OwnOf w0 ps, w' = x.wld) (fun a' => ∀ w', (∃ x : OwnOf w0 ps, w' = x.wld) → Q .normal a' w') l a) : (Code.region id l.toArray true).wpIn (Fence.wide.inRound lp) n P Q a w := by
  simp only [Region.lexB, Bool.and_eq_true] at hB
  refine wpIn_region_any hm (wpAnyIn_of_quiet_round (C := fun w' => ∃ x : OwnOf w0 ps, w' = x.wld) (noDefer_spec hd) (Q := fun a' => ∀ w', (∃ x : OwnOf w0 ps, w' = x.wld) → Q .normal a' w') (fun _ w' hw' h => h w' hw') _ _ _ _ ⟨⟨w.drew, hO.ext ((Below.refl _ _).drew)⟩, rfl⟩ ?_)
  have := wpAnyQ_lex (C := fun w' => ∃ x : OwnOf w0 ps, w' = x.wld) (md := .any) hB.1 l 0 (Array.replicate l.toArray.size false) a (by simp) (by simpa using hB.2) h
  simpa using this
theorem wpListIn_appP {F : Fence} {w0 w : World} {ps : List Piece} {rest : List Oper} {o : Oper} {a : Act} {Q : Exit → Act → World → Prop} (hgd : o.guard = none) (s x : Operand) (t : TypeId)
    (ho : o.op = .call { callee := .builtin .append, args := #[s, x], argTypes := #[t, t] }) {e : TypeId} {z : Value} {size bytes : Nat} (st : SlTy P t e z size bytes) (i : Nat) {v : Value} {k : Nat} {xs : List Value} (hO : Own w0 w ps) (hp : ps[i]? = some (row e size v k xs)) (hs : a.eval s = v)
    {ad : Addr} {m c : Nat} (hx : a.eval x = .slice (some ad) m c) (N : Nat) (XS : List Value)
    (h : ∀ A' c' w', Own w0 w' (ps.set i (row e size (.slice A' N c') N XS)) → KeepsOthers w w' → wpListIn F n P ops Q rest (a.put o.dst (.slice A' N c')) w') (news : List Value)
    (hN : k + m = N) (hX : xs ++ news = XS) (hr : Rd w (some ad) news) (hm : news.length = m * size) (h1 : ∀ u ∈ news, u.oneCell' = true) (h63 : k + m ≤ maxLen) (hbytes : (k + m) * bytes ≤ 140737488355328) : wpListIn F n P ops Q (o :: rest) a w := by
  obtain ⟨A', c', w', hrun, h2, h3⟩ := run_appP (P := P) (ty := o.type) (c := c) st i hO hp hr hm h1 h63 hbytes
  subst hN; subst hX
  refine wpListIn_plain hgd fun K hK' => ?_
  unfold Oper.wpIn
  refine ⟨?_, ?_⟩
  · simp [Oper.about, ho, resolve, Target.leads, Sem.run_pure]
  · rw [Oper.semAt_plain F _ _ (by rw [ho]; intro c hc'; cases hc')]
    unfold execOp
    simp only [ho, resolve, invoke, builtin, Sem.run_bind, Sem.run_pure, Result.andThen_ok, List.map_toArray, List.map_cons, List.map_nil, hs, hx, hrun]
    refine hK' _ _ (h A' c' w' h2 (KeepsOthers.of_grownBy h3 fun j o' hj ho' => ?_))
    have hrow : w.ownsRow 0 e size v k xs := hO.get i hp
    rcases hrow.2 with ⟨rfl, _⟩ | ⟨g, cap, cur, rfl, _, hh, _⟩
    · simp [Value.ownBlock] at hj
    · simp [Value.ownBlock] at hj
      subst hj
      rw [hh] at ho'
      injection ho' with ho'
      subst ho'
      rfl
/-- A piece that lies in a block of cells, if it has one. -/
def Piece.Cel (p : Piece) : Prop := ∀ w b, p.holds w → p.own = some b → ∃ o, w.heap[b]? = some o ∧ o.isCells = true
theorem box_cel (b : Nat) (t : TypeId) (cs : List Value) : (box b t cs).Cel := fun _ _ h e => by injection e with e; subst e; exact ⟨_, h, rfl⟩
theorem row_cel (e : TypeId) (size : Nat) (v : Value) (n : Nat) (xs : List Value) : (row e size v n xs).Cel := fun w b h e1 => by
  rcases (show w.ownsRow 0 e size v n xs from h).2 with ⟨rfl, _⟩ | ⟨g, cap, cur, rfl, _, hh, _⟩
  · simp [row, Value.ownBlock] at e1
  · simp [row, Value.ownBlock] at e1
    subst e1
    exact ⟨_, hh, rfl⟩
theorem Own.other {w0 w w' : World} {ps : List Piece} {r : Option Nat} (h : Own w0 w ps) (hg : w.grownBy w' r) (hr : ∀ k, r = some k → w0.heap.size ≤ k ∧ ∀ p ∈ ps, p.own ≠ some k) : Own w0 w' ps :=
  ⟨h.1.grown hg h.size fun k e => (hr k e).1, h.2.keep fun p hp b e => hg.block b (p.lt w b (h.memH hp) e) fun e2 => (hr b e2.symm).2 p hp e⟩
theorem Own.addObj {w0 w : World} {ps : List Piece} {D : Nat} {o : Obj} (h : Own w0 w ps) (hD : w.heap[D]? = some o) (hs : w0.heap.size ≤ D) (hp : ∀ p ∈ ps, p.own ≠ some D) : Own w0 w (obj D o :: ps) :=
  ⟨h.1, hD, fun b e => by injection e with e; subst e; exact hs, fun q hq b e e2 => by injection e with e; subst e; exact hp q hq e2, h.2⟩
/-- What a round of a range over a function leaves. -/
def roundPost {σ : Type} (Kp : World → World → Prop) (R : σ → Prop) (pcs : σ → List Piece) (w0 W : World) : Exit → Act → World → Prop
  | .normal, _, W' => KeepsOthers W W' ∧ Kp W W' ∧ ∃ s, R s ∧ Own w0 W' (pcs s)
  | _, _, _ => False
theorem wp_range_own {α σ : Type} {g : Operand} {prm : Array Tmp} {assign body : Code} {Q : Exit → Act → World → Prop} {a : Act} {w0 w : World} {gf : Nat} {lb : Array Value}
    (hg : a.eval g = .func (.func gf) #[] lb) (eg : ∀ args w, (callFunc gf args).run P w = .ok (.enter gf args) w)
    {encs : α → Array Value} {Kp : World → World → Prop} {S : List α → Prop} {N : Nat} (hseq : SeqStopsK Fence.wide 9 P gf lb encs Kp S (fun _ => True) N w)
    (hKt : ∀ {A B C : World}, Kp A B → Kp B C → Kp A C) (hKb : ∀ (W : World) (l : Nat) (o o' : Obj), w.heap.size ≤ l → W.heap[l]? = some o → o.isCells = false → o.isWalk = false → Kp W (W.putObj l o')) (hKr : ∀ W, Kp W W) (hps : ∀ x, (encs x).size = prm.size)
    (R : List α → σ → Prop) (pcs : σ → List Piece) (hcel : ∀ s, ∀ p ∈ pcs s, p.Cel ∨ ∀ b, p.own = some b → b < w.heap.size) (s0 : σ) (h0 : R [] s0) (hO : Own w0 w (pcs s0)) (ax : α → Act)
    (hassign : ∀ (x : α) (l : Nat) (K : Act → World → Prop) (W : World), K (ax x) W → assign.wpIn (Fence.wide.inRound l) 8 P (Exit.then K fun _ _ _ => False) { tmps := (prm.zip (encs x)).foldl (fun t (p, v) => t.setIfInBounds p v) a.tmps, defers := [] } W)
    (hbody : ∀ (l : Nat) (pre : List α) (x : α) (s : σ) (W : World), pre.length < N → R pre s → Own w0 W (pcs s) → body.wpIn (Fence.wide.inRound l) 8 P (roundPost Kp (R (pre ++ [x])) pcs w0 W) (ax x) W)
    (hdone : ∀ (D : Nat) (xs : List α) (s : σ) (W : World), S xs → R xs s → Own w0 W (obj D (.deferred (some [])) :: pcs s) → Q .normal { a with defers := { target := .collected D, args := #[] } :: a.defers } W) :
    (Code.rangeFunc g prm assign body).wp P Q a w := by
  have hst : OwnFrom w.heap.size (fun (pre : List α) W => ∃ s, R pre s ∧ Own w0 W (pcs s)) := by
    rintro pre X Y r ⟨s, h1, h2⟩ hgr hr
    refine ⟨s, h1, h2.other hgr fun k e => ⟨by have := (hr k e).1; have := hO.size; omega, fun p hp e2 => ?_⟩⟩
    obtain ⟨hb, o, ho, hoc⟩ := hr k e
    rcases hcel s p hp with h | h
    · obtain ⟨o', ho', hc'⟩ := h X k (h2.memH hp) e2
      rw [ho] at ho'
      injection ho' with ho'
      subst ho'
      rw [hoc] at hc'
      cases hc'
    · have := h k e2; omega
  refine (wpIn_wide (n := 10)).1 ?_
  refine wpIn_rangeFunc_ownH rfl (by omega) hg trivial eg hseq hKt hKb (Below.refl _ _) hps (fun pre W => ∃ s, R pre s ∧ Own w0 W (pcs s)) (fun _ _ _ => False) hst (fun _ _ _ _ _ hs _ _ => hs) ⟨s0, h0, hO⟩ (fun x a' _ => a' = ax x) (fun x a' _ _ _ _ hs _ _ => hs) ?_ ?_ ?_ ?_
  · intro l pre x W K hI hK
    exact hassign x l K W (hK _ _ (KeepsFrom.refl _ _) (hKr _) hI rfl)
  · rintro l pre x a' W hl _ ⟨s, h1, h2⟩ rfl hlt
    refine wpIn_mono (hbody l pre x s W hlt h1 h2) fun e a' W' h => ?_
    cases e with
    | normal => exact ⟨h.1.from _, h.2.1, h.2.2⟩
    | _ => exact h.elim
  · rintro D xs W hD hS ⟨s, h1, h2⟩ hK
    refine hdone D xs s W hS h1 (h2.addObj hK (by have := hO.size; omega) fun p hp e => ?_)
    rcases hcel s p hp with h | h
    · obtain ⟨o', ho', hc'⟩ := h W D (h2.memH hp) e
      rw [hK] at ho'
      injection ho' with ho'
      subst ho'
      cases hc'
    · have := h D e; omega
  · rintro D c pre W _ _ h _
    exact h.elim
theorem OwnL.perm {base : Nat} {w : World} {ps qs : List Piece} (h : ps.Perm qs) (ho : OwnL base w ps) : OwnL base w qs := by
  induction h with
  | nil => trivial
  | cons x h ih => exact ⟨ho.1, ho.2.1, fun q hq => ho.2.2.1 q (h.mem_iff.2 hq), ih ho.2.2.2⟩
  | swap x y l =>
    obtain ⟨a, b, c, d, e, f, g⟩ := ho
    exact ⟨d, e, fun r hr => by
      rcases List.mem_cons.1 hr with e1 | hr
      · subst e1; exact fun b2 h1 h2 => c x (by simp) b2 h2 h1
      · exact f r hr, a, b, fun r hr => c r (by simp [hr]), g⟩
  | trans _ _ ih1 ih2 => exact ih2 (ih1 ho)
theorem Own.perm {w0 w : World} {ps qs : List Piece} (h : Own w0 w ps) (hp : ps.Perm qs) : Own w0 w qs := ⟨h.1, h.2.perm hp⟩
/-- The marks that ranges over functions leave behind. -/
def mk (D : Nat) : Piece := obj D (.deferred (some []))
def dfr (D : Nat) : Deferred := { target := .collected D, args := #[] }
theorem Own.mark {w0 w : World} {ps : List Piece} {D : Nat} {Ds : List Nat} (h : Own w0 w (mk D :: (ps ++ Ds.map mk))) : Own w0 w (ps ++ (D :: Ds).map mk) := h.perm List.perm_middle.symm
theorem mk_old {w0 w : World} {ps : List Piece} {Ds : List Nat} (h : Own w0 w (ps ++ Ds.map mk)) : ∀ p ∈ Ds.map mk, p.Cel ∨ ∀ b, p.own = some b → b < w.heap.size := fun p hp => .inr fun b e => p.lt w b (h.memH (by simp only [List.mem_append]; exact .inr hp)) e
theorem leaves_marks {fn : Func} {tmps : Array Value} {R : Ending → World → Prop} {w0 : World} {ps : List Piece} (h : ∀ w', Own w0 w' ps → ∃ v, (results fn tmps).run P w' = .ok v w' ∧ R (.returned v) w') :
    ∀ (Ds : List Nat) (w : World), Own w0 w (ps ++ Ds.map mk) → LeavesInM Fence.wide n P fn tmps R (Ds.map dfr) .returning w
  | [], w, hO => h w (by simpa using hO)
  | D :: Ds, w, hO => by
    have h1 : Own w0 w (mk D :: (ps ++ Ds.map mk)) := hO.perm List.perm_middle
    have hD : w.heap[D]? = some (.deferred (some [])) := h1.head
    refine ⟨by simp, .inl ⟨D, _, rfl, run_takeDeferred hD, leaves_marks h Ds _ (h1.tail.other (r := some D) (grownBy_putObj' w D _) fun k e => ?_)⟩⟩
    injection e with e
    subst e
    exact ⟨h1.2.2.1 D rfl, fun p hp e2 => h1.2.2.2.1 p hp D rfl e2⟩
theorem calls_of_wp_marks {f : FuncId} {fn : Func} {c : Code} {args : Array Value} {w : World} {R : Ending → World → Prop} (hf : P.funcs[f]? = some fn) (hb : fn.body = some c)
    (h : c.wp P (bodyPostM Fence.wide 10 P fn R) { tmps := args ++ Array.replicate (fn.ntmps - args.size) undef, defers := [] } w) : Calls P f args w R :=
  (callsIn_wide (n := 10)).1 (callsIn_of_wp_marks hf hb trivial (wpIn_wide.2 h) rfl)
end
end Go.Proofs.Ytjelnbfnoliocaa
