/- Ridge: a queue in memory, and the plain law of a search by a queue. No condition. -/
import Derived.Test.YtjelnbfnoliocaaPk
namespace Go.Proofs.Ytjelnbfnoliocaa
open Go.RowKit

/-- A slice of one-cell elements that begins anywhere in a block of its own. -/
def que (e : TypeId) (g off n c : Nat) (xs : List Value) : Piece where
  own := some g
  holds := fun w => ∃ cur, w.heap[g]? = some (.cells cur e (0, 0)) ∧ xs.length = n ∧ n ≤ c ∧ off + c ≤ cur.size ∧ ∀ j u, xs[j]? = some u → cur[off + j]? = some u
  loc := fun _ _ h ⟨cur, k, r⟩ => ⟨cur, (h g rfl).trans k, r⟩
  lt := fun _ _ ⟨_, k, _⟩ e => by injection e with e; subst e; exact (Array.getElem?_eq_some_iff.1 k).1
section
variable {P : Program} {w0 w w' : World} {ps : List Piece} {e : TypeId} {g off n c : Nat} {x : Value} {xs : List Value}
theorem Own.queNew (h : Own w0 w ps) (i : Nat) {u : Value} (hp : ps[i]? = some (box g e [u])) : Own w0 w (ps.set i (que e g 0 1 1 [u])) :=
  ⟨h.1, h.2.setAt i hp ⟨#[u], h.get i hp, rfl, Nat.le_refl _, by simp, fun j v hv => by simpa using hv⟩ (fun b e => .inl e) fun _ _ _ => rfl⟩
theorem Own.queBd (h : Own w0 w ps) (i : Nat) (hp : ps[i]? = some (que e g off n c xs)) : n ≤ c ∧ xs.length = n := by
  obtain ⟨cur, _, h1, h2, _⟩ := h.get i hp
  exact ⟨h2, h1⟩
theorem Own.queAt (h : Own w0 w ps) (i : Nat) (hp : ps[i]? = some (que e g off n c xs)) {j : Nat} {u : Value} (hu : xs[j]? = some u) : w.cell? ⟨g, off + j, none⟩ = some u := by
  obtain ⟨cur, h0, _, _, _, h4⟩ := h.get i hp
  have := h4 j u hu
  simp only [World.cell?, h0]
  simpa using this
theorem Own.queLt (h : Own w0 w ps) (i : Nat) (hp : ps[i]? = some (que e g off n c xs)) : g < w.heap.size ∧ ∀ o, w.frozen? ⟨g, o, none⟩ = false := by
  obtain ⟨cur, h0, _⟩ := h.get i hp
  exact ⟨(Array.getElem?_eq_some_iff.1 h0).1, fun o => by simp [World.frozen?, h0]⟩
theorem Own.quePop (h : Own w0 w ps) (i : Nat) (hp : ps[i]? = some (que e g off (n + 1) c (x :: xs))) : Own w0 w (ps.set i (que e g (if c = 1 then off else off + 1) n (c - 1) xs)) := by
  obtain ⟨cur, h0, h1, h2, h3, h4⟩ := h.get i hp
  refine ⟨h.1, h.2.setAt i hp ⟨cur, h0, by simpa using h1, by omega, by split <;> omega, fun j v hv => ?_⟩ (fun b e => .inl e) fun _ _ _ => rfl⟩
  have hj := (List.getElem?_eq_some_iff.1 hv).1
  have h5 : xs.length = n := by simpa using h1
  rw [if_neg (by omega), Nat.add_assoc, Nat.add_comm 1 j]
  exact h4 (j + 1) v (by simpa using hv)
theorem run_pop (t : TypeId) (ht : P.underlying t = some (.slice e)) (hs : (P.info? e).map (·.size) = some 1) (w : World) :
    (Instr.slice t (.slice (some ⟨g, off, none⟩) (n + 1) c) (some (.int .i64 1)) none none).run P w = .ok (.slice (some ⟨g, if c = 1 then off else off + 1, none⟩) n (c - 1)) w := by
  have hi : ∃ i, P.info? e = some i ∧ i.size = 1 := by
    cases h : P.info? e with
    | none => rw [h] at hs; cases hs
    | some i => rw [h] at hs; exact ⟨i, rfl, by simpa using hs⟩
  obtain ⟨i, hi, hi1⟩ := hi
  have h1 : (1 : Int) ≤ ((n + 1 : Nat) : Int) := by omega
  simp [Instr.slice, run_underlying ht, Instr.sliceBounds, Instr.sliceBound, asIntOf, sizeOf, typeInfo, hi, hi1]
  split <;> split <;> first | omega | rfl | simp_all [Addr.add]
theorem run_appQ {t ty : TypeId} {z : Value} {bytes : Nat} (st : SlTy P t e z 1 bytes) (i : Nat) (hO : Own w0 w ps) (hp : ps[i]? = some (que e g off n c xs)) {b : Nat} {u : Value} (hu : w.cell? ⟨b, 0, none⟩ = some u) (h1 : u.oneCell' = true)
    (h63 : n + 1 ≤ maxLen) (hbytes : (n + 1) * bytes ≤ 140737488355328) :
    ∃ g' off' c' w', (Builtin.append_ #[t, t] ty #[.slice (some ⟨g, off, none⟩) n c, .slice (some ⟨b, 0, none⟩) 1 1]).run P w = .ok (.slice (some ⟨g', off', none⟩) (n + 1) c') w' ∧ Own w0 w' (ps.set i (que e g' off' (n + 1) c' (xs ++ [u]))) := by
  obtain ⟨i0, hi, hz0, hz1, hz2⟩ := info_parts st.i
  obtain ⟨cur, k0, k1, k2, k3, k4⟩ := hO.get i hp
  by_cases hroom : n + 1 ≤ c
  · have hcell : (w.cell? ⟨g, off + n, none⟩).isSome = true := by simp only [World.cell?, k0]; simp; omega
    refine ⟨g, off, c, _, run_append_room_cells (P := P) w t ty e i0 st.u hi g off n c ⟨b, 0, none⟩ 1 1 [u] (by rw [hz1]; rfl) (fun j v hv => ?_) (by simpa using h1) hroom (fun j hj => ?_) (fun j _ => by simp [World.frozen?, k0]), ?_⟩
    · rcases j with _ | j
      · simp at hv; subst hv; exact hu
      · simp at hv
    · simp at hj; subst hj; rw [hz1]; simpa using hcell
    · rw [hz1, Nat.mul_one]
      show Own w0 (w.setCell ⟨g, off + n, none⟩ u) _
      have hb := hO.getBase i hp g rfl
      have hs := heap_set w g (off + n) cur.toList e u (by simpa using k0)
      refine ⟨hO.1.setCell hb u, hO.2.setAt i hp ⟨_, hs, by simp [k1], hroom, by simpa using k3, fun j v hv => ?_⟩ (fun b e => .inl e) fun k hk _ => Below.heap_setCell w ⟨g, off + n, none⟩ u k fun e => hk (congrArg some e)⟩
      by_cases hj : j = n
      · subst hj
        rw [List.getElem?_append_right (by omega), k1, Nat.sub_self] at hv
        simp at hv
        subst hv
        simp only [List.getElem?_toArray]
        rw [List.getElem?_set_self (by simp; omega)]
      · have hj2 : j < xs.length := by
          have := (List.getElem?_eq_some_iff.1 hv).1
          simp at this; omega
        rw [List.getElem?_append_left hj2] at hv
        have := k4 j v hv
        simp only [List.getElem?_toArray, List.getElem?_set]
        rw [if_neg (by omega)]
        simpa using this
  · obtain ⟨v', w', hrun, r1, r2⟩ := run_append_arg_grows (P := P) w t ty e i0 z 1 bytes st.u hi hz0 hz1 hz2 st.c st.p ⟨g, off, none⟩ n c xs (by omega) (fun j v hv => by rw [Addr.add_lit]; exact hO.queAt i hp hv) ⟨b, 0, none⟩ 1 1 [u] rfl
      (fun j v hv => by
        rcases j with _ | j
        · simp at hv; subst hv; exact hu
        · simp at hv) (by omega) h63 hbytes
    obtain ⟨q1, q2⟩ := r1
    rcases q2 with ⟨_, q2⟩ | ⟨g', cap, cur', rfl, q3, q4, q5, q6, q7, q8⟩
    · omega
    · refine ⟨g', 0, cap, w', hrun, hO.change i hp ⟨cur', q4, by simpa using q1, q5, by omega, fun j v hv => ?_⟩ (fun b e => by injection e with e; subst e; exact .inr ⟨q3, by have := hO.size; omega⟩) ⟨r2.os, r2.tape, r2.output, r2.size, fun k hk _ => r2.block k hk (by simp)⟩⟩
      rw [← q8, List.getElem?_take] at hv
      split at hv
      · simpa using hv
      · cases hv
theorem wpList_appQ {ops : Array Oper} {rest : List Oper} {o : Oper} {a : Act} {Q : Exit → Act → World → Prop} (hgd : o.guard = none) (s y : Operand) (t : TypeId)
    (ho : o.op = .call { callee := .builtin .append, args := #[s, y], argTypes := #[t, t] }) {z : Value} {bytes : Nat} (st : SlTy P t e z 1 bytes) (i : Nat) (hO : Own w0 w ps) (hp : ps[i]? = some (que e g off n c xs)) (hs : a.eval s = .slice (some ⟨g, off, none⟩) n c)
    {b : Nat} (hx : a.eval y = .slice (some ⟨b, 0, none⟩) 1 1) (u : Value)
    (h : ∀ g' off' c' w', Own w0 w' (ps.set i (que e g' off' (n + 1) c' (xs ++ [u]))) → wpList P ops Q rest (a.put o.dst (.slice (some ⟨g', off', none⟩) (n + 1) c')) w')
    (hu : w.cell? ⟨b, 0, none⟩ = some u) (h1 : u.oneCell' = true) (h63 : n + 1 ≤ maxLen) (hbytes : (n + 1) * bytes ≤ 140737488355328) : wpList P ops Q (o :: rest) a w := by
  obtain ⟨g', off', c', w', hrun, h2⟩ := run_appQ (P := P) (ty := o.type) st i hO hp hu h1 h63 hbytes
  exact wpList_plain hgd fun _ hK => wp_app w s y t ho _ _ hs hx hrun (hK _ _ (h g' off' c' w' h2))
end

section
variable {P : Pic} {S T T' : List Bool} {Q Q' : Nat → Prop} {c p j : Nat}
theorem mid_skip (hW : 1 ≤ P.W) (h : Mid (KP P) (AP P) (mkd S) (mkd T) Q (DP P j c) c p) (hs : inP P (cx P c + dx j) (cy P c + dy j) → KP P (idx P (cx P c + dx j) (cy P c + dy j)) → mkd T (idx P (cx P c + dx j) (cy P c + dy j))) :
    Mid (KP P) (AP P) (mkd S) (mkd T) Q (DP P (j + 1) c) c p := by
  refine ⟨h.sub, h.at_, h.new, h.shut, h.wait, fun v ⟨d, hd, had, f1, f2⟩ hkv => ?_⟩
  by_cases e : d = j
  · subst e
    obtain ⟨h1, h2⟩ := idx_of hW hkv.1
    rw [f1, f2] at h1 h2
    have := hs h1 (by rw [h2]; exact hkv)
    rwa [h2] at this
  · exact h.done v ⟨d, by omega, had, f1, f2⟩ hkv
theorem mid_pass (ha : allowF P j = false) (h : Mid (KP P) (AP P) (mkd S) (mkd T) Q (DP P j c) c p) : Mid (KP P) (AP P) (mkd S) (mkd T) Q (DP P (j + 1) c) c p := by
  refine ⟨h.sub, h.at_, h.new, h.shut, h.wait, fun v ⟨d, hd, had, f1, f2⟩ hkv => ?_⟩
  by_cases e : d = j
  · subst e; rw [ha] at had; exact absurd had (by decide)
  · exact h.done v ⟨d, by omega, had, f1, f2⟩ hkv
theorem mid_push (hW : 1 ≤ P.W) (hj : j < 8) (ha : allowF P j = true) (h : Mid (KP P) (AP P) (mkd S) (mkd T) Q (DP P j c) c p) (hi : inP P (cx P c + dx j) (cy P c + dy j)) (hk : KP P (idx P (cx P c + dx j) (cy P c + dy j)))
    (hl : idx P (cx P c + dx j) (cy P c + dy j) < T.length) (hT : T' = T.set (idx P (cx P c + dx j) (cy P c + dy j)) true) (hq : ∀ v, Q' v ↔ Q v ∨ v = idx P (cx P c + dx j) (cy P c + dy j)) :
    Mid (KP P) (AP P) (mkd S) (mkd T') Q' (DP P (j + 1) c) c p := by
  obtain ⟨e1, e2⟩ := idx_cx hi
  have h2 := h.push hk (u := idx P (cx P c + dx j) (cy P c + dy j)) ⟨j, hj, ha, e1, e2⟩ (T' := mkd T') (fun v => by rw [hT]; exact getD_set T _ hl v) hq
  refine ⟨h2.sub, h2.at_, h2.new, h2.shut, h2.wait, fun v ⟨d, hd, had, f1, f2⟩ hkv => h2.done v ?_ hkv⟩
  by_cases e : d = j
  · subst e
    have hv := (idx_of hW hkv.1).2
    exact .inr (by rw [← hv, f1, f2])
  · exact .inl ⟨d, by omega, had, f1, f2⟩
end
end Go.Proofs.Ytjelnbfnoliocaa
