/- A search that marks the parts of a graph, in depth or by a queue; plain mathematics. No condition. -/
import Derived.Test.YtjelnbfnoliocaaRa
namespace Go.Proofs.Ytjelnbfnoliocaa

open Classical

/-- What a fill from p does to the marks S. -/
structure Fill (K : Nat → Prop) (A : Nat → Nat → Prop) (S T : Nat → Prop) (p : Nat) : Prop where
  sub : ∀ v, S v → T v
  at_ : K p → T p
  new : ∀ v, T v → S v ∨ Conn K A p v
  shut : ∀ v, T v → S v ∨ ∀ u, K u → A v u → T u
section
variable {K : Nat → Prop} {A : Nat → Nat → Prop} {S T T' D Q : Nat → Prop} {p u c i : Nat}
theorem Fill.none (h : K p → S p) : Fill K A S S p := ⟨fun _ h => h, h, fun _ h => .inl h, fun _ h => .inl h⟩
/-- A fill in depth under way: D is done of p's neighbours. -/
structure Half (K : Nat → Prop) (A : Nat → Nat → Prop) (S T D : Nat → Prop) (p : Nat) : Prop where
  sub : ∀ v, S v → T v
  at_ : T p
  new : ∀ v, T v → S v ∨ Conn K A p v
  shut : ∀ v, T v → S v ∨ v = p ∨ ∀ u, K u → A v u → T u
  done : ∀ u, D u → K u → T u
theorem Half.start (hp : K p) (h : ∀ v, T v ↔ S v ∨ v = p) : Half K A S T (fun _ => False) p :=
  ⟨fun v hv => (h v).2 (.inl hv), (h p).2 (.inr rfl), fun v hv => ((h v).1 hv).imp id fun e => by subst e; exact .refl hp, fun v hv => ((h v).1 hv).imp id .inl, fun _ h => h.elim⟩
theorem Half.skip (h : Half K A S T D p) (hu : ¬ K u) : Half K A S T (fun v => D v ∨ v = u) p :=
  ⟨h.sub, h.at_, h.new, h.shut, fun v hv hk => hv.elim (fun d => h.done v d hk) fun e => absurd (e ▸ hk) hu⟩
theorem Half.step (h : Half K A S T D p) (hp : K p) (ha : A p u) (hf : Fill K A T T' u) : Half K A S T' (fun v => D v ∨ v = u) p :=
  ⟨fun v hv => hf.sub v (h.sub v hv), hf.sub _ h.at_,
   fun v hv => (hf.new v hv).elim (h.new v) fun c => .inr (((Conn.refl hp).step ha c.left).trans c),
   fun v hv => (hf.shut v hv).elim (fun t => (h.shut v t).imp id (Or.imp id fun k u hu ha => hf.sub u (k u hu ha))) fun k => .inr (.inr k),
   fun v hv hk => hv.elim (fun d => hf.sub v (h.done v d hk)) fun e => by subst e; exact hf.at_ hk⟩
theorem Half.fill (h : Half K A S T D p) (hd : ∀ u, K u → A p u → D u) : Fill K A S T p :=
  ⟨h.sub, fun _ => h.at_, h.new, fun v hv => (h.shut v hv).imp id fun k => k.elim (fun e u hu ha => h.done u (hd u hu (e ▸ ha)) hu) id⟩

/-- A fill by a queue, between two of its places. -/
structure Wave (K : Nat → Prop) (A : Nat → Nat → Prop) (S T Q : Nat → Prop) (p : Nat) : Prop where
  sub : ∀ v, S v → T v
  at_ : T p
  new : ∀ v, T v → S v ∨ Conn K A p v
  shut : ∀ v, T v → S v ∨ Q v ∨ ∀ u, K u → A v u → T u
  wait : ∀ v, Q v → Conn K A p v
/-- A fill by a queue, at the place c. -/
structure Mid (K : Nat → Prop) (A : Nat → Nat → Prop) (S T Q D : Nat → Prop) (c p : Nat) : Prop where
  sub : ∀ v, S v → T v
  at_ : T p
  new : ∀ v, T v → S v ∨ Conn K A p v
  shut : ∀ v, T v → S v ∨ (v = c ∨ Q v) ∨ ∀ u, K u → A v u → T u
  wait : ∀ v, v = c ∨ Q v → Conn K A p v
  done : ∀ u, D u → K u → T u
theorem Wave.start (hp : K p) (h : ∀ v, T v ↔ S v ∨ v = p) (hq : ∀ v, Q v ↔ v = p) : Wave K A S T Q p :=
  ⟨fun v hv => (h v).2 (.inl hv), (h p).2 (.inr rfl), fun v hv => ((h v).1 hv).imp id fun e => by subst e; exact .refl hp, fun v hv => ((h v).1 hv).imp id fun e => .inl ((hq v).2 e), fun v hv => by have e := (hq v).1 hv; subst e; exact .refl hp⟩
theorem Wave.pop {Q' : Nat → Prop} (h : Wave K A S T Q p) (hq : ∀ v, Q v ↔ v = c ∨ Q' v) : Mid K A S T Q' (fun _ => False) c p :=
  ⟨h.sub, h.at_, h.new, fun v hv => (h.shut v hv).imp id (Or.imp (hq v).1 id), fun v hv => h.wait v ((hq v).2 hv), fun _ h => h.elim⟩
theorem Mid.skip (h : Mid K A S T Q D c p) (hu : K u → T u) : Mid K A S T Q (fun v => D v ∨ v = u) c p :=
  ⟨h.sub, h.at_, h.new, h.shut, h.wait, fun v hv hk => hv.elim (fun d => h.done v d hk) fun e => by subst e; exact hu hk⟩
theorem Mid.push {Q' : Nat → Prop} (h : Mid K A S T Q D c p) (hu : K u) (ha : A c u) (ht : ∀ v, T' v ↔ T v ∨ v = u) (hq : ∀ v, Q' v ↔ Q v ∨ v = u) : Mid K A S T' Q' (fun v => D v ∨ v = u) c p := by
  have hc : Conn K A p u := (h.wait c (.inl rfl)).step ha hu
  refine ⟨fun v hv => (ht v).2 (.inl (h.sub v hv)), (ht p).2 (.inl h.at_), fun v hv => ((ht v).1 hv).elim (h.new v) fun e => .inr (e ▸ hc), fun v hv => ?_, fun v hv => ?_, fun v hv hk => ?_⟩
  · rcases (ht v).1 hv with t | e
    · exact (h.shut v t).imp id (Or.imp (Or.imp id fun q => (hq v).2 (.inl q)) fun k u hu ha => (ht u).2 (.inl (k u hu ha)))
    · exact .inr (.inl (.inr ((hq v).2 (.inr e))))
  · rcases hv with e | q
    · exact h.wait v (.inl e)
    · rcases (hq v).1 q with q | e
      · exact h.wait v (.inr q)
      · exact e ▸ hc
  · rcases hv with d | e
    · exact (ht v).2 (.inl (h.done v d hk))
    · exact (ht v).2 (.inr e)
theorem Mid.wave (h : Mid K A S T Q D c p) (hd : ∀ u, K u → A c u → D u) : Wave K A S T Q p :=
  ⟨h.sub, h.at_, h.new, fun v hv => (h.shut v hv).imp id fun k => k.elim (fun e => e.elim (fun e => .inr fun u hu ha => h.done u (hd u hu (e ▸ ha)) hu) .inl) .inr, fun v hv => h.wait v (.inr hv)⟩
theorem Wave.fill (h : Wave K A S T Q p) (hq : ∀ v, ¬ Q v) : Fill K A S T p :=
  ⟨h.sub, fun _ => h.at_, h.new, fun v hv => (h.shut v hv).imp id fun k => k.elim (fun q => absurd q (hq v)) id⟩

/-- The marks after the places below i have been asked. -/
def Scan (K : Nat → Prop) (A : Nat → Nat → Prop) (S : Nat → Prop) (i : Nat) : Prop := ∀ v, S v ↔ ∃ m, m < i ∧ Conn K A m v
theorem Scan.zero : Scan K A (fun _ => False) 0 := fun _ => ⟨fun h => h.elim, fun ⟨_, h, _⟩ => by omega⟩
theorem Scan.step (h : Scan K A S i) (hf : Fill K A S T i) : Scan K A T (i + 1) := by
  have shut : ∀ v u, T v → K u → A v u → T u := by
    intro v u hv hu ha
    rcases hf.shut v hv with s | k
    · obtain ⟨m, hm, c⟩ := (h v).1 s
      exact hf.sub u ((h u).2 ⟨m, hm, c.step ha hu⟩)
    · exact k u hu ha
  intro v
  constructor
  · intro hv
    rcases hf.new v hv with s | c
    · obtain ⟨m, hm, c⟩ := (h v).1 s
      exact ⟨m, by omega, c⟩
    · exact ⟨i, by omega, c⟩
  · rintro ⟨m, hm, c⟩
    by_cases e : m = i
    · subst e
      induction c with
      | refl hk => exact hf.at_ hk
      | step _ ha hk ih => exact shut _ _ ih hk ha
    · exact hf.sub v ((h v).2 ⟨m, by omega, c⟩)
theorem Scan.least (h : Scan K A S i) : Least K A i ↔ K i ∧ ¬ S i := by
  constructor
  · exact fun ⟨a, b⟩ => ⟨a, fun s => by obtain ⟨m, hm, c⟩ := (h i).1 s; exact b m hm c⟩
  · exact fun ⟨a, b⟩ => ⟨a, fun j hj c => b ((h i).2 ⟨j, hj, c⟩)⟩
/-- The count of the parts, place after place. -/
noncomputable def upToN (K : Nat → Prop) (A : Nat → Nat → Prop) (i : Nat) : Nat := sumN (fun j => ind (Least K A j)) i
theorem upToN_yes (h : Scan K A S i) (hk : K i) (hs : ¬ S i) : upToN K A (i + 1) = upToN K A i + 1 := by
  show upToN K A i + ind (Least K A i) = _
  rw [ind_yes (h.least.2 ⟨hk, hs⟩)]
theorem upToN_no (h : Scan K A S i) (hk : K i → S i) : upToN K A (i + 1) = upToN K A i := by
  show upToN K A i + ind (Least K A i) = _
  rw [ind_no fun l => (h.least.1 l).2 (hk (h.least.1 l).1)]; rfl
theorem upToN_le (i : Nat) : upToN K A i ≤ i := by
  induction i with
  | zero => exact Nat.le_refl _
  | succ i ih => have := ind_le_one (Least K A i); show upToN K A i + ind (Least K A i) ≤ i + 1; omega
theorem upToN_all (N : Nat) : upToN K A N = comps K A N := rfl
end

/-- How many places are not marked. -/
def openN (l : List Bool) : Nat := l.countP fun b => !b
theorem openN_le (l : List Bool) : openN l ≤ l.length := List.countP_le_length
theorem openN_set : ∀ (l : List Bool) (k : Nat), l[k]? = some false → openN (l.set k true) + 1 = openN l
  | [], k, h => by simp at h
  | b :: l, 0, h => by
    have : b = false := by simpa using h
    subst this
    simp [openN]
  | b :: l, k + 1, h => by
    have ih := openN_set l k (by simpa using h)
    simp only [openN, List.set_cons_succ, List.countP_cons] at ih ⊢
    omega
theorem getD_set (l : List Bool) (k : Nat) (hk : k < l.length) (v : Nat) : (l.set k true).getD v false = true ↔ l.getD v false = true ∨ v = k := by
  by_cases e : v = k
  · subst e; simp [hk]
  · simp [List.getD_eq_getElem?_getD, List.getElem?_set_ne (Ne.symm e), e]
end Go.Proofs.Ytjelnbfnoliocaa
