/- Vaults: what fits; plain mathematics. No condition. -/
import Derived.Test.YtnienfgaidccpaaDoorVb
namespace Go.Proofs.YtnienfgaidccpaaDoor

/-- At how many places of a list a secret has the values V. -/
def agr (V : Int → Int) (f : List Int) (set : List Int) : Nat := (set.filter fun x => valF f x == V x).length
def need (m n : Nat) : Nat := (m + n + 1) / 2
/-- Places that differ modulo 31. -/
def Apart (l : List Int) : Prop := l.Pairwise fun a b => ¬ C a b
theorem both_len (p q : Int → Bool) : ∀ l : List Int, (l.filter p).length + (l.filter q).length ≤ (l.filter fun x => p x && q x).length + l.length := by
  intro l
  induction l with
  | nil => simp
  | cons x l ih => simp only [List.filter_cons]; cases p x <;> cases q x <;> simp <;> omega
theorem take_sub {l : List Int} {n : Nat} (h : n ≤ l.length) : (l.take n).Sublist l ∧ (l.take n).length = n := ⟨List.take_sublist _ _, by simp [h]⟩
/-- At most one secret fits. -/
theorem fit_unique {V : Int → Int} {f g set : List Int} {n : Nat} (hs : Apart set) (hf : f.length = n) (hg : g.length = n) (h1 : In31 f) (h2 : In31 g)
    (a1 : need set.length n ≤ agr V f set) (a2 : need set.length n ≤ agr V g set) : f = g := by
  have hb := both_len (fun x => valF f x == V x) (fun x => valF g x == V x) set
  unfold agr need at *
  obtain ⟨s1, s2⟩ := take_sub (l := set.filter fun x => (valF f x == V x) && (valF g x == V x)) (n := n) (by omega)
  refine interp _ f g (hf.trans s2.symm) (hg.trans s2.symm) ((hs.sublist (List.filter_sublist)).sublist s1) h1 h2 fun r hr => ?_
  have := (List.mem_filter.1 (s1.subset hr)).2
  simp at this
  rw [this.1, this.2]
/-- The test of the program, and that of the reference. -/
def tstN (V : Int → Int) (set : List Int) (n : Nat) (c : List Int) : Option (List Int) := if need set.length n ≤ agr V (thr V c) set then some (thr V c) else none
def tstL (V : Int → Int) (set : List Int) (n : Nat) (c : List Int) : Option (List Int) := if need set.length n ≤ agr V (lag V c) set then some (lag V c) else none
def few (m n : Nat) : Nat := min m (n + m - need m n)
def unlN (V : Int → Int) (set : List Int) (n : Nat) : Option (List Int) := srch (tstN V set n) (set.take (few set.length n)) n []
def unlL (V : Int → Int) (set : List Int) (n : Nat) : Option (List Int) := srch (tstL V set n) set n []
def InR (V : Int → Int) (set : List Int) : Prop := ∀ x ∈ set, 0 ≤ V x ∧ V x < 31

theorem thr_of {V : Int → Int} {f c : List Int} (hV : InR V c) (hc : Apart c) (hf : f.length = c.length) (h1 : In31 f) (h : ∀ x ∈ c, valF f x = V x) : thr V c = f := by
  obtain ⟨a1, a2, a3⟩ := thr_ok V c hc
  exact interp c _ _ a1 hf hc a2 h1 fun r hr => by rw [h r hr]; exact (a3 r hr).eq (valF_range _ _) (hV r hr)
/-- What fits is found. -/
theorem unlN_finds {V : Int → Int} {set f : List Int} {n : Nat} (hV : InR V set) (hs : Apart set) (hf : f.length = n) (h1 : In31 f) (ha : need set.length n ≤ agr V f set) : unlN V set n = some f := by
  have hb : n ≤ ((set.take (few set.length n)).filter fun x => valF f x == V x).length := by
    have e := congrArg List.length (List.filter_append (p := fun x => valF f x == V x) (set.take (few set.length n)) (set.drop (few set.length n)))
    rw [List.take_append_drop, List.length_append] at e
    have hd := List.length_filter_le (fun x => valF f x == V x) (set.drop (few set.length n))
    rw [List.length_drop] at hd
    unfold agr at ha
    have hl := List.length_filter_le (fun x => valF f x == V x) set
    unfold few need at *
    omega
  obtain ⟨s1, s2⟩ := take_sub hb
  have hsub : ((((set.take (few set.length n)).filter fun x => valF f x == V x)).take n).Sublist (set.take (few set.length n)) := s1.trans List.filter_sublist
  have hsub' := hsub.trans (List.take_sublist _ _)
  have ht : thr V ((((set.take (few set.length n)).filter fun x => valF f x == V x)).take n) = f :=
    thr_of (fun x hx => hV x (hsub'.subset hx)) (hs.sublist hsub') (hf.trans s2.symm) h1 fun x hx => by
      have := (List.mem_filter.1 (s1.subset hx)).2
      simpa using this
  have hi := srch_isSome (test := tstN V set n) (set.take (few set.length n)) n [] _ hsub s2 (by rw [List.nil_append, tstN, ht, if_pos ha]; rfl)
  obtain ⟨r, hr⟩ := Option.isSome_iff_exists.1 hi
  obtain ⟨l, g1, g2, g3⟩ := srch_some _ _ _ _ hr
  rw [List.nil_append, tstN] at g3
  split at g3
  · rename_i hn
    injection g3 with g3
    have hla := hs.sublist (g1.trans (List.take_sublist _ _))
    obtain ⟨b1, b2, b3⟩ := thr_ok V l hla
    have : thr V l = f := fit_unique hs (b1.trans g2) hf b2 h1 hn ha
    rw [unlN, hr, ← g3, this]
  · cases g3
theorem unlN_some {V : Int → Int} {set f : List Int} {n : Nat} (hs : Apart set) (h : unlN V set n = some f) : f.length = n ∧ In31 f ∧ need set.length n ≤ agr V f set := by
  obtain ⟨l, g1, g2, g3⟩ := srch_some _ _ _ _ h
  rw [List.nil_append, tstN] at g3
  split at g3
  · rename_i hn
    injection g3 with g3
    obtain ⟨b1, b2, b3⟩ := thr_ok V l (hs.sublist (g1.trans (List.take_sublist _ _)))
    rw [← g3]
    exact ⟨b1.trans g2, b2, hn⟩
  · cases g3
theorem unlL_some {V : Int → Int} {set f : List Int} {n : Nat} (hV : InR V set) (hs : Apart set) (h : unlL V set n = some f) : f.length = n ∧ In31 f ∧ need set.length n ≤ agr V f set := by
  obtain ⟨l, g1, g2, g3⟩ := srch_some _ _ _ _ h
  rw [List.nil_append, tstL] at g3
  split at g3
  · rename_i hn
    injection g3 with g3
    obtain ⟨b1, b2, b3⟩ := lag_ok V l (fun x hx => hV x (g1.subset hx)) (hs.sublist g1)
    rw [← g3]
    exact ⟨b1.trans g2, b2, hn⟩
  · cases g3
/-- The program's search and the reference's find the same. -/
theorem unl_eq {V : Int → Int} {set : List Int} {n : Nat} (hV : InR V set) (hs : Apart set) : unlN V set n = unlL V set n := by
  cases h : unlL V set n with
  | some f =>
    obtain ⟨a1, a2, a3⟩ := unlL_some hV hs h
    exact unlN_finds hV hs a1 a2 a3
  | none =>
    cases k : unlN V set n with
    | none => rfl
    | some f =>
      obtain ⟨l, g1, g2, g3⟩ := srch_some _ _ _ _ k
      rw [List.nil_append, tstN] at g3
      split at g3
      · rename_i hn
        have hsub := g1.trans (List.take_sublist _ _)
        have e := thr_lag V l (fun x hx => hV x (hsub.subset hx)) (hs.sublist hsub)
        have := srch_isSome (test := tstL V set n) set n [] l hsub g2 (by rw [List.nil_append, tstL, ← e, if_pos hn]; rfl)
        unfold unlL at h
        rw [h] at this
        cases this
      · cases g3
/-- A set of places: increasing, from 0 to 30. -/
def setB : List Int → Bool
  | [] => true
  | [x] => decide (0 ≤ x ∧ x < 31)
  | x :: y :: l => decide (0 ≤ x ∧ x < 31) && decide (x < y) && setB (y :: l)
theorem setB_ok : ∀ l, setB l = true → (∀ x ∈ l, 0 ≤ x ∧ x < 31) ∧ l.Pairwise (· < ·) := by
  intro l
  induction l with
  | nil => intro _; simp
  | cons x l ih =>
    intro h
    cases l with
    | nil => simpa [setB] using h
    | cons y l =>
      simp only [setB, Bool.and_eq_true, decide_eq_true_eq] at h
      obtain ⟨a, b⟩ := ih h.2
      refine ⟨fun z hz => ?_, List.pairwise_cons.2 ⟨fun z hz => ?_, b⟩⟩
      · rcases List.mem_cons.1 hz with rfl | hz
        · exact h.1.1
        · exact a z hz
      · rcases List.mem_cons.1 hz with rfl | hz'
        · exact h.1.2
        · have := (List.pairwise_cons.1 b).1 z hz'
          omega
theorem setB_apart {l : List Int} (h : setB l = true) : Apart l := by
  obtain ⟨a, b⟩ := setB_ok l h
  refine (List.pairwise_iff_forall_sublist.2 fun {x y} hsub => ?_)
  have hx := a x (hsub.subset (by simp))
  have hy := a y (hsub.subset (by simp))
  have := List.pairwise_iff_forall_sublist.1 b hsub
  unfold C
  omega
end Go.Proofs.YtnienfgaidccpaaDoor
