/- Rates: the law of the frontier; plain mathematics. No condition. -/
import Derived.Test.YtnalbchggjepdaaVb
import Derived.Test.YtnalbchggjepdaaSb
import Derived.Test.YtnalbchggjepdaaSs
namespace Go.Proofs.Ytnalbchggjepdaa

theorem pt_eq {p q : Pt} (h1 : p.a = q.a) (h2 : p.b = q.b) (h3 : p.acc = q.acc) (h4 : p.ref = q.ref) : p = q := by
  cases p; cases q; simp_all
def abB (p q : Pt) : Bool := decide (p.a < q.a) || (decide (p.a = q.a) && decide (p.b < q.b))
theorem abB_iff (p q : Pt) : abB p q = true ↔ (p.a < q.a ∨ p.a = q.a ∧ p.b < q.b) := by simp [abB]
/-- Before, by all four numbers: Accepted, Refused, and the thresholds. -/
def lexP (p q : Pt) : Prop := p.acc < q.acc ∨ p.acc = q.acc ∧ (p.ref < q.ref ∨ p.ref = q.ref ∧ (p.a < q.a ∨ p.a = q.a ∧ p.b < q.b))
/-- One point more: it is kept if it refuses fewer than the last one. -/
def froS (out : List Pt) (p : Pt) : List Pt := if (match out.getLast? with | none => true | some q => decide (p.ref < q.ref)) then out ++ [p] else out
theorem froS_or (out : List Pt) (p : Pt) : froS out p = out ++ [p] ∨ froS out p = out := by
  unfold froS
  generalize (match out.getLast? with | none => true | some q => decide (p.ref < q.ref)) = b
  cases b
  · exact .inr rfl
  · exact .inl rfl
def fro (l : List Pt) : List Pt := l.foldl froS []
theorem fro_snoc (l : List Pt) (p : Pt) : fro (l ++ [p]) = froS (fro l) p := by simp [fro]
structure FroI (D out : List Pt) : Prop where
  mem : ∀ p, p ∈ out ↔ p ∈ D ∧ ∀ q ∈ D, lexP q p → p.ref < q.ref
  pw : out.Pairwise fun p q => p.acc < q.acc ∧ q.ref < p.ref
  last : ∀ q, out.getLast? = some q → ∀ p ∈ D, q.ref ≤ p.ref
  emp : out = [] → D = []
theorem FroI.step {D out : List Pt} (h : FroI D out) {p : Pt} (hp : ∀ q ∈ D, lexP q p) : FroI (D ++ [p]) (froS out p) := by
  have nn : ¬ lexP p p := by unfold lexP; omega
  cases e : out.getLast? with
  | none =>
    have e1 : out = [] := List.getLast?_eq_none_iff.1 e
    have e2 := h.emp e1
    subst e1 e2
    simp only [froS, List.getLast?_nil, List.nil_append, if_true]
    refine ⟨fun x => ?_, List.pairwise_singleton _ _, ?_, by simp⟩
    · constructor
      · intro hx
        refine ⟨hx, fun q hq hl => ?_⟩
        rw [List.mem_singleton.1 hx, List.mem_singleton.1 hq] at hl
        exact absurd hl nn
      · exact fun h => h.1
    · intro q hq x hx
      simp only [List.getLast?_singleton, Option.some.injEq] at hq
      subst hq
      rw [List.mem_singleton.1 hx]
      exact Int.le_refl _
  | some q0 =>
    have hq0 : q0 ∈ out := List.mem_of_getLast? e
    have hq1 := ((h.mem q0).1 hq0).1
    have hlast := h.last q0 e
    unfold froS
    rw [e]
    by_cases c : p.ref < q0.ref
    · simp only [c, decide_true, if_true]
      refine ⟨fun x => ?_, ?_, ?_, by simp⟩
      · simp only [List.mem_append, List.mem_singleton]
        constructor
        · rintro (hx | rfl)
          · obtain ⟨h1, h2⟩ := (h.mem x).1 hx
            refine ⟨.inl h1, ?_⟩
            rintro q (hq | rfl) hl
            · exact h2 q hq hl
            · have := hp x h1
              unfold lexP at this hl
              omega
          · refine ⟨.inr rfl, ?_⟩
            rintro q (hq | rfl) hl
            · have := hlast q hq; omega
            · exact absurd hl nn
        · rintro ⟨hx | rfl, h2⟩
          · exact .inl ((h.mem x).2 ⟨hx, fun q hq hl => h2 q (.inl hq) hl⟩)
          · exact .inr rfl
      · rw [List.pairwise_append]
        refine ⟨h.pw, List.pairwise_singleton _ _, fun o ho y hy => ?_⟩
        rw [List.mem_singleton.1 hy]
        have h1 := ((h.mem o).1 ho).1
        have h2 := hlast o h1
        have h3 := hp o h1
        unfold lexP at h3
        omega
      · intro q hq x hx
        simp only [List.getLast?_append, List.getLast?_singleton, Option.some_or, Option.some.injEq] at hq
        subst hq
        rcases List.mem_append.1 hx with hx | hx
        · have := hlast x hx; omega
        · rw [List.mem_singleton.1 hx]; exact Int.le_refl _
    · simp only [c, decide_false, Bool.false_eq_true, if_false]
      refine ⟨fun x => ?_, h.pw, ?_, ?_⟩
      · simp only [List.mem_append, List.mem_singleton]
        constructor
        · intro hx
          obtain ⟨h1, h2⟩ := (h.mem x).1 hx
          refine ⟨.inl h1, ?_⟩
          rintro q (hq | rfl) hl
          · exact h2 q hq hl
          · have := hp x h1
            unfold lexP at this hl
            omega
        · rintro ⟨hx | rfl, h2⟩
          · exact (h.mem x).2 ⟨hx, fun q hq hl => h2 q (.inl hq) hl⟩
          · have := h2 q0 (.inl hq1) (hp q0 hq1)
            omega
      · intro q hq x hx
        rw [e] at hq
        injection hq with hq
        subst hq
        rcases List.mem_append.1 hx with hx | hx
        · exact hlast x hx
        · rw [List.mem_singleton.1 hx]; omega
      · intro h0
        rw [h0] at hq0; cases hq0
theorem fro_inv : ∀ (E D out : List Pt), FroI D out → (D ++ E).Pairwise lexP → FroI (D ++ E) (E.foldl froS out)
  | [], D, out, h, _ => by simpa using h
  | p :: E, D, out, h, hs => by
    have h1 : ∀ q ∈ D, lexP q p := fun q hq => (List.pairwise_append.1 hs).2.2 q hq p (by simp)
    have := fro_inv E (D ++ [p]) _ (h.step h1) (by simpa using hs)
    simpa using this
theorem fro_is {S : List Pt} (h : S.Pairwise lexP) : FroI S (fro S) := by
  have := fro_inv S [] [] ⟨by simp, List.Pairwise.nil, by simp, by simp⟩ (by simpa using h)
  simpa [fro] using this
/-- The sorted points. -/
theorem sorted_lex {P : List Pt} (h : P.Pairwise fun p q => abB p q = true) : (isort ltP P).Pairwise lexP := by
  have h1 := isort_srt swoP P
  have h2 := isort_stb swoP P
  rw [List.pairwise_iff_forall_sublist]
  intro p q hs
  have k1 := List.pairwise_iff_forall_sublist.1 h1 hs
  have e : ¬ (q.acc < p.acc ∨ q.acc = p.acc ∧ q.ref < p.ref) := fun k => by rw [(ltP_iff q p).2 k] at k1; cases k1
  by_cases c : ltP p q = true
  · have := (ltP_iff p q).1 c; unfold lexP; omega
  · have c' : ¬ (p.acc < q.acc ∨ p.acc = q.acc ∧ p.ref < q.ref) := fun k => c ((ltP_iff p q).2 k)
    have hs2 := hs.filter (eqv ltP p)
    have e1 : eqv ltP p q = true := by simp [eqv, k1, Bool.eq_false_iff.2 c]
    rw [List.filter_cons, if_pos (eqv_self swoP p), List.filter_cons, if_pos e1, List.filter_nil, ← h2.2 p] at hs2
    have k2 := List.pairwise_iff_forall_sublist.1 h (hs2.trans List.filter_sublist)
    have := (abB_iff p q).1 k2
    unfold lexP
    omega
theorem sorted_mem (P : List Pt) (x : Pt) : x ∈ isort ltP P ↔ x ∈ P := (Stb.mem swoP (isort_stb swoP P)).symm
theorem uniq_acc : ∀ {A B : List Pt}, (A.Pairwise fun p q => p.acc < q.acc) → (B.Pairwise fun p q => p.acc < q.acc) → (∀ x, x ∈ A ↔ x ∈ B) → A = B
  | [], [], _, _, _ => rfl
  | [], y :: B, _, _, h => by have := (h y).2 (by simp); cases this
  | x :: A, [], _, _, h => by have := (h x).1 (by simp); cases this
  | x :: A, y :: B, hA, hB, h => by
    obtain ⟨a1, a2⟩ := List.pairwise_cons.1 hA
    obtain ⟨b1, b2⟩ := List.pairwise_cons.1 hB
    have e : x = y := by
      rcases List.mem_cons.1 ((h x).1 (by simp)) with e | e
      · exact e
      · rcases List.mem_cons.1 ((h y).2 (by simp)) with e' | e'
        · exact e'.symm
        · have := b1 x e; have := a1 y e'; omega
    subst e
    congr 1
    refine uniq_acc a2 b2 fun z => ?_
    constructor
    · intro hz
      rcases List.mem_cons.1 ((h z).1 (by simp [hz])) with e | e
      · subst e; have := a1 z hz; omega
      · exact e
    · intro hz
      rcases List.mem_cons.1 ((h z).2 (by simp [hz])) with e | e
      · subst e; have := b1 z hz; omega
      · exact e
/-- Better (the reference). -/
def betB (p q : Pt) : Bool := decide (p.acc ≤ q.acc) && decide (p.ref ≤ q.ref) && (decide (p.acc < q.acc) || decide (p.ref < q.ref))
theorem betB_iff (p q : Pt) : betB p q = true ↔ (p.acc ≤ q.acc ∧ p.ref ≤ q.ref ∧ (p.acc < q.acc ∨ p.ref < q.ref)) := by simp [betB, and_assoc]
/-- Whether two points accept and refuse as many. -/
def samB (p q : Pt) : Bool := decide (p.acc = q.acc) && decide (p.ref = q.ref)
theorem samB_iff (p q : Pt) : samB p q = true ↔ (p.acc = q.acc ∧ p.ref = q.ref) := by simp [samB]
def kepF : List Pt → Pt → List Pt
  | [], p => [p]
  | x :: l, p => if samB x p then (if abB p x then p :: l else x :: l) else x :: kepF l p
theorem kep_mem {x : Pt} : ∀ {l : List Pt} {p : Pt}, x ∈ kepF l p → x = p ∨ x ∈ l
  | [], p, h => by simpa [kepF] using h
  | y :: l, p, h => by
    unfold kepF at h
    split at h
    · split at h
      · rcases List.mem_cons.1 h with e | e
        · exact .inl e
        · exact .inr (by simp [e])
      · exact .inr h
    · rcases List.mem_cons.1 h with e | e
      · exact .inr (by simp [e])
      · rcases kep_mem e with k | k
        · exact .inl k
        · exact .inr (by simp [k])
theorem kep_new : ∀ (l : List Pt) (p : Pt), ∃ x ∈ kepF l p, samB x p = true ∧ abB p x = false
  | [], p => ⟨p, by simp [kepF], by simp [samB], by simp [abB]⟩
  | y :: l, p => by
    unfold kepF
    by_cases c : samB y p = true
    · rw [if_pos c]
      by_cases d : abB p y = true
      · rw [if_pos d]; exact ⟨p, by simp, by simp [samB], by simp [abB]⟩
      · rw [if_neg d]; exact ⟨y, by simp, c, by simpa using d⟩
    · rw [if_neg c]
      obtain ⟨x, h1, h2⟩ := kep_new l p
      exact ⟨x, by simp [h1], h2⟩
theorem kep_old : ∀ (l : List Pt) (p : Pt), ∀ y ∈ l, ∃ x ∈ kepF l p, samB x y = true ∧ abB y x = false
  | [], p, _, h => by cases h
  | z :: l, p, y, h => by
    have self : ∀ q : Pt, samB q q = true ∧ abB q q = false := fun q => ⟨by simp [samB], by simp [abB]⟩
    unfold kepF
    by_cases c : samB z p = true
    · rw [if_pos c]
      by_cases d : abB p z = true
      · rw [if_pos d]
        rcases List.mem_cons.1 h with e | e
        · subst e
          refine ⟨p, by simp, ?_, ?_⟩
          · rw [samB_iff] at c ⊢; omega
          · rw [Bool.eq_false_iff]; intro k; rw [abB_iff] at d k; omega
        · exact ⟨y, by simp [e], self y⟩
      · rw [if_neg d]; exact ⟨y, h, self y⟩
    · rw [if_neg c]
      rcases List.mem_cons.1 h with e | e
      · subst e; exact ⟨y, by simp, self y⟩
      · obtain ⟨x, h1, h2⟩ := kep_old l p y e
        exact ⟨x, by simp [h1], h2⟩
theorem kep_pw : ∀ {l : List Pt} (p : Pt), (l.Pairwise fun x y => samB x y = false) → (kepF l p).Pairwise fun x y => samB x y = false
  | [], p, _ => List.pairwise_singleton _ _
  | z :: l, p, h => by
    obtain ⟨h1, h2⟩ := List.pairwise_cons.1 h
    unfold kepF
    by_cases c : samB z p = true
    · rw [if_pos c]
      by_cases d : abB p z = true
      · rw [if_pos d]
        refine List.pairwise_cons.2 ⟨fun y hy => ?_, h2⟩
        have := h1 y hy
        rw [Bool.eq_false_iff] at this ⊢
        intro k
        apply this
        rw [samB_iff] at c k ⊢
        omega
      · rw [if_neg d]; exact h
    · rw [if_neg c]
      refine List.pairwise_cons.2 ⟨fun y hy => ?_, kep_pw p h2⟩
      rcases kep_mem hy with e | e
      · subst e; simpa using c
      · exact h1 y e
structure KepI (Q out : List Pt) : Prop where
  sub : ∀ x ∈ out, x ∈ Q
  rep : ∀ q ∈ Q, ∃ p ∈ out, samB p q = true ∧ abB q p = false
  pw : out.Pairwise fun x y => samB x y = false
theorem KepI.step {Q out : List Pt} (h : KepI Q out) (p : Pt) : KepI (Q ++ [p]) (kepF out p) := by
  refine ⟨fun x hx => ?_, fun q hq => ?_, kep_pw p h.pw⟩
  · rcases kep_mem hx with e | e
    · simp [e]
    · simp [h.sub x e]
  · rcases List.mem_append.1 hq with e | e
    · obtain ⟨p1, k1, k2, k3⟩ := h.rep q e
      obtain ⟨x, j1, j2, j3⟩ := kep_old out p p1 k1
      refine ⟨x, j1, ?_, ?_⟩
      · rw [samB_iff] at j2 k2 ⊢; omega
      · rw [Bool.eq_false_iff] at j3 k3 ⊢
        rw [ne_eq, abB_iff] at j3 k3 ⊢
        omega
    · rw [List.mem_singleton.1 e]; exact kep_new out p
theorem kep_all : ∀ (E Q out : List Pt), KepI Q out → KepI (Q ++ E) (E.foldl kepF out)
  | [], Q, out, h => by simpa using h
  | p :: E, Q, out, h => by simpa using kep_all E (Q ++ [p]) _ (h.step p)
theorem kep_is (Q : List Pt) : KepI Q (Q.foldl kepF []) := by
  simpa using kep_all Q [] [] ⟨by simp, by simp, List.Pairwise.nil⟩
/-- The points of a list none of whose points is better. -/
def besB (out : List Pt) (p : Pt) : Bool := out.all fun q => !betB q p
def refR (out : List Pt) (acc : Nat) : List Pt := out.filter fun p => decide (p.acc = (acc : Int)) && besB out p
def refFro (out : List Pt) (n : Nat) : List Pt := (List.range n).flatMap (refR out)
theorem pair_flat {α β : Type} {R : β → β → Prop} {f : α → List β} : ∀ {l : List α}, (∀ a ∈ l, (f a).Pairwise R) → (l.Pairwise fun a a' => ∀ x ∈ f a, ∀ y ∈ f a', R x y) → (l.flatMap f).Pairwise R
  | [], _, _ => by simp
  | a :: l, h1, h2 => by
    obtain ⟨k1, k2⟩ := List.pairwise_cons.1 h2
    rw [List.flatMap_cons, List.pairwise_append]
    refine ⟨h1 a (by simp), pair_flat (fun b hb => h1 b (by simp [hb])) k2, fun x hx y hy => ?_⟩
    obtain ⟨b, hb, hy⟩ := List.mem_flatMap.1 hy
    exact k1 b hb x hx y hy
theorem refFro_mem {out : List Pt} {n : Nat} (hn : ∀ p ∈ out, 0 ≤ p.acc ∧ p.acc < n) (x : Pt) : x ∈ refFro out n ↔ x ∈ out ∧ besB out x = true := by
  unfold refFro refR
  rw [List.mem_flatMap]
  constructor
  · rintro ⟨k, _, h⟩
    have := List.mem_filter.1 h
    simp only [Bool.and_eq_true] at this
    exact ⟨this.1, this.2.2⟩
  · rintro ⟨h1, h2⟩
    have := hn x h1
    refine ⟨x.acc.toNat, List.mem_range.2 (by omega), List.mem_filter.2 ⟨h1, ?_⟩⟩
    simp only [Bool.and_eq_true, decide_eq_true_eq]
    exact ⟨by omega, h2⟩
theorem pw_ne {α : Type} {R : α → α → Prop} (hs : ∀ x y, R x y → R y x) : ∀ {l : List α}, l.Pairwise R → ∀ x ∈ l, ∀ y ∈ l, x = y ∨ R x y
  | [], _, _, h, _, _ => by cases h
  | a :: l, hp, x, hx, y, hy => by
    obtain ⟨h1, h2⟩ := List.pairwise_cons.1 hp
    rcases List.mem_cons.1 hx with e | e <;> rcases List.mem_cons.1 hy with f | f
    · exact .inl (e.trans f.symm)
    · subst e; exact .inr (h1 y f)
    · subst f; exact .inr (hs _ _ (h1 x e))
    · exact pw_ne hs h2 x e y f
theorem sam_symm {x y : Pt} (h : samB x y = false) : samB y x = false := by
  rw [Bool.eq_false_iff] at h ⊢
  intro k
  apply h
  rw [samB_iff] at k ⊢
  omega
theorem refFro_pw {Q out : List Pt} (h : KepI Q out) (n : Nat) : (refFro out n).Pairwise fun p q => p.acc < q.acc := by
  refine pair_flat (fun k _ => ?_) ?_
  · refine List.Pairwise.imp_of_mem (R := fun x y => samB x y = false) ?_ (h.pw.sublist List.filter_sublist)
    intro x y hx hy hxy
    have h1 := List.mem_filter.1 hx
    have h2 := List.mem_filter.1 hy
    simp only [Bool.and_eq_true, decide_eq_true_eq, besB, List.all_eq_true] at h1 h2
    have a1 := h1.2.2 y h2.1
    have a2 := h2.2.2 x h1.1
    rw [Bool.not_eq_true', Bool.eq_false_iff, ne_eq, betB_iff] at a1 a2
    rw [Bool.eq_false_iff, ne_eq, samB_iff] at hxy
    omega
  · refine List.Pairwise.imp ?_ List.pairwise_lt_range
    intro k k' hk x hx y hy
    have h1 := List.mem_filter.1 hx
    have h2 := List.mem_filter.1 hy
    simp only [Bool.and_eq_true, decide_eq_true_eq] at h1 h2
    omega
/-- THE LAW OF THE FRONTIER: the program's way and the reference's give the same points. -/
theorem front_same {P Q : List Pt} (hP : P.Pairwise fun p q => abB p q = true) (hPQ : ∀ x, x ∈ P ↔ x ∈ Q) {n : Nat} (hn : ∀ p ∈ P, 0 ≤ p.acc ∧ p.acc < n) :
    fro (isort ltP P) = refFro (Q.foldl kepF []) n := by
  have hF := fro_is (sorted_lex hP)
  have hK := kep_is Q
  generalize Q.foldl kepF [] = out at *
  refine uniq_acc (hF.pw.imp fun h => h.1) (refFro_pw hK n) fun x => ?_
  rw [hF.mem, refFro_mem (fun p hp => hn p ((hPQ p).2 (hK.sub p hp)))]
  constructor
  · rintro ⟨h1, h2⟩
    have h1 := (hPQ x).1 ((sorted_mem P x).1 h1)
    have h2 : ∀ q ∈ Q, lexP q x → x.ref < q.ref := fun q hq => h2 q ((sorted_mem P q).2 ((hPQ q).2 hq))
    obtain ⟨p, k1, k2, k3⟩ := hK.rep x h1
    have e : p = x := by
      rw [samB_iff] at k2
      rw [Bool.eq_false_iff, ne_eq, abB_iff] at k3
      have := h2 p (hK.sub p k1)
      have : ¬ lexP p x := fun k => by have := this k; omega
      unfold lexP at this
      exact pt_eq (by omega) (by omega) (by omega) (by omega)
    subst e
    refine ⟨k1, ?_⟩
    simp only [besB, List.all_eq_true, Bool.not_eq_true']
    intro q hq
    rw [Bool.eq_false_iff, ne_eq, betB_iff]
    intro hb
    have := h2 q (hK.sub q hq) (by unfold lexP; omega)
    omega
  · rintro ⟨h1, h2⟩
    have h0 := hK.sub x h1
    refine ⟨(sorted_mem P x).2 ((hPQ x).2 h0), fun q hq hl => ?_⟩
    have hq := (hPQ q).1 ((sorted_mem P q).1 hq)
    obtain ⟨p, k1, k2, k3⟩ := hK.rep q hq
    simp only [besB, List.all_eq_true, Bool.not_eq_true'] at h2
    have k4 := h2 p k1
    rw [samB_iff] at k2
    rw [Bool.eq_false_iff, ne_eq, betB_iff] at k4
    rw [Bool.eq_false_iff, ne_eq, abB_iff] at k3
    rcases pw_ne (fun _ _ => sam_symm) hK.pw p k1 x h1 with e | e
    · subst e; unfold lexP at hl; omega
    · rw [Bool.eq_false_iff, ne_eq, samB_iff] at e
      unfold lexP at hl
      omega
/-- Each point has one on the frontier that is as good. -/
theorem front_dom {P : List Pt} (hP : P.Pairwise fun p q => abB p q = true) {x : Pt} (hx : x ∈ P) : ∃ q ∈ fro (isort ltP P), q.acc ≤ x.acc ∧ q.ref ≤ x.ref := by
  have key : ∀ (E D out : List Pt), FroI D out → (D ++ E).Pairwise lexP → (∀ x ∈ D, ∃ q ∈ out, q.acc ≤ x.acc ∧ q.ref ≤ x.ref) → ∀ x ∈ D ++ E, ∃ q ∈ E.foldl froS out, q.acc ≤ x.acc ∧ q.ref ≤ x.ref := by
    intro E
    induction E with
    | nil => intro D out _ _ h x hx; exact h x (by simpa using hx)
    | cons p E ih =>
      intro D out hI hs h x hx
      have h1 : ∀ q ∈ D, lexP q p := fun q hq => (List.pairwise_append.1 hs).2.2 q hq p (by simp)
      refine ih (D ++ [p]) (froS out p) (hI.step h1) (by simpa using hs) ?_ x (by simpa using hx)
      intro y hy
      have hsub : ∀ z ∈ out, z ∈ froS out p := by
        intro z hz
        rcases froS_or out p with e | e
        · rw [e]; simp [hz]
        · rw [e]; exact hz
      rcases List.mem_append.1 hy with hy | hy
      · obtain ⟨q, q1, q2⟩ := h y hy
        exact ⟨q, hsub q q1, q2⟩
      · obtain rfl := List.mem_singleton.1 hy
        cases e : out.getLast? with
        | none => exact ⟨y, by unfold froS; rw [e]; simp, Int.le_refl _, Int.le_refl _⟩
        | some q0 =>
          by_cases c : y.ref < q0.ref
          · exact ⟨y, by unfold froS; rw [e]; simp [c], Int.le_refl _, Int.le_refl _⟩
          · have hq0 := List.mem_of_getLast? e
            have := h1 q0 ((hI.mem q0).1 hq0).1
            exact ⟨q0, hsub q0 hq0, by unfold lexP at this; omega, by omega⟩
  have := key (isort ltP P) [] [] ⟨by simp, List.Pairwise.nil, by simp, by simp⟩ (by simpa using sorted_lex hP) (by simp) x (by simpa using (sorted_mem P x).2 hx)
  exact this
theorem compact_mem (l : List Int) (x : Int) : x ∈ Lib.compact l ↔ x ∈ l := by
  unfold Lib.compact Lib.compactUpTo
  simp only [List.mem_map, List.mem_filter, List.mem_range]
  constructor
  · rintro ⟨j, ⟨hj, _⟩, rfl⟩
    have : l.toArray[j]! = l[j] := by simp [hj]
    rw [this]; exact List.getElem_mem hj
  · intro hx
    have key : ∀ k, (h : k < l.length) → ∃ j, (j < l.length ∧ Lib.keeps l.toArray j = true) ∧ l.toArray[j]! = l[k] := by
      intro k
      induction k with
      | zero => intro h; exact ⟨0, ⟨h, Lib.keeps_lt_one _ 0 (by omega)⟩, by simp [h]⟩
      | succ k ih =>
        intro h
        by_cases e : l[k + 1] = l[k]'(by omega)
        · obtain ⟨j, j1, j2⟩ := ih (by omega)
          exact ⟨j, j1, j2.trans e.symm⟩
        · refine ⟨k + 1, ⟨h, ?_⟩, by simp [h]⟩
          have h' : k < l.length := by omega
          simp only [Lib.keeps, decide_eq_true_eq]
          right
          simpa [h, h'] using e
    obtain ⟨k, hk, rfl⟩ := List.mem_iff_getElem.1 hx
    exact key k hk
theorem compact_pw {l : List Int} (h : l.Pairwise fun x y => x ≤ y) : (Lib.compact l).Pairwise fun x y => x < y := by
  unfold Lib.compact Lib.compactUpTo
  rw [List.pairwise_map]
  refine List.Pairwise.imp_of_mem (R := fun i j : Nat => i < j) ?_ (List.pairwise_lt_range.filter _)
  intro i j hi hj hij
  have hj1 := (List.mem_filter.1 hj).1
  have hj2 := (List.mem_filter.1 hj).2
  have hjl := List.mem_range.1 hj1
  have hp : ∀ i j, (hi : i < l.length) → (hj : j < l.length) → i ≤ j → l[i] ≤ l[j] := by
    intro i j hi hj hij
    rcases Nat.lt_or_ge i j with h' | h'
    · exact List.pairwise_iff_getElem.1 h i j hi hj h'
    · obtain rfl : i = j := by omega
      exact Int.le_refl _
  have e1 : l.toArray[i]! = l[i] := by simp [show i < l.length by omega]
  have e2 : l.toArray[j]! = l[j] := by simp [hjl]
  have e3 : l.toArray[j - 1]! = l[j - 1] := by simp [show j - 1 < l.length by omega]
  rw [e1, e2]
  simp only [Lib.keeps, decide_eq_true_eq] at hj2
  rw [e2, e3] at hj2
  have a1 := hp i (j - 1) (by omega) (by omega) (by omega)
  have a2 := hp (j - 1) j (by omega) hjl (by omega)
  rcases hj2 with e | e
  · omega
  · omega
theorem srtI_pw (l : List Int) : (srtI l).Pairwise fun x y => x ≤ y := by
  have := List.pairwise_mergeSort (le := fun x y : Int => decide (x ≤ y)) (by intro a b c; simp; omega) (by intro a b; simp; omega) l
  unfold srtI
  simpa using this
theorem dst_mem (l : List Int) (x : Int) : x ∈ dstF l ↔ x ∈ l := by
  rw [dstF, compact_mem]
  exact (List.mergeSort_perm l _).mem_iff
theorem dst_pw (l : List Int) : (dstF l).Pairwise fun x y => x < y := compact_pw (srtI_pw l)
def dsA (l : List Dbl) : List Int := dstF (-1 :: l.map Dbl.a)
def dsB (l : List Dbl) : List Int := dstF (-1 :: l.map Dbl.b)
/-- The points of the program, in its order. -/
def ptsF (l : List Dbl) : List Pt := (dsA l).flatMap fun a => (dsB l).map fun b => opF l a b
/-- The points of the reference, in its order. -/
def ptsQ (l : List Dbl) : List Pt := (-1 :: l.map Dbl.a).flatMap fun a => (-1 :: l.map Dbl.b).map fun b => opF l a b
/-- The frontier. -/
def froF (l : List Dbl) : List Pt := fro (isort ltP (ptsF l))
theorem pts_ab (l : List Dbl) : (ptsF l).Pairwise fun p q => abB p q = true := by
  refine pair_flat (fun a _ => ?_) ?_
  · rw [List.pairwise_map]
    refine (dst_pw _).imp ?_
    intro b b' h
    rw [abB_iff]
    exact .inr ⟨rfl, h⟩
  · refine (dst_pw _).imp ?_
    intro a a' h x hx y hy
    obtain ⟨b, _, rfl⟩ := List.mem_map.1 hx
    obtain ⟨b', _, rfl⟩ := List.mem_map.1 hy
    rw [abB_iff]
    exact .inl h
theorem ptsF_mem (l : List Dbl) (x : Pt) : x ∈ ptsF l ↔ ∃ a ∈ (-1 :: l.map Dbl.a), ∃ b ∈ (-1 :: l.map Dbl.b), x = opF l a b := by
  unfold ptsF
  rw [List.mem_flatMap]
  constructor
  · rintro ⟨a, ha, h⟩
    obtain ⟨b, hb, rfl⟩ := List.mem_map.1 h
    exact ⟨a, (dst_mem _ _).1 ha, b, (dst_mem _ _).1 hb, rfl⟩
  · rintro ⟨a, ha, b, hb, rfl⟩
    exact ⟨a, (dst_mem _ _).2 ha, List.mem_map.2 ⟨b, (dst_mem _ _).2 hb, rfl⟩⟩
theorem ptsQ_mem (l : List Dbl) (x : Pt) : x ∈ ptsQ l ↔ ∃ a ∈ (-1 :: l.map Dbl.a), ∃ b ∈ (-1 :: l.map Dbl.b), x = opF l a b := by
  unfold ptsQ
  rw [List.mem_flatMap]
  constructor
  · rintro ⟨a, ha, h⟩
    obtain ⟨b, hb, rfl⟩ := List.mem_map.1 h
    exact ⟨a, ha, b, hb, rfl⟩
  · rintro ⟨a, ha, b, hb, rfl⟩
    exact ⟨a, ha, List.mem_map.2 ⟨b, hb, rfl⟩⟩
theorem acc_le (l : List Dbl) (a b : Int) : accN l a b ≤ l.length := List.countP_le_length
theorem ref_le (l : List Dbl) (a b : Int) : refN l a b ≤ l.length := List.countP_le_length
theorem froF_ref (l : List Dbl) : froF l = refFro ((ptsQ l).foldl kepF []) (l.length + 1) := by
  refine front_same (pts_ab l) (fun x => by rw [ptsF_mem, ptsQ_mem]) fun p hp => ?_
  obtain ⟨a, _, b, _, rfl⟩ := (ptsF_mem l p).1 hp
  have := acc_le l a b
  simp only [opF]
  omega
theorem floor_of (l : List Int) (a : Int) (h : -1 ≤ a) : ∃ a' ∈ (-1 :: l), a' ≤ a ∧ ∀ x ∈ l, x ≤ a ↔ x ≤ a' ∨ x ≤ -1 := by
  induction l with
  | nil => exact ⟨-1, by simp, h, by simp⟩
  | cons y l ih =>
    obtain ⟨a', h1, h2, h3⟩ := ih
    by_cases c : y ≤ a ∧ a' < y
    · refine ⟨y, by simp, c.1, fun x hx => ?_⟩
      rcases List.mem_cons.1 hx with e | e
      · subst e; omega
      · have := h3 x e
        constructor
        · intro k
          have := this.1 k
          omega
        · omega
    · refine ⟨a', by rcases List.mem_cons.1 h1 with e | e <;> simp [e], h2, fun x hx => ?_⟩
      rcases List.mem_cons.1 hx with e | e
      · subst e; omega
      · exact h3 x e
theorem okD_mem {l : List Dbl} (h : okD l = true) {x : Dbl} (hx : x ∈ l) : (0 ≤ x.a ∧ x.a ≤ 1000) ∧ (0 ≤ x.b ∧ x.b ≤ 1000) := by
  have := List.all_eq_true.1 h x hx
  simpa [dbB, inB] using this
/-- For each pair of thresholds a point of the frontier is as good or better. -/
theorem front_law {l : List Dbl} (h : okD l = true) {a b : Int} (ha : -1 ≤ a) (hb : -1 ≤ b) : ∃ q ∈ froF l, q.acc ≤ (accN l a b : Nat) ∧ q.ref ≤ (refN l a b : Nat) := by
  obtain ⟨a', a1, a2, a3⟩ := floor_of (l.map Dbl.a) a ha
  obtain ⟨b', b1, b2, b3⟩ := floor_of (l.map Dbl.b) b hb
  have hx : ∀ x ∈ l, (x.a ≤ a ↔ x.a ≤ a') ∧ (x.b ≤ b ↔ x.b ≤ b') := by
    intro x hx
    have k := okD_mem h hx
    have h1 := a3 x.a (List.mem_map.2 ⟨x, hx, rfl⟩)
    have h2 := b3 x.b (List.mem_map.2 ⟨x, hx, rfl⟩)
    omega
  have e1 : accN l a b = accN l a' b' := by
    refine List.countP_congr fun x hxl => ?_
    have := hx x hxl
    simp only [Bool.and_eq_true, decide_eq_true_eq, this.1, this.2]
  have e2 : refN l a b = refN l a' b' := by
    refine List.countP_congr fun x hxl => ?_
    have := hx x hxl
    simp only [Bool.and_eq_true, this.1, this.2]
  have := front_dom (pts_ab l) ((ptsF_mem l (opF l a' b')).2 ⟨a', a1, b', b1, rfl⟩)
  rw [e1, e2]
  exact this
theorem froI (l : List Dbl) : FroI (isort ltP (ptsF l)) (froF l) := fro_is (sorted_lex (pts_ab l))
/-- Each point of the frontier is what its thresholds do. -/
theorem best_is {l : List Dbl} (h : okD l = true) {p : Pt} (hp : p ∈ froF l) : p = opF l p.a p.b ∧ (-1 ≤ p.a ∧ p.a ≤ 1000) ∧ (-1 ≤ p.b ∧ p.b ≤ 1000) := by
  have h1 := (sorted_mem _ _).1 (((froI l).mem p).1 hp).1
  obtain ⟨a, ha, b, hb, rfl⟩ := (ptsF_mem l p).1 h1
  refine ⟨rfl, ?_, ?_⟩
  · show -1 ≤ a ∧ a ≤ 1000
    rcases List.mem_cons.1 ha with e | e
    · omega
    · obtain ⟨x, hx, rfl⟩ := List.mem_map.1 e
      have := okD_mem h hx
      omega
  · show -1 ≤ b ∧ b ≤ 1000
    rcases List.mem_cons.1 hb with e | e
    · omega
    · obtain ⟨x, hx, rfl⟩ := List.mem_map.1 e
      have := okD_mem h hx
      omega
theorem ref_all {l : List Dbl} (h : okD l = true) : refN l 1000 1000 = 0 := by
  unfold refN
  rw [List.countP_eq_zero]
  intro x hx
  have := okD_mem h hx
  simp [this.1.2, this.2.2]
/-- There is a last one, and it refuses nobody. -/
theorem best_last {l : List Dbl} (h : okD l = true) : ∃ q, (froF l).getLast? = some q ∧ q.ref = 0 := by
  obtain ⟨q, hq, _, h2⟩ := front_law h (a := 1000) (b := 1000) (by omega) (by omega)
  rw [ref_all h] at h2
  cases e : (froF l).getLast? with
  | none => rw [List.getLast?_eq_none_iff.1 e] at hq; cases hq
  | some z =>
    refine ⟨z, rfl, ?_⟩
    have h3 := (froI l).last z e q (((froI l).mem q).1 hq).1
    have hz := List.mem_of_getLast? e
    have h4 := (best_is h hz).1
    have : z.ref = (refN l z.a z.b : Nat) := by rw [h4]; rfl
    omega
/-- For values: the same list by insertion. -/
theorem dst_unique {l z : List Int} (h1 : z.Pairwise fun x y => x < y) (h2 : ∀ x, x ∈ z ↔ x ∈ l) : dstF l = z := by
  have key : ∀ {a b : List Int}, (a.Pairwise fun x y => x < y) → (b.Pairwise fun x y => x < y) → (∀ x, x ∈ a ↔ x ∈ b) → a = b := by
    intro a
    induction a with
    | nil =>
      intro b _ _ h
      cases b with
      | nil => rfl
      | cons y b => have := (h y).2 (by simp); cases this
    | cons x a ih =>
      intro b ha hb h
      cases b with
      | nil => have := (h x).1 (by simp); cases this
      | cons y b =>
        obtain ⟨a1, a2⟩ := List.pairwise_cons.1 ha
        obtain ⟨b1, b2⟩ := List.pairwise_cons.1 hb
        have e : x = y := by
          rcases List.mem_cons.1 ((h x).1 (by simp)) with e | e
          · exact e
          · rcases List.mem_cons.1 ((h y).2 (by simp)) with e' | e'
            · exact e'.symm
            · have := b1 x e; have := a1 y e'; omega
        subst e
        congr 1
        refine ih a2 b2 fun z => ?_
        constructor
        · intro hz
          rcases List.mem_cons.1 ((h z).1 (by simp [hz])) with e | e
          · subst e; have := a1 z hz; omega
          · exact e
        · intro hz
          rcases List.mem_cons.1 ((h z).2 (by simp [hz])) with e | e
          · subst e; have := b1 z hz; omega
          · exact e
  exact key (dst_pw l) h1 fun x => by rw [dst_mem, h2]

theorem dst_len (l : List Int) : (dstF l).length ≤ l.length := by
  unfold dstF Lib.compact Lib.compactUpTo
  rw [List.length_map]
  refine Nat.le_trans (List.length_filter_le _ _) ?_
  rw [List.length_range, srtI_len]
  exact Nat.le_refl _
theorem dsA_len (l : List Dbl) : (dsA l).length ≤ l.length + 1 := by
  have := dst_len (-1 :: l.map Dbl.a)
  simpa [dsA] using this
theorem dsB_len (l : List Dbl) : (dsB l).length ≤ l.length + 1 := by
  have := dst_len (-1 :: l.map Dbl.b)
  simpa [dsB] using this
/-- The points of one threshold. -/
def rowP (l : List Dbl) (a : Int) (bs : List Int) : List Pt := bs.map fun b => opF l a b
def ptsT (l : List Dbl) (us bs : List Int) : List Pt := us.flatMap fun a => rowP l a bs
theorem ptsT_len (l : List Dbl) (us bs : List Int) : (ptsT l us bs).length = us.length * bs.length := by
  induction us with
  | nil => simp [ptsT]
  | cons a us ih => rw [ptsT, List.flatMap_cons, List.length_append, rowP, List.length_map, List.length_cons, Nat.succ_mul, Nat.add_comm, ← ih]; rfl
theorem ptsT_take (l : List Dbl) (us bs : List Int) {i : Nat} (h : i < us.length) : ptsT l (us.take (i + 1)) bs = ptsT l (us.take i) bs ++ rowP l us[i] bs := by
  rw [ptsT, List.take_succ_eq_append_getElem h, List.flatMap_append, List.flatMap_cons, List.flatMap_nil, List.append_nil]
  rfl
theorem rowP_take (l : List Dbl) (a : Int) (bs : List Int) {i : Nat} (h : i < bs.length) : rowP l a (bs.take (i + 1)) = rowP l a (bs.take i) ++ [opF l a bs[i]] := by
  rw [rowP, List.take_succ_eq_append_getElem h, List.map_append]
  rfl
theorem fro_take {P : List Pt} {i : Nat} (h : i < P.length) : fro (P.take (i + 1)) = froS (fro (P.take i)) P[i] := by
  rw [List.take_succ_eq_append_getElem h, fro_snoc]
theorem froS_len (out : List Pt) (p : Pt) : (froS out p).length ≤ out.length + 1 := by
  rcases froS_or out p with e | e
  · rw [e]; simp
  · rw [e]; omega
theorem fro_len : ∀ (P : List Pt), (fro P).length ≤ P.length := by
  intro P
  have key : ∀ (E out : List Pt), (E.foldl froS out).length ≤ out.length + E.length := by
    intro E
    induction E with
    | nil => intro out; simp
    | cons p E ih =>
      intro out
      have h1 := ih (froS out p)
      have h2 := froS_len out p
      simp only [List.foldl_cons, List.length_cons]
      omega
  simpa [fro] using key P []
theorem froS_none (p : Pt) : froS [] p = [p] := by simp [froS]
theorem froS_yes {out : List Pt} {p q : Pt} (hq : out.getLast? = some q) (h : p.ref < q.ref) : froS out p = out ++ [p] := by simp [froS, hq, h]
theorem froS_no {out : List Pt} {p q : Pt} (hq : out.getLast? = some q) (h : ¬ p.ref < q.ref) : froS out p = out := by simp [froS, hq, h]
def froR (l : List Dbl) : List Pt := if dblE l = 0 then froF l else []
end Go.Proofs.Ytnalbchggjepdaa
