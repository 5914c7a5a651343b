/- Ridge: ends stay ends; what is thinned is thin. Plain. No condition. -/
import Derived.Test.YtjelnbfnoliocaaTa
namespace Go.Proofs.Ytjelnbfnoliocaa

/-- Places of a round that are neighbours of each other. -/
def adjR (d e : Nat) : Bool := e == (d + 1) % 8 || e == (d + 7) % 8 || (d % 2 == 0 && (e == (d + 2) % 8 || e == (d + 6) % 8))
theorem patEnd : ∀ a b c d e f g k : Bool, ∀ i : Fin 8, r8 a b c d e f g k i = true → (∀ j : Fin 8, adjR i j = true → r8 a b c d e f g k j = false) → turnsR (r8 a b c d e f g k) = 1 → cntN (r8 a b c d e f g k) 8 = 1 := by decide +kernel
theorem patOne : ∀ a b c d e f g k : Bool, cntN (r8 a b c d e f g k) 8 ≤ 1 → ∀ i j : Fin 8, r8 a b c d e f g k i = true → r8 a b c d e f g k j = true → i = j := by decide +kernel
theorem cntN_congr8 {r s : Nat → Bool} (h : ∀ d, d < 8 → r d = s d) : cntN r 8 = cntN s 8 := by
  simp only [cntN, h 0 (by decide), h 1 (by decide), h 2 (by decide), h 3 (by decide), h 4 (by decide), h 5 (by decide), h 6 (by decide), h 7 (by decide)]
theorem back_dir : ∀ d : Fin 8, (dir d).x + (dir ((d.val + 4) % 8)).x = 0 ∧ (dir d).y + (dir ((d.val + 4) % 8)).y = 0 := by decide +kernel
theorem side_dir : ∀ d e : Fin 8, adjR d e = true → ∃ f : Fin 8, f.val ≠ (d.val + 4) % 8 ∧ (dir d).x + (dir f).x = (dir e).x ∧ (dir d).y + (dir f).y = (dir e).y := by decide +kernel
/-- A place with at most one ridge neighbour is no neighbour of a simple one that has not one neighbour alone. -/
theorem end_far {B : Pt → Bool} {p q : Pt} (hp : B p = true) (hq : B q = true) (h1 : cntN (rng B p) 8 ≤ 1) (ht : turnsR (rng B q) = 1) (hc : cntN (rng B q) 8 ≠ 1) : ∀ d, d < 8 → nb p d ≠ q := by
  have one : ∀ i j, i < 8 → j < 8 → B (nb p i) = true → B (nb p j) = true → i = j := by
    intro i j hi hj bi bj
    have e : cntN (rng B p) 8 = cntN (r8 (rng B p 0) (rng B p 1) (rng B p 2) (rng B p 3) (rng B p 4) (rng B p 5) (rng B p 6) (rng B p 7)) 8 := cntN_congr8 fun d hd => rng_r8 B p hd
    rw [e] at h1
    have := patOne _ _ _ _ _ _ _ _ h1 ⟨i, hi⟩ ⟨j, hj⟩ (by rw [← rng_r8 B p hi, rng_at hi]; exact bi) (by rw [← rng_r8 B p hj, rng_at hj]; exact bj)
    exact congrArg Fin.val this
  intro f hf hqf
  -- p is the neighbour of q at the other side
  have hpd : p = nb q ((f + 4) % 8) := by
    obtain ⟨h1, h2⟩ := back_dir ⟨f, hf⟩
    rw [← hqf]
    refine pt_eq ?_ ?_
    · show p.x = p.x + (dir f).x + (dir ((f + 4) % 8)).x
      simp only at h1
      omega
    · show p.y = p.y + (dir f).y + (dir ((f + 4) % 8)).y
      simp only at h2
      omega
  have hd : (f + 4) % 8 < 8 := Nat.mod_lt _ (by decide)
  generalize hdd : (f + 4) % 8 = d at hpd hd
  have hfd : f = (d + 4) % 8 := by omega
  refine hc ?_
  have e1 : cntN (rng B q) 8 = cntN (r8 (rng B q 0) (rng B q 1) (rng B q 2) (rng B q 3) (rng B q 4) (rng B q 5) (rng B q 6) (rng B q 7)) 8 := cntN_congr8 fun d hd => rng_r8 B q hd
  rw [e1]
  rw [turns_r8] at ht
  refine patEnd _ _ _ _ _ _ _ _ ⟨d, hd⟩ (by rw [← rng_r8 B q hd, rng_at hd, ← hpd]; exact hp) (fun j hj => ?_) ht
  rw [← rng_r8 B q j.isLt, rng_at j.isLt]
  obtain ⟨g, g1, g2, g3⟩ := side_dir ⟨d, hd⟩ j hj
  cases hb : B (nb q j) with
  | false => rfl
  | true =>
    exfalso
    have e2 : nb q j = nb p g := by
      rw [hpd]
      refine pt_eq ?_ ?_
      · show q.x + (dir j).x = q.x + (dir d).x + (dir g).x
        simp only at g2
        omega
      · show q.y + (dir j).y = q.y + (dir d).y + (dir g).y
        simp only at g3
        omega
    rw [e2] at hb
    have := one g f g.isLt hf hb (by rw [hqf]; exact hq)
    simp only at g1
    omega
/-- A ridge pixel with at most one neighbour. -/
def EndI (W H : Int) (T : List Bool) (i : Nat) : Prop := T.getD i false = true ∧ cntN (nbI W H T i) 8 ≤ 1
theorem end_take {W H i k : Nat} {T : List Bool} (hl : T.length = W * H) (hk : k < T.length) (hb : T.getD k false = true) (hs : simpleB W H T k = true) (he : EndI W H T i) (hi : i < T.length) :
    k ≠ i ∧ nbI W H (T.set k false) i = nbI W H T i := by
  simp only [simpleB, Bool.and_eq_true, beq_iff_eq, bne_iff_ne, ne_eq] at hs
  obtain ⟨s1, s2⟩ := hs
  have g := grow_set hl hk hb
  have gi := grow_set hl hi he.1
  rw [turns_I] at s1
  rw [cntN_congr (fun d => nbI_rng W H T k d)] at s2
  have h1 : cntN (rng (picB W H T) (pix W i)) 8 ≤ 1 := by rw [← cntN_congr (fun d => nbI_rng W H T i d)]; exact he.2
  have far := end_far (p := pix W i) (q := pix W k) gi.at1 g.at1 h1 s1 s2
  refine ⟨fun e => ?_, funext fun d => ?_⟩
  · subst e
    have h0 : cntN (rng (picB W H T) (pix W k)) 8 = 0 := by omega
    rw [cntN_zero, has8_r8] at h0
    have key : ∀ a b c d e f g k : Bool, has8 (r8 a b c d e f g k) = false → turnsR (r8 a b c d e f g k) ≠ 1 := by decide +kernel
    rw [turns_r8] at s1
    exact key _ _ _ _ _ _ _ _ h0 s1
  · rw [nbI_rng, nbI_rng]
    unfold rng
    exact (g.rest _ (far (d % 8) (Nat.mod_lt _ (by decide)))).symm
theorem pass_end {W H i : Nat} {l : List Bool} (hl : l.length = W * H) (hi : i < l.length) (he : EndI W H l i) (d : Nat) : ∀ k, k ≤ l.length → (passN W H l d k).getD i false = true ∧ nbI W H (passN W H l d k) i = nbI W H l i
  | 0, _ => ⟨he.1, rfl⟩
  | k + 1, hk => by
    obtain ⟨h1, h2⟩ := pass_end hl hi he d k (by omega)
    rw [passN]
    unfold takeIf
    by_cases hb : (wantB W H l d k && simpleB W H (passN W H l d k) k) = true
    · rw [if_pos hb]
      simp only [Bool.and_eq_true, wantB] at hb
      obtain ⟨⟨b1, _⟩, b2⟩ := hb
      obtain ⟨t1, t2⟩ := end_take (W := W) (H := H) (i := i) (k := k) (T := passN W H l d k) (by rw [passN_len, hl]) (by rw [passN_len]; omega) (by rw [passN_at (Nat.le_refl _)]; exact b1) b2 ⟨h1, by rw [h2]; exact he.2⟩ (by rw [passN_len]; exact hi)
      exact ⟨by rw [getD_keep _ _ _ (fun e => t1 e.symm)]; exact h1, t2.trans h2⟩
    · rw [if_neg hb]
      exact ⟨h1, h2⟩
/-- It stays so. -/
def StayI (W H : Int) (l l' : List Bool) (i : Nat) : Prop := l'.getD i false = true ∧ nbI W H l' i = nbI W H l i
theorem StayI.on {W H : Int} {l l' : List Bool} {i : Nat} (h : StayI W H l l' i) (he : EndI W H l i) : EndI W H l' i := ⟨h.1, by rw [h.2]; exact he.2⟩
theorem passF_end {W H i : Nat} {l : List Bool} (hl : l.length = W * H) (hi : i < l.length) (he : EndI W H l i) (d : Nat) : StayI W H l (passF W H l d) i := pass_end hl hi he d _ (Nat.le_refl _)
theorem pass4_end {W H i : Nat} {l : List Bool} (hl : l.length = W * H) (hi : i < l.length) (he : EndI W H l i) : StayI W H l (pass4 W H l) i := by
  unfold pass4
  have h1 := passF_end hl hi he 6
  have h2 := passF_end (by rw [passF_len, hl]) (by rw [passF_len]; exact hi) (h1.on he) 2
  have h3 := passF_end (by rw [passF_len, passF_len, hl]) (by rw [passF_len, passF_len]; exact hi) (h2.on (h1.on he)) 0
  have h4 := passF_end (by rw [passF_len, passF_len, passF_len, hl]) (by rw [passF_len, passF_len, passF_len]; exact hi) (h3.on (h2.on (h1.on he))) 4
  exact ⟨h4.1, h4.2.trans (h3.2.trans (h2.2.trans h1.2))⟩
theorem thinN_end {W H i : Nat} : ∀ (k : Nat) (l : List Bool), l.length = W * H → i < l.length → EndI W H l i → StayI W H l (thinN W H k l) i
  | 0, _, _, _, he => ⟨he.1, rfl⟩
  | k + 1, l, hl, hi, he => by
    rw [thinN]
    split
    · exact ⟨he.1, rfl⟩
    · have h1 := pass4_end hl hi he
      have h2 := thinN_end k (pass4 W H l) (by rw [pass4_len, hl]) (by rw [pass4_len]; exact hi) (h1.on he)
      exact ⟨h2.1, h2.2.trans h1.2⟩
/-- Ends stay ends. -/
theorem thinF_end {W H i : Nat} {l : List Bool} (hl : l.length = W * H) (hi : i < l.length) (he : EndI W H l i) : StayI W H l (thinF W H l) i := thinN_end _ l hl hi he

/-- Thinning only takes. -/
def SubL (l' l : List Bool) : Prop := ∀ i : Nat, l'.getD i false = true → l.getD i false = true
theorem passN_sub (W H : Int) (l : List Bool) (d : Nat) : ∀ k, SubL (passN W H l d k) l
  | 0 => fun _ h => h
  | k + 1 => fun i h => by
    rw [passN] at h
    unfold takeIf at h
    split at h
    · by_cases e : i = k
      · subst e
        rename_i hb
        simp only [Bool.and_eq_true, wantB] at hb
        exact hb.1.1
      · rw [getD_keep _ _ _ e] at h
        exact passN_sub W H l d k i h
    · exact passN_sub W H l d k i h
theorem pass4_sub (W H : Int) (l : List Bool) : SubL (pass4 W H l) l := fun i h => passN_sub _ _ _ _ _ i (passN_sub _ _ _ _ _ i (passN_sub _ _ _ _ _ i (passN_sub _ _ _ _ _ i h)))
theorem thinN_sub (W H : Int) : ∀ (k : Nat) (l : List Bool), SubL (thinN W H k l) l
  | 0, _ => fun _ h => h
  | k + 1, l => by
    rw [thinN]
    split
    · exact fun _ h => h
    · exact fun i h => pass4_sub W H l i (thinN_sub W H k _ i h)
theorem thinF_sub (W H : Int) (l : List Bool) : SubL (thinF W H l) l := thinN_sub W H _ l
/-- What is thinned stays. -/
theorem thinN_fix (W H : Int) : ∀ (k : Nat) (l : List Bool), trueN l ≤ k → pass4 W H (thinN W H k l) = thinN W H k l
  | 0, l, h => (pass4_true W H l).2 (by have := (pass4_true W H l).1; omega)
  | k + 1, l, h => by
    rw [thinN]
    split
    · assumption
    · rename_i hne
      refine thinN_fix W H k _ ?_
      have h1 := pass4_true W H l
      rcases Nat.lt_or_ge (trueN (pass4 W H l)) (trueN l) with h2 | h2
      · omega
      · exact absurd (h1.2 (by omega)) hne
theorem thinF_fix (W H : Int) (l : List Bool) : pass4 W H (thinF W H l) = thinF W H l := thinN_fix W H _ l (Nat.le_refl _)
theorem thinF_thinF (W H : Int) (l : List Bool) : thinF W H (thinF W H l) = thinF W H l := thinF_stop (thinF_fix W H l)
theorem passF_fix {W H : Int} {l : List Bool} (h : pass4 W H l = l) : passF W H l 6 = l ∧ passF W H l 2 = l ∧ passF W H l 0 = l ∧ passF W H l 4 = l := by
  have h1 := passF_true W H l 6
  have h2 := passF_true W H (passF W H l 6) 2
  have h3 := passF_true W H (passF W H (passF W H l 6) 2) 0
  have h4 := passF_true W H (passF W H (passF W H (passF W H l 6) 2) 0) 4
  have e : trueN (passF W H (passF W H (passF W H (passF W H l 6) 2) 0) 4) = trueN l := congrArg trueN h
  have e1 := h1.2 (by omega)
  rw [e1] at h2 h3 h4 e
  have e2 := h2.2 (by omega)
  rw [e2] at h3 h4 e
  have e3 := h3.2 (by omega)
  rw [e3] at h4 e
  exact ⟨e1, e2, e3, h4.2 e⟩
theorem passN_fix {W H : Int} {l : List Bool} {d : Nat} (h : passF W H l d = l) : ∀ k j, j + k = l.length → passN W H l d j = l
  | 0, j, e => by
    have : j = l.length := by omega
    subst this
    exact h
  | k + 1, j, e => by
    have ih := passN_fix h k (j + 1) (by omega)
    rw [passN] at ih
    unfold takeIf at ih
    split at ih
    · rename_i hb
      exfalso
      simp only [Bool.and_eq_true, wantB] at hb
      have h1 : ((passN W H l d j).set j false).getD j false = false := by
        rw [List.getD_eq_getElem?_getD]
        by_cases hj : j < (passN W H l d j).length
        · rw [List.getElem?_set_self hj]; rfl
        · rw [List.getElem?_eq_none (by simpa using hj)]; rfl
      rw [ih, hb.1.1] at h1
      cases h1
    · exact ih
/-- In what is thinned each ridge pixel whose turns are 1 has one neighbour. -/
theorem thin_at {W H : Int} {l : List Bool} (h : pass4 W H l = l) {i : Nat} (hi : i < l.length) (hb : l.getD i false = true) (ht : turnsN (nbI W H l i) 4 = 1) : cntN (nbI W H l i) 8 = 1 := by
  obtain ⟨f6, f2, f0, f4⟩ := passF_fix h
  have key : ∀ d, passF W H l d = l → nbI W H l i d = false → cntN (nbI W H l i) 8 = 1 := by
    intro d hf hd
    have h1 := passN_fix hf (l.length - i) i (by omega)
    have h2 := passN_fix hf (l.length - (i + 1)) (i + 1) (by omega)
    rw [passN, h1] at h2
    unfold takeIf at h2
    refine Classical.byContradiction fun hne => ?_
    have hw : (wantB W H l d i && simpleB W H l i) = true := by
      simp only [wantB, simpleB, hb, hd, ht, Bool.not_false, Bool.and_self, Bool.true_and, beq_self_eq_true, bne_iff_ne, ne_eq]
      exact hne
    rw [if_pos hw] at h2
    have h3 : (l.set i false).getD i false = false := by
      rw [List.getD_eq_getElem?_getD, List.getElem?_set_self hi]; rfl
    rw [h2, hb] at h3
    cases h3
  have some : nbI W H l i 0 = false ∨ nbI W H l i 2 = false ∨ nbI W H l i 4 = false ∨ nbI W H l i 6 = false := by
    generalize nbI W H l i = r at ht
    cases h0 : r 0 <;> cases h2 : r 2 <;> cases h4 : r 4 <;> cases h6 : r 6 <;> simp
    simp [turnsN, h0, h2, h4, h6] at ht
  rcases some with h | h | h | h
  · exact key 0 f0 h
  · exact key 2 f2 h
  · exact key 4 f4 h
  · exact key 6 f6 h
end Go.Proofs.Ytjelnbfnoliocaa
