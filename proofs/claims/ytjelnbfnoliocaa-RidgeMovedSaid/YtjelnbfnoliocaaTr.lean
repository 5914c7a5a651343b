/- Ridge: a trace with background around it has the same numbers of parts. Plain. No condition. -/
import Derived.Test.YtjelnbfnoliocaaTq
namespace Go.Proofs.Ytjelnbfnoliocaa
open Classical

theorem sumN_pt (x c : Nat) : ∀ n, x < n → sumN (fun i => if i = x then c else 0) n = c := by
  intro n
  induction n with
  | zero => intro h; omega
  | succ n ih =>
    intro h
    rw [sumN]
    by_cases e : x = n
    · subst e
      have : sumN (fun i => if i = x then c else 0) x = sumN (fun _ => 0) x := sumN_congr x fun i hi => by rw [if_neg (by omega)]
      rw [this, sumN_zero, if_pos rfl, Nat.zero_add]
    · rw [ih (by omega), if_neg (by omega)]; rfl
theorem sumN_swap (f : Nat → Nat → Nat) (m : Nat) : ∀ n, sumN (fun i => sumN (fun j => f i j) m) n = sumN (fun j => sumN (fun i => f i j) n) m := by
  intro n
  induction n with
  | zero => show 0 = sumN (fun _ => 0) m; rw [sumN_zero]
  | succ n ih =>
    show sumN (fun i => sumN (fun j => f i j) m) n + sumN (fun j => f n j) m = sumN (fun j => sumN (fun i => f i j) n + f n j) m
    rw [sumN_add, ih]
theorem sumN_emb {e : Nat → Nat} {f f' : Nat → Nat} {N N' : Nat} (he : ∀ i, i < N → f i ≠ 0 → e i < N') (hinj : ∀ i j, i < N → j < N → f i ≠ 0 → f j ≠ 0 → e i = e j → i = j)
    (hf : ∀ i, i < N → f i ≠ 0 → f' (e i) = f i) (h0 : ∀ k, k < N' → f' k ≠ 0 → ∃ i, i < N ∧ f i ≠ 0 ∧ e i = k) : sumN f' N' = sumN f N := by
  have h1 : sumN f N = sumN (fun i => sumN (fun k => if f i ≠ 0 ∧ e i = k then f i else 0) N') N := sumN_congr N fun i hi => by
    by_cases hz : f i = 0
    · rw [hz]
      have : sumN (fun k => if (0 : Nat) ≠ 0 ∧ e i = k then 0 else 0) N' = sumN (fun _ => 0) N' := sumN_congr N' fun k _ => by simp
      rw [this, sumN_zero]
    · have : sumN (fun k => if f i ≠ 0 ∧ e i = k then f i else 0) N' = sumN (fun k => if k = e i then f i else 0) N' := sumN_congr N' fun k _ => by
        by_cases hk : k = e i
        · rw [if_pos ⟨hz, hk.symm⟩, if_pos hk]
        · rw [if_neg (fun h => hk h.2.symm), if_neg hk]
      rw [this, sumN_pt _ _ _ (he i hi hz)]
  have h2 : sumN f' N' = sumN (fun k => sumN (fun i => if f i ≠ 0 ∧ e i = k then f i else 0) N) N' := sumN_congr N' fun k hk => by
    by_cases hz : f' k = 0
    · rw [hz]
      have : sumN (fun i => if f i ≠ 0 ∧ e i = k then f i else 0) N = sumN (fun _ => 0) N := sumN_congr N fun i hi => by
        by_cases h : f i ≠ 0 ∧ e i = k
        · exact absurd hz (by rw [← h.2, hf i hi h.1]; exact h.1)
        · rw [if_neg h]
      rw [this, sumN_zero]
    · obtain ⟨i, hi, hn, hik⟩ := h0 k hk hz
      have : sumN (fun j => if f j ≠ 0 ∧ e j = k then f j else 0) N = sumN (fun j => if j = i then f i else 0) N := sumN_congr N fun j hj => by
        by_cases h : j = i
        · subst h; rw [if_pos ⟨hn, hik⟩, if_pos rfl]
        · rw [if_neg (fun h2 => h (hinj j i hj hi h2.1 hn (h2.2.trans hik.symm))), if_neg h]
      rw [this, sumN_pt _ _ _ hi, ← hik, hf i hi hn]
  rw [h1, h2, sumN_swap]

/-- One graph within another, in the same order. -/
structure Emb (K K' : Nat → Prop) (A A' : Nat → Nat → Prop) (N N' : Nat) (e : Nat → Nat) : Prop where
  lt : ∀ i, K i → i < N
  lt' : ∀ i, K' i → i < N'
  at_ : ∀ i, K i → K' (e i)
  from_ : ∀ k, K' k → ∃ i, K i ∧ e i = k
  mono : ∀ i j, K i → K j → i < j → e i < e j
  adj : ∀ i j, K i → K j → (A i j ↔ A' (e i) (e j))
section
variable {K K' : Nat → Prop} {A A' : Nat → Nat → Prop} {N N' : Nat} {e : Nat → Nat}
theorem Emb.inj (h : Emb K K' A A' N N' e) {i j : Nat} (ki : K i) (kj : K j) (he : e i = e j) : i = j := by
  rcases Nat.lt_trichotomy i j with c | c | c
  · have := h.mono i j ki kj c; omega
  · exact c
  · have := h.mono j i kj ki c; omega
theorem Emb.up (h : Emb K K' A A' N N' e) {i j : Nat} (c : Conn K A i j) : Conn K' A' (e i) (e j) := by
  induction c with
  | refl k => exact .refl (h.at_ _ k)
  | step c a k ih => exact ih.step ((h.adj _ _ c.right k).1 a) (h.at_ _ k)
theorem Emb.down (h : Emb K K' A A' N N' e) {u v : Nat} (c : Conn K' A' u v) : ∀ i, K i → e i = u → ∃ j, K j ∧ e j = v ∧ Conn K A i j := by
  induction c with
  | refl k => intro i ki hi; exact ⟨i, ki, hi, .refl ki⟩
  | step c a k ih =>
    intro i ki hi
    obtain ⟨j, kj, hj, cj⟩ := ih i ki hi
    obtain ⟨m, km, hm⟩ := h.from_ _ k
    exact ⟨m, km, hm, cj.step ((h.adj _ _ kj km).2 (by rw [hj, hm]; exact a)) km⟩
theorem Emb.least (h : Emb K K' A A' N N' e) {i : Nat} (ki : K i) : Least K A i ↔ Least K' A' (e i) := by
  constructor
  · rintro ⟨_, hl⟩
    refine ⟨h.at_ i ki, fun k hk c => ?_⟩
    obtain ⟨j, kj, hj⟩ := h.from_ k c.left
    obtain ⟨m, km, hm, cm⟩ := h.down c j kj hj
    have := h.inj km ki hm
    subst this
    refine hl j ?_ cm
    rcases Nat.lt_trichotomy j m with c1 | c1 | c1
    · exact c1
    · subst c1; omega
    · have := h.mono m j km kj c1; omega
  · rintro ⟨_, hl⟩
    exact ⟨ki, fun j hj c => hl (e j) (h.mono j i c.left ki hj) (h.up c)⟩
theorem Emb.comps (h : Emb K K' A A' N N' e) : comps K' A' N' = comps K A N := by
  have hk : ∀ i, ind (Least K A i) ≠ 0 → Least K A i := fun i hn => by
    by_cases hl : Least K A i
    · exact hl
    · exact absurd (ind_no hl) hn
  have hk' : ∀ i, ind (Least K' A' i) ≠ 0 → Least K' A' i := fun i hn => by
    by_cases hl : Least K' A' i
    · exact hl
    · exact absurd (ind_no hl) hn
  refine sumN_emb (e := e) ?_ ?_ ?_ ?_
  · intro i _ hn
    exact h.lt' _ (h.at_ _ (hk i hn).1)
  · intro i j _ _ h1 h2 he
    exact h.inj (hk i h1).1 (hk j h2).1 he
  · intro i _ hn
    rw [ind_yes (hk i hn), ind_yes ((h.least (hk i hn).1).1 (hk i hn))]
  · intro k _ hn
    have hl := hk' k hn
    obtain ⟨i, ki, hi⟩ := h.from_ k hl.1
    subst hi
    have hli := (h.least ki).2 hl
    exact ⟨i, h.lt i ki, by rw [ind_yes hli]; decide, rfl⟩
end
section
variable {W H W' H' x0 y0 : Nat} {l l' : List Bool}
theorem ptOf_no {w x y : Nat} (hx : x < w) : ptOf w (y * w + x) = ⟨(x : Int) - 1, (y : Int) - 1⟩ := by
  have e := plc_no (y := y) hx
  unfold plc at e
  injection e with e1 e2
  unfold ptOf
  have e1' : (y * w + x) % w = x := by omega
  have e2' : (y * w + x) / w = y := by omega
  rw [e1', e2']
theorem emb_mv (h : Mv W H W' H' x0 y0 l l') (hW : x0 + W ≤ W') (hH : y0 + H ≤ H') :
    Emb (kin (W + 2) (H + 2) (picB W H l) true) (kin (W' + 2) (H' + 2) (picB W' H' l') true) (A8 (W + 2)) (A8 (W' + 2)) ((W + 2) * (H + 2)) ((W' + 2) * (H' + 2)) (fun i => (i / (W + 2) + y0) * (W' + 2) + (i % (W + 2) + x0)) := by
  have pt : ∀ i, i < (W + 2) * (H + 2) → ptOf (W' + 2) ((i / (W + 2) + y0) * (W' + 2) + (i % (W + 2) + x0)) = ⟨(ptOf (W + 2) i).x + x0, (ptOf (W + 2) i).y + y0⟩ := by
    intro i _
    have hm := Nat.mod_lt i (show 0 < W + 2 by omega)
    rw [ptOf_no (by omega)]
    unfold ptOf
    simp only [Pt.mk.injEq]
    constructor <;> (push_cast; omega)
  refine ⟨fun i k => k.1, fun i k => k.1, ?_, ?_, ?_, ?_⟩
  · intro i k
    obtain ⟨hi, hb⟩ := k
    have hm := Nat.mod_lt i (show 0 < W + 2 by omega)
    have hd : i / (W + 2) < H + 2 := Nat.div_lt_of_lt_mul hi
    refine ⟨no_lt (by omega) (by omega), ?_⟩
    rw [pt i hi]
    unfold picB at hb ⊢
    simp only
    rw [h.is, ← hb]
    congr 1 <;> omega
  · intro k hk
    obtain ⟨hk1, hb⟩ := hk
    obtain ⟨x, y, hx, hy, rfl⟩ := no_of hk1
    rw [ptOf_no hx] at hb
    unfold picB at hb
    simp only at hb
    rw [h.is] at hb
    rcases in_or_out W H ((x : Int) - 1 - x0) ((y : Int) - 1 - y0) with ⟨a, b, ha, hb', e1, e2⟩ | ho
    · refine ⟨(b + 1) * (W + 2) + (a + 1), ⟨no_lt (by omega) (by omega), ?_⟩, ?_⟩
      · rw [ptOf_no (by omega)]
        unfold picB
        simp only
        rw [← hb]
        congr 1 <;> (push_cast; omega)
      · have f1 : ((b + 1) * (W + 2) + (a + 1)) % (W + 2) = a + 1 := by rw [Nat.add_comm, Nat.add_mul_mod_self_right, Nat.mod_eq_of_lt (by omega)]
        have f2 : ((b + 1) * (W + 2) + (a + 1)) / (W + 2) = b + 1 := by rw [Nat.add_comm, Nat.add_mul_div_right _ _ (by omega), Nat.div_eq_of_lt (by omega), Nat.zero_add]
        skip
        rw [f1, f2]
        have g1 : b + 1 + y0 = y := by omega
        have g2 : a + 1 + x0 = x := by omega
        rw [g1, g2]
    · rw [isF_out ho] at hb
      cases hb
  · intro i j hi hj hij
    obtain ⟨x, y, hx, hy, rfl⟩ := no_of hi.1
    obtain ⟨a, b, ha, hb, rfl⟩ := no_of hj.1
    have f1 : (y * (W + 2) + x) % (W + 2) = x := by rw [Nat.add_comm, Nat.add_mul_mod_self_right, Nat.mod_eq_of_lt hx]
    have f2 : (y * (W + 2) + x) / (W + 2) = y := by rw [Nat.add_comm, Nat.add_mul_div_right _ _ (by omega), Nat.div_eq_of_lt hx, Nat.zero_add]
    have f3 : (b * (W + 2) + a) % (W + 2) = a := by rw [Nat.add_comm, Nat.add_mul_mod_self_right, Nat.mod_eq_of_lt ha]
    have f4 : (b * (W + 2) + a) / (W + 2) = b := by rw [Nat.add_comm, Nat.add_mul_div_right _ _ (by omega), Nat.div_eq_of_lt ha, Nat.zero_add]
    skip
    rw [f1, f2, f3, f4]
    rcases Nat.lt_trichotomy y b with c | c | c
    · have := no_lt (W := W' + 2) (H := b + y0) (x := x + x0) (y := y + y0) (by omega) (by omega)
      rw [Nat.mul_comm (W' + 2) (b + y0)] at this
      omega
    · subst c; omega
    · exfalso
      have := no_lt (W := W + 2) (H := y) (x := a) (y := b) ha c
      rw [Nat.mul_comm (W + 2) y] at this
      omega
  · intro i j hi hj
    unfold A8
    rw [pt i hi.1, pt j hj.1]
    generalize ptOf (W + 2) i = p
    generalize ptOf (W + 2) j = q
    unfold adj8
    simp only
    constructor
    · rintro ⟨a, b⟩
      refine ⟨fun e => a ?_, by omega⟩
      injection e with e1 e2
      exact pt_eq (by omega) (by omega)
    · rintro ⟨a, b⟩
      refine ⟨fun e => a (by subst e; rfl), by omega⟩
theorem ridges_mv (h : Mv W H W' H' x0 y0 l l') (hW : x0 + W ≤ W') (hH : y0 + H ≤ H') : ridgesF W' H' l' = ridgesF W H l := by
  rw [ridgesF_N, ridgesF_N]
  unfold ridgesN
  rw [(emb_mv h hW hH).comps]
theorem sumZ_shift {f F : Nat → Int} {a n : Nat} (h : ∀ i, F i = if a ≤ i ∧ i < a + n then f (i - a) else 0) : ∀ m, sumZ F m = sumZ f (min (m - a) n) := by
  intro m
  induction m with
  | zero => have : min (0 - a) n = 0 := by omega
            rw [this]; rfl
  | succ m ih =>
    rw [sumZ, ih, h]
    by_cases c : a ≤ m ∧ m < a + n
    · rw [if_pos c]
      have e1 : min (m + 1 - a) n = min (m - a) n + 1 := by omega
      have e2 : m - a = min (m - a) n := by omega
      rw [e1, sumZ, ← e2]
    · rw [if_neg c]
      have e1 : min (m + 1 - a) n = min (m - a) n := by omega
      rw [e1, Int.add_zero]
theorem sq_out {W H : Nat} {l : List Bool} {x y : Int} (h : x < -1 ∨ (W : Int) ≤ x ∨ y < -1 ∨ (H : Int) ≤ y) : sqF W H l x y = 0 := by
  unfold sqF
  rw [isF_out (by omega), isF_out (by omega), isF_out (by omega), isF_out (by omega)]
  rfl
theorem all_mv (h : Mv W H W' H' x0 y0 l l') (hW : x0 + W ≤ W') (hH : y0 + H ≤ H') : allS W' H' l' (W' + 1) (H' + 1) = allS W H l (W + 1) (H + 1) := by
  have hsq : ∀ x y : Int, sqF W' H' l' x y = sqF W H l (x - x0) (y - y0) := by
    intro x y
    unfold sqF
    rw [h.is, h.is, h.is, h.is]
    have e1 : x + 1 - x0 = x - x0 + 1 := by omega
    have e2 : y + 1 - y0 = y - y0 + 1 := by omega
    rw [e1, e2]
  have hrow : ∀ j : Nat, rowS W' H' l' j (W' + 1) = if y0 ≤ j ∧ j < y0 + (H + 1) then rowS W H l (j - y0) (W + 1) else 0 := by
    intro j
    unfold rowS
    by_cases c : y0 ≤ j ∧ j < y0 + (H + 1)
    · rw [if_pos c]
      rw [sumZ_shift (f := fun i => sqF W H l ((i : Int) - 1) (((j - y0 : Nat) : Int) - 1)) (a := x0) (n := W + 1)]
      · have : min (W' + 1 - x0) (W + 1) = W + 1 := by omega
        rw [this]
      · intro i
        skip
        rw [hsq]
        split
        · congr 1 <;> omega
        · exact sq_out (by omega)
    · rw [if_neg c]
      have : ∀ m, sumZ (fun i => sqF W' H' l' ((i : Nat) - 1 : Int) ((j : Int) - 1)) m = 0 := by
        intro m
        induction m with
        | zero => rfl
        | succ m ih => rw [sumZ, ih, hsq, sq_out (by omega)]; rfl
      exact this _
  unfold allS
  rw [sumZ_shift (f := fun j => rowS W H l j (W + 1)) (a := y0) (n := H + 1) hrow]
  have : min (H' + 1 - y0) (H + 1) = H + 1 := by omega
  rw [this]
theorem parts_mv (h : Mv W H W' H' x0 y0 l l') (hW : x0 + W ≤ W') (hH : y0 + H ≤ H') (hw : 0 < W) (hh : 0 < H) : ridgesF W' H' l' = ridgesF W H l ∧ lakesF W' H' l' = lakesF W H l := by
  have h1 := ridges_mv h hW hH
  have e1 := eulerS W H l hw hh
  have e2 := eulerS W' H' l' (by omega) (by omega)
  rw [all_mv h hW hH] at e2
  exact ⟨h1, by omega⟩
end
end Go.Proofs.Ytjelnbfnoliocaa
