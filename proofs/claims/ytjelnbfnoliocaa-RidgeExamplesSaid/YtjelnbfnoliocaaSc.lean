/- Ridge: the number of parts of a given picture, by a certificate (labels, ranks and parents). Plain. Ridge: the values that alive asks for. Plain. No condition. -/
import Derived.Test.YtjelnbfnoliocaaPn
import Derived.Test.YtjelnbfnoliocaaSa
namespace Go.Proofs.Ytjelnbfnoliocaa

section
variable {K : Nat → Prop} {A : Nat → Nat → Prop}
theorem conn_lab {lab : Nat → Nat} (h2 : ∀ i j, K i → K j → A i j → lab i = lab j) {u v : Nat} (h : Conn K A u v) : lab u = lab v := by
  induction h with
  | refl _ => rfl
  | step h a b ih => exact ih.trans (h2 _ _ h.right b a)
theorem lab_conn {lab rk par : Nat → Nat} (h1 : ∀ i, K i → lab i = i ∨ (K (par i) ∧ A (par i) i ∧ lab (par i) = lab i ∧ rk (par i) < rk i)) :
    ∀ m i, rk i ≤ m → K i → Conn K A (lab i) i := by
  intro m
  induction m with
  | zero =>
    intro i hr hk
    rcases h1 i hk with h | ⟨_, _, _, h⟩
    · rw [h]; exact .refl hk
    · omega
  | succ m ih =>
    intro i hr hk
    rcases h1 i hk with h | ⟨a, b, c, h⟩
    · rw [h]; exact .refl hk
    · rw [← c]
      exact (ih (par i) (by omega) a).step b hk
theorem least_lab {lab rk par : Nat → Nat} (h1 : ∀ i, K i → lab i = i ∨ (K (par i) ∧ A (par i) i ∧ lab (par i) = lab i ∧ rk (par i) < rk i))
    (h2 : ∀ i j, K i → K j → A i j → lab i = lab j) (h3 : ∀ i, K i → lab i ≤ i) (i : Nat) : Least K A i ↔ K i ∧ lab i = i := by
  constructor
  · rintro ⟨hk, hl⟩
    refine ⟨hk, Classical.byContradiction fun hne => ?_⟩
    have := h3 i hk
    exact hl (lab i) (by omega) (lab_conn h1 _ i (Nat.le_refl _) hk)
  · rintro ⟨hk, hl⟩
    refine ⟨hk, fun j hj hc => ?_⟩
    have e := conn_lab h2 hc
    have := h3 j hc.left
    omega
end
/-- The places of a colour, and their neighbours, as a program. -/
def kbr (W H : Int) (l : List Bool) (black : Bool) (i : Nat) : Bool := decide ((i : Int) < (W + 2) * (H + 2)) && (isF W H l (cxr W i - 1) (cyr W i - 1) == black)
def abr (W : Int) (diag : Bool) (i j : Nat) : Bool := (List.range 8).any fun d => (!diag || decide (d % 2 = 0)) && (decide (cxr W j = cxr W i + dx d) && decide (cyr W j = cyr W i + dy d))
theorem kbr_iff (W H : Int) (l : List Bool) (black : Bool) (i : Nat) : KPr W H l black i ↔ kbr W H l black i = true := by simp [KPr, kbr]
theorem abr_iff (W : Int) (diag : Bool) (i j : Nat) : APr W diag i j ↔ abr W diag i j = true := by
  simp only [APr, abr, List.any_eq_true, List.mem_range, Bool.and_eq_true, decide_eq_true_eq]
def partsOk (W H : Int) (l : List Bool) (black diag : Bool) (N : Nat) (lab rk par : Nat → Nat) : Bool :=
  decide ((W + 2) * (H + 2) ≤ N) && (List.range N).all fun i => !kbr W H l black i || (decide (lab i ≤ i) && ((lab i == i) || (kbr W H l black (par i) && abr W diag (par i) i && (lab (par i) == lab i) && decide (rk (par i) < rk i))) && (List.range N).all fun j => !(kbr W H l black j && abr W diag i j) || (lab i == lab j))
def cntL (W H : Int) (l : List Bool) (black : Bool) (lab : Nat → Nat) : Nat → Nat
  | 0 => 0
  | n + 1 => cntL W H l black lab n + if kbr W H l black n && (lab n == n) then 1 else 0
theorem compsF_eq (W H : Int) (l : List Bool) (black diag : Bool) (N : Nat) (lab rk par : Nat → Nat) (h : partsOk W H l black diag N lab rk par = true) (hN : ((W + 2) * (H + 2)).toNat = N) :
    compsF W H l black diag = cntL W H l black lab N := by
  simp only [partsOk, Bool.and_eq_true, decide_eq_true_eq, List.all_eq_true, List.mem_range, Bool.or_eq_true, Bool.not_eq_true', beq_iff_eq, Bool.and_eq_false_iff] at h
  obtain ⟨hle, h⟩ := h
  have hlt : ∀ i, KPr W H l black i → i < N := fun i hk => by have := hk.1; omega
  have key : ∀ i, Least (KPr W H l black) (APr W diag) i ↔ KPr W H l black i ∧ lab i = i := by
    refine least_lab (rk := rk) (par := par) (fun i hk => ?_) (fun i j hi hj ha => ?_) (fun i hk => ?_)
    · rcases h i (hlt i hk) with h0 | ⟨⟨_, h1 | ⟨⟨⟨a, b⟩, c⟩, d⟩⟩, _⟩
      · rw [kbr_iff, h0] at hk; cases hk
      · exact .inl h1
      · exact .inr ⟨(kbr_iff _ _ _ _ _).2 a, (abr_iff _ _ _ _).2 b, c, d⟩
    · rcases h i (hlt i hi) with h0 | ⟨_, h2⟩
      · rw [kbr_iff, h0] at hi; cases hi
      · rcases h2 j (hlt j hj) with (h3 | h3) | h3
        · rw [kbr_iff, h3] at hj; cases hj
        · rw [abr_iff, h3] at ha; cases ha
        · exact h3
    · rcases h i (hlt i hk) with h0 | ⟨⟨h1, _⟩, _⟩
      · rw [kbr_iff, h0] at hk; cases hk
      · exact h1
  rw [compsF, hN, comps]
  clear hN hle h hlt
  induction N with
  | zero => rfl
  | succ n ih =>
    rw [sumN, cntL, ih]
    congr 1
    by_cases hc : KPr W H l black n ∧ lab n = n
    · rw [ind_yes ((key n).2 hc), if_pos (by simp [(kbr_iff _ _ _ _ _).1 hc.1, hc.2])]
    · rw [ind_no fun e => hc ((key n).1 e), if_neg]
      intro e
      simp only [Bool.and_eq_true, beq_iff_eq] at e
      exact hc ⟨(kbr_iff _ _ _ _ _).2 e.1, e.2⟩
end Go.Proofs.Ytjelnbfnoliocaa

namespace Go.Proofs.Ytjelnbfnoliocaa

def p1 : List Bool := [false, true, false, false, true, true, false, false, false]
def p2 : List Bool := [false, false, false, false, false, false, true, true, true, false, false, false, false, false, false]
def p3 : List Bool := [true, true, true, true, true, true, true, true, true, true, true, true]
def p4 : List Bool := [false, false, false, false, true, true, true, true, false, false, false, false]
def p5 : List Bool := [true, true, true, true, false, true, true, true, true]
theorem v_cross : crossN (nbF 3 3 p1 1 1) 8 = 2 := by decide +kernel
theorem v_min : minI 5 3 p2 0 15 = [(1, 1), (3, 1)] := by decide +kernel
theorem v_m1 : mntE 5 3 p2 (1, 1) = [.int .i64 1, .int .i64 1, .int .u8 1, .int .u8 0] := by
  have h1 : crossN (nbF 5 3 p2 1 1) 8 = 1 := by decide +kernel
  have h2 : firstN (nbF 5 3 p2 1 1) = 0 := by decide +kernel
  simp only [mntE, h1, h2]; rfl
theorem v_m2 : mntE 5 3 p2 (3, 1) = [.int .i64 3, .int .i64 1, .int .u8 1, .int .u8 4] := by
  have h1 : crossN (nbF 5 3 p2 3 1) 8 = 1 := by decide +kernel
  have h2 : firstN (nbF 5 3 p2 3 1) = 4 := by decide +kernel
  simp only [mntE, h1, h2]; rfl
theorem v_thin : thinF 4 3 p3 = p4 := by decide +kernel
theorem v_ridges : ridgesF 3 3 p5 = 1 := by
  rw [ridgesF, compsF_eq 3 3 p5 true false 25 (fun i => [0, 0, 0, 0, 0, 0, 6, 6, 6, 0, 0, 6, 0, 6, 0, 0, 6, 6, 6, 0, 0, 0, 0, 0, 0].getD i 0) (fun i => [0, 0, 0, 0, 0, 0, 0, 1, 2, 0, 0, 1, 0, 2, 0, 0, 2, 2, 3, 0, 0, 0, 0, 0, 0].getD i 0) (fun i => [0, 0, 0, 0, 0, 0, 0, 6, 7, 0, 0, 6, 0, 7, 0, 0, 11, 11, 13, 0, 0, 0, 0, 0, 0].getD i 0) (by decide +kernel) rfl]
  decide +kernel
theorem v_lakes : lakesF 3 3 p5 = 1 := by
  rw [lakesF, compsF_eq 3 3 p5 false true 25 (fun i => [0, 0, 0, 0, 0, 0, 0, 0, 0, 0, 0, 0, 12, 0, 0, 0, 0, 0, 0, 0, 0, 0, 0, 0, 0].getD i 0) (fun i => [0, 1, 2, 3, 4, 1, 0, 0, 0, 5, 2, 0, 0, 0, 6, 3, 0, 0, 0, 7, 4, 5, 6, 7, 8].getD i 0) (fun i => [0, 0, 1, 2, 3, 0, 0, 0, 0, 4, 5, 0, 0, 0, 9, 10, 0, 0, 0, 14, 15, 20, 21, 22, 19].getD i 0) (by decide +kernel) rfl]
  decide +kernel
end Go.Proofs.Ytjelnbfnoliocaa
