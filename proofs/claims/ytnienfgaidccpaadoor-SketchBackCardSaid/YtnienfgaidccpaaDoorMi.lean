/- Sketch: plain laws of SketchBack. No condition. -/
import Derived.Test.YtnienfgaidccpaaDoorMh
namespace Go.Proofs.YtnienfgaidccpaaDoor
open Go.RowKit Go.Shelf

theorem mostN_ge (t : List Nat) (ch : List Bys) : ∀ (i j : Nat), j < i → chN t ch j ≤ mostN t ch i
  | 0, j, h => by omega
  | i + 1, j, h => by
    simp only [mostN]
    by_cases e : j = i
    · subst e; omega
    · have := mostN_ge t ch i j (by omega); omega
theorem chL_getD (t : List Nat) (ch : List Bys) {n j : Nat} (h : j < n) : (chL t ch n).getD j 0 = chW ch j (t.getD j 0) := by
  have hl : j < (chL t ch n).length := by rw [chL_len]; exact h
  rw [List.getD_eq_getElem?_getD, List.getElem?_eq_getElem hl]
  simp [chL]
theorem getD_lt {t : List Nat} (ht : ∀ x ∈ t, x < 2 ^ 15) (j : Nat) : t.getD j 0 < 2 ^ 15 := by
  rw [List.getD_eq_getElem?_getD]
  by_cases h : j < t.length
  · rw [List.getElem?_eq_getElem h]; exact ht _ (List.getElem_mem h)
  · rw [List.getElem?_eq_none (by omega)]; decide
theorem map_getD (c : Kd) (t : List Nat) (j : Nat) : (t.map c.rest).getD j 0 = c.rest (t.getD j 0) := by
  simp only [List.getD_eq_getElem?_getD, List.getElem?_map]
  cases t[j]? with
  | none => exact (Kd.rest_zero c).symm
  | some x => rfl
theorem take_snoc {l : List Nat} {i : Nat} (h : i < l.length) : l.take (i + 1) = l.take i ++ [l.getD i 0] := by
  rw [List.take_add_one, List.getElem?_eq_getElem h, List.getD_eq_getElem?_getD, List.getElem?_eq_getElem h]
  rfl
/-- What is near is recovered. -/
theorem rec_near {c : Kd} (hc : c.ok) {t : List Nat} {ch : List Bys} {n : Nat} (hn : t.length = n) (ht : ∀ x ∈ t, x < 2 ^ 15) (hm : mostN t ch n ≤ c.t) : ∀ i, i ≤ n → runF (recF c (chL t ch n) (t.map c.rest)) i = some (t.take i, sumN t ch i) := by
  intro i
  induction i with
  | zero => intro _; rfl
  | succ i ih =>
    intro hi
    have hF : recF c (chL t ch n) (t.map c.rest) i = some (t.getD i 0, chN t ch i) := by
      unfold recF
      rw [chL_getD t ch (show i < n by omega), map_getD]
      unfold recAt
      have h1 : chW ch i (t.getD i 0) < 2 ^ 15 := chW_lt (getD_lt ht i)
      rw [← Kd.rest_xor, Kd.err_eq hc (e := chW ch i (t.getD i 0) ^^^ t.getD i 0) (Nat.xor_lt_two_pow h1 (getD_lt ht i)) rfl (Nat.le_trans (mostN_ge t ch n i (by omega)) hm)]
      show some (_, _) = _
      rw [← Nat.xor_assoc, xor_self, Nat.zero_xor]
      rfl
    rw [runF_step (ih (by omega)) hF, take_snoc (by omega)]
    rfl
/-- What is near opens. -/
theorem open_near {c : Kd} (hc : c.ok) {t ms : List Nat} {ch : List Bys} {n : Nat} (hl : ms.length = n) (hms : ∀ x ∈ ms, x < 2 ^ c.k) (hm : mostN t ch n ≤ c.t) : ∀ i, i ≤ n → ∃ d, runF (opnF c (comN c t ms n) (chL t ch n)) i = some (ms.take i, d) := by
  intro i
  induction i with
  | zero => intro _; exact ⟨0, rfl⟩
  | succ i ih =>
    intro hi
    obtain ⟨d, hd⟩ := ih (by omega)
    have hmi : ms.getD i 0 < 2 ^ c.k := by
      rw [List.getD_eq_getElem?_getD, List.getElem?_eq_getElem (show i < ms.length by omega)]
      exact hms _ (List.getElem_mem _)
    have e : chW ch i (t.getD i 0) ^^^ (t.getD i 0 ^^^ c.code (ms.getD i 0)) ^^^ c.code (ms.getD i 0) = chW ch i (t.getD i 0) ^^^ t.getD i 0 := by
      rw [← Nat.xor_assoc (chW ch i (t.getD i 0)), xor_xor]
    have hF : opnF c (comN c t ms n) (chL t ch n) i = some (ms.getD i 0, chN t ch i) := by
      unfold opnF
      rw [chL_getD t ch (show i < n by omega), comN_get c t ms (show i < n by omega), Kd.dec_eq hc hmi (by rw [e]; exact Nat.le_trans (mostN_ge t ch n i (by omega)) hm), e]
      rfl
    exact ⟨_, by rw [runF_step hd hF, take_snoc (by omega)]⟩
/-- What recovers has the sketch, and is near. -/
theorem rec_some {c : Kd} {t sk L : List Nat} {m : Nat} (ht : ∀ x ∈ t, x < 2 ^ 15) (hl : sk.length = t.length) (hr : runF (recF c t sk) t.length = some (L, m)) :
    L.length = t.length ∧ (∀ x ∈ L, x < 2 ^ 15) ∧ L.map c.rest = sk ∧ ∀ j (h1 : j < L.length) (h2 : j < t.length), cnt (L[j] ^^^ t[j]) ≤ c.t := by
  have hL := runF_len _ _ _ hr
  have hg := runF_get _ _ _ hr
  have key : ∀ j (h1 : j < L.length) (h2 : j < t.length) (h3 : j < sk.length), L[j] < 2 ^ 15 ∧ c.rest L[j] = sk[j] ∧ cnt (L[j] ^^^ t[j]) ≤ c.t := by
    intro j h1 h2 h3
    obtain ⟨d, hd⟩ := hg j h1
    rw [recF_eq c h2 h3] at hd
    obtain ⟨e, he, hy, -, he15, hy15, -⟩ := recAt_some (ht _ (List.getElem_mem h2)) hd
    obtain ⟨g1, g2, g3⟩ := Kd.err_some he
    refine ⟨hy15, ?_, ?_⟩
    · rw [hy, Kd.rest_xor, g1, ← Nat.xor_assoc, xor_self, Nat.zero_xor]
    · rw [hy, Nat.xor_comm t[j] e, xor_xor]; exact g3
  refine ⟨hL, fun x hx => ?_, ?_, fun j h1 h2 => (key j h1 h2 (by omega)).2.2⟩
  · obtain ⟨j, hj, rfl⟩ := List.getElem_of_mem hx
    exact (key j hj (by omega) (by omega)).1
  · apply List.ext_getElem (by rw [List.length_map]; omega)
    intro j h1 h2
    rw [List.getElem_map]
    exact (key j (by simpa using h1) (by omega) h2).2.1
theorem recR_of {k : Int} {sk t : List Nat} (h1 : kindB k = true) (h2 : tmplB t = true) (h3 : sk.length = t.length) (h4 : ∀ x ∈ sk, x < 2 ^ (kd k.toNat).f) : recR k sk t = recO (runF (recF (kd k.toNat) t sk) t.length) := by
  unfold recR recB
  rw [h1, h2, decide_eq_true h3, if_pos]
  simpa using h4
theorem opnR_of {k tg : Int} {h t : List Nat} (h1 : kindB k = true) (h2 : tmplB h = true) (h3 : tmplB t = true) (h4 : t.length = h.length) : opnR k h tg t = opnO tg (runF (opnF (kd k.toNat) h t) t.length) := by
  unfold opnR opnB
  rw [h1, h2, h3, decide_eq_true h4]
  rfl
theorem tmplB_of {l : List Nat} (h1 : 1 ≤ l.length) (h4 : l.length ≤ 4) (h : ∀ x ∈ l, x < 2 ^ 15) : tmplB l = true := by
  simp only [tmplB, Bool.and_eq_true, decide_eq_true_eq, List.all_eq_true]
  exact ⟨⟨h1, h4⟩, h⟩
theorem chL_lt {t : List Nat} (ch : List Bys) (n : Nat) (ht : ∀ x ∈ t, x < 2 ^ 15) : ∀ x ∈ chL t ch n, x < 2 ^ 15 := by
  intro x hx
  simp only [chL, List.mem_map, List.mem_range] at hx
  obtain ⟨j, -, rfl⟩ := hx
  exact chW_lt (getD_lt ht j)
theorem skE_cases (k : Int) (l : List Nat) : skE k l = 0 ∨ skE k l = 2 := by
  unfold skE
  split
  · exact .inl rfl
  · exact .inr rfl
theorem comR_ms {k : Int} {t ms : List Nat} (h : comR k t ms ≠ (0, [], 0, 2)) : ∀ x ∈ ms, x < 2 ^ (kd k.toNat).k := by
  unfold comR at h
  split at h
  · next hc =>
    simp only [comB, Bool.and_eq_true, decide_eq_true_eq, List.all_eq_true] at hc
    exact hc.2.2.2
  · exact absurd rfl h
end Go.Proofs.YtnienfgaidccpaaDoor
