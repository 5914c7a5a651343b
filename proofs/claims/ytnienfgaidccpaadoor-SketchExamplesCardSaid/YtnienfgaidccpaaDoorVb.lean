/- Vaults: Lagrange's way, the search of a secret that fits, rivals; plain mathematics. No condition. -/
import Derived.Test.YtnienfgaidccpaaDoorVa
namespace Go.Proofs.YtnienfgaidccpaaDoor

/-! Lagrange's way. -/
/-- The product of a polynomial and by (X - r), as the reference reckons it. -/
def lagAux (b r : Int) : Int → List Int → List Int
  | c, [] => [c]
  | c, p :: ps => (c + p * b % 31 * (31 - r)) % 31 :: lagAux b r ((0 + p * b) % 31) ps
def lagMul (b r : Int) (p : List Int) : List Int := lagAux b r 0 p
theorem lagAux_len (b r : Int) : ∀ (p : List Int) (c : Int), (lagAux b r c p).length = p.length + 1 := by
  intro p
  induction p with
  | nil => intro c; rfl
  | cons t p ih => intro c; simp [lagAux, ih]
theorem lagAux_in (b r : Int) : ∀ (p : List Int) (c : Int), 0 ≤ c ∧ c < 31 → In31 (lagAux b r c p) := by
  intro p
  induction p with
  | nil => intro c hc u hu; simp [lagAux] at hu; subst hu; exact hc
  | cons t p ih =>
    intro c _ u hu
    rcases List.mem_cons.1 hu with rfl | hu
    · omega
    · exact ih _ (by omega) u hu
theorem lagAux_val (b r y : Int) : ∀ (p : List Int) (c : Int), C (valZ (lagAux b r c p) y) (c + b * (y - r) * valZ p y) := by
  intro p
  induction p with
  | nil => intro c; simp [lagAux, valZ, C]
  | cons t p ih =>
    intro c
    simp only [lagAux, valZ]
    have h1 : C ((c + t * b % 31 * (31 - r)) % 31) (c - t * b * r) := by
      refine (C.mod _).trans ?_
      have h : C (t * b % 31 * (31 - r)) (t * b * (31 - r)) := (C.mod _).mul (C.refl _)
      have e : t * b * (31 - r) = 31 * (t * b) - t * b * r := by grind
      rw [e] at h
      generalize t * b % 31 * (31 - r) = A at *
      generalize t * b * r = B at *
      generalize t * b = D at *
      unfold C at *
      omega
    have h2 : C ((0 + t * b) % 31) (t * b) := by rw [Int.zero_add]; exact C.mod _
    refine (h1.add ((C.refl y).mul ((ih _).trans (h2.add (C.refl _))))).trans (C.of ?_)
    generalize valZ p y = A
    grind
/-- The inverse, as the reference seeks it. -/
def invR (a : Int) : Int := (((List.range 30).map fun (i : Nat) => ((i : Int) + 1)).find? fun b => a * b % 31 == 1).getD 0
theorem invR_ok {a : Int} (h : 0 ≤ a ∧ a < 31) (h0 : a ≠ 0) : C (invR a * a) 1 := by
  obtain ⟨m, rfl⟩ := Int.eq_ofNat_of_zero_le h.1
  have all : ∀ m : Fin 31, m ≠ 0 → (invR (m.val : Int) * (m.val : Int)) % 31 = 1 % 31 := by decide +kernel
  exact all ⟨m, by omega⟩ (by intro e; apply h0; have := congrArg Fin.val e; simp at this; omega)
/-- The part of place x: v at x and 0 at the others of a list (x itself is passed over by its number). -/
def lagP (x : Int) : List Int → List Int → List Int
  | p, [] => p
  | p, r :: rs => lagP x (lagMul (invR ((x - r + 31) % 31)) r p) rs
def addL : List Int → List Int → List Int
  | o :: os, p :: ps => (o + p) % 31 :: addL os ps
  | os, [] => os
  | [], _ :: _ => []
/-- The reference's secret through some places: done and to come. -/
def lagS (V : Int → Int) : List Int → List Int → List Int → List Int
  | _, [], o => o
  | done, x :: ps, o => lagS V (done ++ [x]) ps (addL o (lagP x [V x] (done ++ ps)))
theorem lagP_len (x : Int) : ∀ (rs p : List Int), (lagP x p rs).length = p.length + rs.length := by
  intro rs
  induction rs with
  | nil => intro p; rfl
  | cons r rs ih => intro p; rw [lagP, ih, lagMul, lagAux_len]; simp; omega
theorem lagP_in (x : Int) : ∀ (rs p : List Int), In31 p → In31 (lagP x p rs) := by
  intro rs
  induction rs with
  | nil => intro p h; exact h
  | cons r rs ih => intro p _; exact ih _ (lagAux_in _ _ _ _ (by omega))
theorem lagMul_val (b r y : Int) (p : List Int) : C (valF (lagMul b r p) y) (b * (y - r) * valF p y) := by
  refine (valF_valZ _ _).trans ((lagAux_val b r y p 0).trans ?_)
  rw [Int.zero_add]
  exact (C.refl _).mul (valF_valZ p y).symm
/-- At a place of the list the part is 0; at x it is what it was. -/
theorem lagP_zero (x y : Int) : ∀ (rs p : List Int), C (valF p y) 0 → C (valF (lagP x p rs) y) 0 := by
  intro rs
  induction rs with
  | nil => intro p h; exact h
  | cons r rs ih =>
    intro p h
    refine ih _ ((lagMul_val _ r y p).trans ?_)
    have := (C.refl (invR ((x - r + 31) % 31) * (y - r))).mul h
    rwa [Int.mul_zero] at this
theorem lagP_at (x y : Int) : ∀ (rs p : List Int), y ∈ rs → C (valF (lagP x p rs) y) 0 := by
  intro rs
  induction rs with
  | nil => intro p h; cases h
  | cons r rs ih =>
    intro p h
    rcases List.mem_cons.1 h with rfl | h
    · refine lagP_zero x y rs _ ((lagMul_val _ y y p).trans ?_)
      rw [Int.sub_self, Int.mul_zero, Int.zero_mul]
      exact C.refl _
    · exact ih _ h
theorem lagP_self (x : Int) : ∀ (rs p : List Int), (∀ r ∈ rs, ¬ C x r) → C (valF (lagP x p rs) x) (valF p x) := by
  intro rs
  induction rs with
  | nil => intro p _; exact C.refl _
  | cons r rs ih =>
    intro p h
    refine (ih _ (fun q hq => h q (by simp [hq]))).trans ((lagMul_val _ r x p).trans ?_)
    have hr := h r (by simp)
    have h1 : C (invR ((x - r + 31) % 31) * ((x - r + 31) % 31)) 1 := invR_ok (by omega) (by unfold C at hr; omega)
    have h2 : C ((x - r + 31) % 31) (x - r) := by unfold C; omega
    have h3 : C (invR ((x - r + 31) % 31) * (x - r)) 1 := ((C.refl _).mul h2.symm).trans h1
    have := h3.mul (C.refl (valF p x))
    rwa [Int.one_mul] at this
theorem addL_len : ∀ (o p : List Int), p.length ≤ o.length → (addL o p).length = o.length := by
  intro o
  induction o with
  | nil => intro p h; cases p <;> simp_all [addL]
  | cons s o ih => intro p h; cases p <;> simp_all [addL]
theorem addL_in : ∀ (o p : List Int), In31 o → In31 (addL o p) := by
  intro o
  induction o with
  | nil => intro p _; cases p <;> simp [addL, In31]
  | cons s o ih =>
    intro p h
    cases p with
    | nil => exact h
    | cons y p =>
      intro u hu
      rcases List.mem_cons.1 hu with rfl | hu
      · omega
      · exact ih p (fun s hs => h s (by simp [hs])) u hu
theorem addL_val (y : Int) : ∀ (o p : List Int), p.length ≤ o.length → C (valF (addL o p) y) (valF o y + valF p y) := by
  intro o
  induction o with
  | nil => intro p h; obtain rfl : p = [] := List.eq_nil_of_length_eq_zero (by simpa using h)
           simp [addL, valF, C]
  | cons s o ih =>
    intro p h
    cases p with
    | nil => simp [addL, valF, C]
    | cons t p =>
      have := ih p (by simpa using h)
      simp only [addL, valF]
      have h1 : C ((s + t) % 31) (s + t) := C.mod _
      have h2 := (C.refl y).mul this
      rw [Int.mul_add] at h2
      generalize y * valF (addL o p) y = A at *
      generalize y * valF o y = B at *
      generalize y * valF p y = D at *
      unfold C at *
      omega
theorem lagS_ok (V : Int → Int) : ∀ (ps done o : List Int), o.length = done.length + ps.length → In31 o → (∀ x ∈ ps, 0 ≤ V x ∧ V x < 31) → (done ++ ps).Pairwise (fun a b => ¬ C a b) →
    (∀ p ∈ done, C (valF o p) (V p)) → (∀ p ∈ ps, C (valF o p) 0) →
    (lagS V done ps o).length = o.length ∧ In31 (lagS V done ps o) ∧ ∀ p ∈ done ++ ps, C (valF (lagS V done ps o) p) (V p) := by
  intro ps
  induction ps with
  | nil => intro done o _ h2 _ _ h4 _; exact ⟨rfl, h2, fun p hp => h4 p (by simpa using hp)⟩
  | cons x ps ih =>
    intro done o h1 h2 hV h3 h4 h5
    have hl : (lagP x [V x] (done ++ ps)).length ≤ o.length := by rw [lagP_len, h1]; simp; omega
    have hpw := List.pairwise_append.1 h3
    have hpx := List.pairwise_cons.1 hpw.2.1
    have hne : ∀ r ∈ done ++ ps, ¬ C x r := by
      intro r hr
      rcases List.mem_append.1 hr with hr | hr
      · exact fun hc => hpw.2.2 r hr x (by simp) hc.symm
      · exact hpx.1 r hr
    have key := fun y => addL_val y o (lagP x [V x] (done ++ ps)) hl
    have zero : ∀ y, C (valF (lagP x [V x] (done ++ ps)) y) 0 → C (valF (addL o (lagP x [V x] (done ++ ps))) y) (valF o y) := fun y hy => by
      have := (key y).trans ((C.refl _).add hy)
      rwa [Int.add_zero] at this
    have hx : C (valF (lagP x [V x] (done ++ ps)) x) (V x) := (lagP_self x _ _ hne).trans (by simpa [valF] using C.mod (V x))
    have := ih (done ++ [x]) (addL o (lagP x [V x] (done ++ ps))) (by rw [addL_len _ _ hl, h1]; simp; omega) (addL_in _ _ h2) (fun y hy => hV y (by simp [hy])) (by simpa using h3)
      (fun p hp => by
        rcases List.mem_append.1 hp with hp | hp
        · exact (zero p (lagP_at x p _ _ (by simp [hp]))).trans (h4 p hp)
        · simp at hp
          subst hp
          have := (key p).trans ((h5 p (by simp)).add hx)
          rwa [Int.zero_add] at this)
      (fun p hp => (zero p (lagP_at x p _ _ (by simp [hp]))).trans (h5 p (by simp [hp])))
    rw [addL_len _ _ hl] at this
    exact ⟨this.1, this.2.1, fun p hp => this.2.2 p (by simpa using hp)⟩
def lag (V : Int → Int) (ps : List Int) : List Int := lagS V [] ps (List.replicate ps.length 0)
theorem valF_zeros (n : Nat) (x : Int) : valF (List.replicate n 0) x = 0 := by
  induction n with
  | zero => rfl
  | succ n ih => rw [List.replicate_succ, valF, ih]; simp
theorem lag_ok (V : Int → Int) (ps : List Int) (hV : ∀ x ∈ ps, 0 ≤ V x ∧ V x < 31) (hp : ps.Pairwise (fun a b => ¬ C a b)) : (lag V ps).length = ps.length ∧ In31 (lag V ps) ∧ ∀ p ∈ ps, C (valF (lag V ps) p) (V p) := by
  have := lagS_ok V ps [] (List.replicate ps.length 0) (by simp) (fun s hs => by have := (List.mem_replicate.1 hs).2; omega) hV (by simpa using hp) (by simp) (fun p _ => by rw [valF_zeros]; rfl)
  simpa [lag] using this
/-- Newton's and Lagrange's ways lead to one secret. -/
theorem thr_lag (V : Int → Int) (ps : List Int) (hV : ∀ x ∈ ps, 0 ≤ V x ∧ V x < 31) (hp : ps.Pairwise (fun a b => ¬ C a b)) : thr V ps = lag V ps := by
  obtain ⟨a1, a2, a3⟩ := thr_ok V ps hp
  obtain ⟨b1, b2, b3⟩ := lag_ok V ps hV hp
  exact interp ps _ _ a1 b1 hp a2 b2 fun r hr => ((a3 r hr).trans (b3 r hr).symm).eq (valF_range _ _) (valF_range _ _)

/-! The search of a secret that fits. -/
def srch (test : List Int → Option (List Int)) : List Int → Nat → List Int → Option (List Int)
  | _, 0, c => test c
  | [], _ + 1, _ => none
  | o :: os, k + 1, c => match srch test os k (c ++ [o]) with
    | some r => some r
    | none => srch test os (k + 1) c
theorem srch_zero (test : List Int → Option (List Int)) (os c : List Int) : srch test os 0 c = test c := by cases os <;> rfl
theorem srch_some {test : List Int → Option (List Int)} : ∀ (os : List Int) (k : Nat) (c r : List Int), srch test os k c = some r → ∃ l, l.Sublist os ∧ l.length = k ∧ test (c ++ l) = some r := by
  intro os
  induction os with
  | nil =>
    intro k c r h
    cases k with
    | zero => exact ⟨[], List.Sublist.refl _, rfl, by simpa [srch] using h⟩
    | succ k => cases h
  | cons o os ih =>
    intro k c r h
    cases k with
    | zero => rw [srch_zero] at h; exact ⟨[], List.nil_sublist _, rfl, by simpa using h⟩
    | succ k =>
      rw [srch] at h
      split at h
      · rename_i r' hr
        injection h with h
        subst h
        obtain ⟨l, h1, h2, h3⟩ := ih _ _ _ hr
        exact ⟨o :: l, h1.cons_cons o, by simp [h2], by simpa using h3⟩
      · obtain ⟨l, h1, h2, h3⟩ := ih _ _ _ h
        exact ⟨l, h1.cons o, h2, h3⟩
theorem srch_isSome {test : List Int → Option (List Int)} : ∀ (os : List Int) (k : Nat) (c l : List Int), l.Sublist os → l.length = k → (test (c ++ l)).isSome = true → (srch test os k c).isSome = true := by
  intro os
  induction os with
  | nil =>
    intro k c l h1 h2 h3
    have := List.sublist_nil.1 h1
    subst this
    subst h2
    simpa [srch] using h3
  | cons o os ih =>
    intro k c l h1 h2 h3
    cases k with
    | zero => rw [List.eq_nil_of_length_eq_zero h2] at h3; rw [srch_zero]; simpa using h3
    | succ k =>
      rw [srch]
      split
      · rfl
      · rename_i hn
        cases h1 with
        | cons _ h => exact ih _ _ l h h2 h3
        | cons_cons _ h =>
          rename_i l'
          have := ih k (c ++ [o]) l' h (by simpa using h2) (by simpa using h3)
          rw [hn] at this
          cases this
end Go.Proofs.YtnienfgaidccpaaDoor
