/- Vaults: polynomials modulo 31; plain mathematics, no program in sight. No condition. -/
namespace Go.Proofs.YtnienfgaidccpaaDoor

/-- Congruence modulo 31. -/
def C (a b : Int) : Prop := a % 31 = b % 31
theorem C.refl (a : Int) : C a a := rfl
theorem C.symm {a b : Int} (h : C a b) : C b a := Eq.symm h
theorem C.trans {a b c : Int} (h : C a b) (k : C b c) : C a c := Eq.trans h k
theorem C.mod (a : Int) : C (a % 31) a := Int.emod_emod_of_dvd a (by decide)
theorem C.add {a b c d : Int} (h : C a b) (k : C c d) : C (a + c) (b + d) := by unfold C at *; omega
theorem C.sub {a b c d : Int} (h : C a b) (k : C c d) : C (a - c) (b - d) := by unfold C at *; omega
theorem C.mul {a b c d : Int} (h : C a b) (k : C c d) : C (a * c) (b * d) := by
  unfold C at *
  rw [Int.mul_emod, h, k, ← Int.mul_emod]
theorem C.of {a b : Int} (h : a = b) : C a b := by rw [h]; exact C.refl b
theorem C.eq {a b : Int} (h : C a b) (ha : 0 ≤ a ∧ a < 31) (hb : 0 ≤ b ∧ b < 31) : a = b := by unfold C at h; omega
theorem prime {a b : Int} (h : C (a * b) 0) : C a 0 ∨ C b 0 := by
  unfold C at *
  have ha : 0 ≤ a % 31 ∧ a % 31 < 31 := by omega
  have hb : 0 ≤ b % 31 ∧ b % 31 < 31 := by omega
  rw [Int.mul_emod] at h
  generalize a % 31 = x at *
  generalize b % 31 = y at *
  obtain ⟨m, rfl⟩ := Int.eq_ofNat_of_zero_le ha.1
  obtain ⟨n, rfl⟩ := Int.eq_ofNat_of_zero_le hb.1
  have all : ∀ m : Fin 31, ∀ n : Fin 31, ((m.val : Int) * (n.val : Int)) % 31 = 0 % 31 → (m.val : Int) = 0 % 31 ∨ (n.val : Int) = 0 % 31 := by decide +kernel
  exact all ⟨m, by omega⟩ ⟨n, by omega⟩ h

/-- The value of a polynomial, in the integers. -/
def valZ : List Int → Int → Int
  | [], _ => 0
  | s :: l, x => s + x * valZ l x
/-- The value of a polynomial modulo 31. -/
def valF : List Int → Int → Int
  | [], _ => 0
  | s :: l, x => (s + x * valF l x) % 31
theorem valF_valZ (l : List Int) (x : Int) : C (valF l x) (valZ l x) := by
  induction l with
  | nil => rfl
  | cons s l ih => exact (C.mod _).trans ((C.refl _).add ((C.refl _).mul ih))
theorem valF_range (l : List Int) (x : Int) : 0 ≤ valF l x ∧ valF l x < 31 := by
  cases l with
  | nil => simp [valF]
  | cons s l => rw [valF]; omega

/-- Synthetic division. -/
def quo (r : Int) : List Int → List Int
  | [] => []
  | _ :: l => valZ l r :: quo r l
theorem quo_len (r : Int) (l : List Int) : (quo r l).length = l.length := by induction l <;> simp_all [quo]
theorem valZ_quo (r y : Int) (l : List Int) : valZ l y = valZ l r + (y - r) * valZ (quo r l) y := by
  induction l with
  | nil => simp [valZ, quo]
  | cons s l ih =>
    simp only [valZ, quo]
    rw [ih]
    generalize valZ l r = A
    generalize valZ (quo r l) y = B
    grind
/-- The quotient but for its last coefficient, which is 0. -/
theorem quo_drop (r y : Int) : ∀ l : List Int, valZ (quo r l).dropLast y = valZ (quo r l) y := by
  intro l
  induction l with
  | nil => rfl
  | cons s l ih =>
    cases l with
    | nil => simp [quo, valZ]
    | cons t l =>
      rw [quo]
      have : (valZ (t :: l) r :: quo r (t :: l)).dropLast = valZ (t :: l) r :: (quo r (t :: l)).dropLast := by rw [quo]; rfl
      rw [this]
      show valZ (t :: l) r + y * _ = valZ (t :: l) r + y * _
      rw [ih]
theorem zero_of_quo (r : Int) : ∀ l : List Int, C (valZ l r) 0 → (∀ q ∈ (quo r l).dropLast, C q 0) → ∀ s ∈ l, C s 0 := by
  intro l
  induction l with
  | nil => intro _ _ s hs; cases hs
  | cons s l ih =>
    intro h0 hq
    have hl : C (valZ l r) 0 := by
      cases l with
      | nil => rfl
      | cons t l =>
        refine hq _ ?_
        simp [quo]
    have hs : C s 0 := by
      simp only [valZ] at h0
      have := ((C.refl r).mul hl)
      unfold C at *
      omega
    intro u hu
    rcases List.mem_cons.1 hu with rfl | hu
    · exact hs
    · refine ih hl (fun q hq' => hq q ?_) u hu
      cases l with
      | nil => simp [quo] at hq'
      | cons t l =>
        simp only [quo] at hq' ⊢
        exact List.mem_cons_of_mem _ hq'
/-- A polynomial with as many different roots as coefficients is 0. -/
theorem roots_zero : ∀ (rs l : List Int), l.length = rs.length → rs.Pairwise (fun a b => ¬ C a b) → (∀ r ∈ rs, C (valZ l r) 0) → ∀ s ∈ l, C s 0 := by
  intro rs
  induction rs with
  | nil => intro l hl _ _ s hs; rw [List.eq_nil_of_length_eq_zero hl] at hs; cases hs
  | cons r rs ih =>
    intro l hl hp hr
    have hp' := List.pairwise_cons.1 hp
    have hr0 := hr r (by simp)
    refine zero_of_quo r l hr0 (ih _ (by rw [List.length_dropLast, quo_len, hl]; simp) hp'.2 (fun x hx => ?_))
    rw [quo_drop]
    have h1 := hr x (by simp [hx])
    rw [valZ_quo r x l] at h1
    have h2 : C ((x - r) * valZ (quo r l) x) 0 := by unfold C at *; omega
    rcases prime h2 with h | h
    · exact absurd (show C r x by unfold C at *; omega) (hp'.1 x hx)
    · exact h
def subL : List Int → List Int → List Int
  | a :: l, b :: m => (a - b) :: subL l m
  | _, _ => []
theorem valZ_sub : ∀ (l m : List Int) (x : Int), l.length = m.length → valZ (subL l m) x = valZ l x - valZ m x := by
  intro l
  induction l with
  | nil => intro m x h; cases m <;> simp_all [subL, valZ]
  | cons a l ih =>
    intro m x h
    cases m with
    | nil => simp at h
    | cons b m =>
      simp only [subL, valZ]
      rw [ih m x (by simpa using h)]
      grind
theorem subL_len : ∀ (l m : List Int), l.length = m.length → (subL l m).length = m.length := by
  intro l
  induction l with
  | nil => intro m h; cases m <;> simp_all [subL]
  | cons a l ih => intro m h; cases m <;> simp_all [subL]
def In31 (l : List Int) : Prop := ∀ s ∈ l, 0 ≤ s ∧ s < 31
theorem eq_of_subL : ∀ (l m : List Int), l.length = m.length → In31 l → In31 m → (∀ s ∈ subL l m, C s 0) → l = m := by
  intro l
  induction l with
  | nil => intro m h _ _ _; exact (List.eq_nil_of_length_eq_zero h.symm).symm
  | cons a l ih =>
    intro m h hl hm hs
    cases m with
    | nil => simp at h
    | cons b m =>
      have h1 := hs (a - b) (by simp [subL])
      have ha := hl a (by simp)
      have hb := hm b (by simp)
      have e : a = b := by unfold C at h1; omega
      rw [e, ih m (by simpa using h) (fun s hs => hl s (by simp [hs])) (fun s hs => hm s (by simp [hs])) (fun s hs' => hs s (by simp [subL, hs']))]
/-- Two secrets that agree at as many places as they have numbers are equal. -/
theorem interp (rs l m : List Int) (hl : l.length = rs.length) (hm : m.length = rs.length) (hp : rs.Pairwise (fun a b => ¬ C a b)) (h1 : In31 l) (h2 : In31 m)
    (h : ∀ r ∈ rs, valF l r = valF m r) : l = m := by
  refine eq_of_subL l m (hl.trans hm.symm) h1 h2 (roots_zero rs _ ((subL_len l m (hl.trans hm.symm)).trans hm) hp fun r hr => ?_)
  rw [valZ_sub l m r (hl.trans hm.symm)]
  have a := valF_valZ l r
  have b := valF_valZ m r
  rw [h r hr] at a
  have := a.symm.trans b
  unfold C at *
  omega

/-! Newton's way: by differences. -/
def addm (b : Int) : List Int → List Int → List Int
  | o :: os, z :: zs => (o + b * z) % 31 :: addm b os zs
  | os, [] => os
  | [], _ :: _ => []
def mulAux (x : Int) : Int → List Int → List Int
  | p, [] => [p % 31]
  | p, z :: zs => (p - x * z) % 31 :: mulAux x z zs
def mulx (x : Int) (z : List Int) : List Int := mulAux x 0 z
def pow31 (a : Int) : Nat → Int
  | 0 => 1
  | n + 1 => (pow31 a n * a) % 31
/-- The 29th power. -/
def inv (a : Int) : Int := pow31 a 29
theorem inv_ok {a : Int} (h : 0 ≤ a ∧ a < 31) (h0 : a ≠ 0) : C (a * inv a) 1 := by
  obtain ⟨m, rfl⟩ := Int.eq_ofNat_of_zero_le h.1
  have all : ∀ m : Fin 31, m ≠ 0 → ((m.val : Int) * inv (m.val : Int)) % 31 = 1 % 31 := by decide +kernel
  exact all ⟨m, by omega⟩ (by intro e; apply h0; have := congrArg Fin.val e; simp at this; omega)
theorem addm_len (b : Int) : ∀ (o z : List Int), z.length ≤ o.length → (addm b o z).length = o.length := by
  intro o
  induction o with
  | nil => intro z h; cases z <;> simp_all [addm]
  | cons s o ih => intro z h; cases z <;> simp_all [addm]
theorem addm_in (b : Int) : ∀ (o z : List Int), In31 o → In31 (addm b o z) := by
  intro o
  induction o with
  | nil => intro z _; cases z <;> simp [addm, In31]
  | cons s o ih =>
    intro z h
    cases z with
    | nil => exact h
    | cons y z =>
      intro u hu
      rcases List.mem_cons.1 hu with rfl | hu
      · omega
      · exact ih z (fun s hs => h s (by simp [hs])) u hu
theorem addm_val (b y : Int) : ∀ (o z : List Int), z.length ≤ o.length → C (valZ (addm b o z) y) (valZ o y + b * valZ z y) := by
  intro o
  induction o with
  | nil => intro z h; obtain rfl : z = [] := List.eq_nil_of_length_eq_zero (by simpa using h)
           simp [addm, valZ, C]
  | cons s o ih =>
    intro z h
    cases z with
    | nil => simp [addm, valZ, C]
    | cons t z =>
      have := ih z (by simpa using h)
      simp only [addm, valZ]
      refine ((C.mod _).add ((C.refl y).mul this)).trans (C.of ?_)
      generalize valZ o y = A
      generalize valZ z y = B
      grind
theorem mulAux_len (x : Int) : ∀ (z : List Int) (p : Int), (mulAux x p z).length = z.length + 1 := by
  intro z
  induction z with
  | nil => intro p; rfl
  | cons t z ih => intro p; simp [mulAux, ih]
theorem mulAux_in (x : Int) : ∀ (z : List Int) (p : Int), In31 (mulAux x p z) := by
  intro z
  induction z with
  | nil => intro p u hu; simp [mulAux] at hu; omega
  | cons t z ih =>
    intro p u hu
    rcases List.mem_cons.1 hu with rfl | hu
    · omega
    · exact ih t u hu
theorem mulAux_val (x y : Int) : ∀ (z : List Int) (p : Int), C (valZ (mulAux x p z) y) (p + (y - x) * valZ z y) := by
  intro z
  induction z with
  | nil => intro p; simp [mulAux, valZ, C]
  | cons t z ih =>
    intro p
    simp only [mulAux, valZ]
    refine ((C.mod _).add ((C.refl y).mul (ih t))).trans (C.of ?_)
    generalize valZ z y = A
    grind
theorem mulx_val (x y : Int) (z : List Int) : C (valF (mulx x z) y) ((y - x) * valF z y) := by
  refine (valF_valZ _ _).trans ((mulAux_val x y z 0).trans ?_)
  rw [Int.zero_add]
  exact (C.refl _).mul (valF_valZ z y).symm
/-- What Newton's way makes of some places, the values V, the secret so far, and a polynomial that is 0 at the places before. -/
def newt (V : Int → Int) : List Int → List Int → List Int → List Int
  | [], o, _ => o
  | x :: ps, o, z => newt V ps (addm (((V x - valF o x) % 31) * inv (valF z x)) o z) (mulx x z)
theorem newt_ok (V : Int → Int) : ∀ (ps done o z : List Int), z.length + ps.length = o.length + 1 → In31 o → (done ++ ps).Pairwise (fun a b => ¬ C a b) →
    (∀ p ∈ done, C (valF o p) (V p)) → (∀ p ∈ done, C (valF z p) 0) → (∀ p ∈ ps, ¬ C (valF z p) 0) →
    (newt V ps o z).length = o.length ∧ In31 (newt V ps o z) ∧ ∀ p ∈ done ++ ps, C (valF (newt V ps o z) p) (V p) := by
  intro ps
  induction ps with
  | nil => intro done o z _ h2 _ h4 _ _; exact ⟨rfl, h2, fun p hp => h4 p (by simpa using hp)⟩
  | cons x ps ih =>
    intro done o z h1 h2 h3 h4 h5 h6
    have hl : z.length ≤ o.length := by simp at h1; omega
    have hz := h6 x (by simp)
    have hi : C (valF z x * inv (valF z x)) 1 := inv_ok (valF_range z x) (by intro e; apply hz; rw [e]; rfl)
    have key : ∀ p, C (valF (addm (((V x - valF o x) % 31) * inv (valF z x)) o z) p) (valF o p + ((V x - valF o x) % 31) * inv (valF z x) * valF z p) := fun p =>
      (valF_valZ _ _).trans ((addm_val _ p o z hl).trans ((valF_valZ o p).symm.add ((C.refl _).mul (valF_valZ z p).symm)))
    have hpw := List.pairwise_append.1 h3
    have hpx := List.pairwise_cons.1 hpw.2.1
    have := ih (done ++ [x]) (addm (((V x - valF o x) % 31) * inv (valF z x)) o z) (mulx x z) (by rw [addm_len _ _ _ hl, mulx, mulAux_len]; simp at h1; omega) (addm_in _ _ _ h2) (by simpa using h3)
      (fun p hp => by
        rcases List.mem_append.1 hp with hp | hp
        · refine (key p).trans ?_
          have h := ((C.refl (((V x - valF o x) % 31) * inv (valF z x))).mul (h5 p hp))
          rw [Int.mul_zero] at h
          have := (h4 p hp).add h
          rwa [Int.add_zero] at this
        · simp at hp
          subst hp
          refine (key p).trans ?_
          have h := (C.mod (V p - valF o p)).mul hi
          rw [Int.mul_one] at h
          have e : (V p - valF o p) % 31 * inv (valF z p) * valF z p = (V p - valF o p) % 31 * (valF z p * inv (valF z p)) := by grind
          rw [e]
          exact ((C.refl (valF o p)).add h).trans (C.of (by omega)))
      (fun p hp => by
        refine (mulx_val x p z).trans ?_
        rcases List.mem_append.1 hp with hp | hp
        · have := (C.refl (p - x)).mul (h5 p hp)
          rwa [Int.mul_zero] at this
        · simp at hp
          subst hp
          rw [Int.sub_self, Int.zero_mul]
          exact C.refl _)
      (fun p hp hc => by
        have := (mulx_val x p z).symm.trans hc
        rcases prime this with h | h
        · exact hpx.1 p hp (show C x p by unfold C at *; omega)
        · exact h6 p (by simp [hp]) h)
    rw [addm_len _ _ _ hl] at this
    exact ⟨this.1, this.2.1, fun p hp => this.2.2 p (by simpa using hp)⟩
/-- The secret through some places. -/
def thr (V : Int → Int) (ps : List Int) : List Int := newt V ps (List.replicate ps.length 0) [1]
theorem thr_ok (V : Int → Int) (ps : List Int) (hp : ps.Pairwise (fun a b => ¬ C a b)) : (thr V ps).length = ps.length ∧ In31 (thr V ps) ∧ ∀ p ∈ ps, C (valF (thr V ps) p) (V p) := by
  have := newt_ok V ps [] (List.replicate ps.length 0) [1] (by simp; omega) (fun s hs => by have := (List.mem_replicate.1 hs).2; omega) (by simpa using hp) (by simp) (by simp) (fun p _ => by simp [valF, C])
  simpa [thr] using this
end Go.Proofs.YtnienfgaidccpaaDoor
