/- Curves of neighbours separate: by counting crossings; plain mathematics. No condition. -/
namespace Go.Proofs.Ytjelnbfnoliocaa

structure Pt where
  x : Int
  y : Int
deriving DecidableEq
/-- Neighbours: in eight directions. -/
def adj8 (a b : Pt) : Prop := a ≠ b ∧ a.x - b.x ≤ 1 ∧ b.x - a.x ≤ 1 ∧ a.y - b.y ≤ 1 ∧ b.y - a.y ≤ 1
/-- Straight neighbours. -/
def adj4 (a b : Pt) : Prop := (a.y = b.y ∧ (a.x = b.x + 1 ∨ b.x = a.x + 1)) ∨ (a.x = b.x ∧ (a.y = b.y + 1 ∨ b.y = a.y + 1))
/-- A step crosses the line between the row of u and the next one, to the right of u. -/
def cr (u a b : Pt) : Bool := decide (((a.y = u.y ∧ b.y = u.y + 1) ∨ (a.y = u.y + 1 ∧ b.y = u.y)) ∧ 2 * u.x < a.x + b.x)
/-- In the row below u, to the right of it. -/
def inR (u a : Pt) : Bool := decide (a.y = u.y + 1 ∧ u.x < a.x)
def rt (u : Pt) : Pt := ⟨u.x + 1, u.y⟩
def dn (u : Pt) : Pt := ⟨u.x, u.y + 1⟩
theorem ne_pt {a b : Pt} (h : a ≠ b) : a.x ≠ b.x ∨ a.y ≠ b.y := by
  by_cases e : a.x = b.x
  · refine .inr fun e' => h ?_
    cases a; cases b
    simp only at e e'
    subst e; subst e'
    rfl
  · exact .inl e
theorem cr_comm (u a b : Pt) : cr u a b = cr u b a := by
  unfold cr
  rw [decide_eq_decide]
  omega
theorem cr_rt {u a b : Pt} (h : adj8 a b) (a1 : a ≠ u) (a2 : a ≠ rt u) (b1 : b ≠ u) (b2 : b ≠ rt u) : cr u a b = cr (rt u) a b := by
  have a1 := ne_pt a1; have a2 := ne_pt a2; have b1 := ne_pt b1; have b2 := ne_pt b2
  obtain ⟨_, h⟩ := h
  unfold cr
  rw [decide_eq_decide]
  unfold rt at *
  simp only at *
  omega
theorem cr_dn {u a b : Pt} (h : adj8 a b) (a1 : a ≠ u) (a2 : a ≠ dn u) (b1 : b ≠ u) (b2 : b ≠ dn u) : (cr u a b ^^ cr (dn u) a b) = (inR u a ^^ inR u b) := by
  have a1 := ne_pt a1; have a2 := ne_pt a2; have b1 := ne_pt b1; have b2 := ne_pt b2
  obtain ⟨_, h⟩ := h
  unfold dn at *
  simp only at *
  have h1 : cr u a b = true ↔ (((a.y = u.y ∧ b.y = u.y + 1) ∨ (a.y = u.y + 1 ∧ b.y = u.y)) ∧ 2 * u.x < a.x + b.x) := by simp [cr]
  have h2 : cr ⟨u.x, u.y + 1⟩ a b = true ↔ (((a.y = u.y + 1 ∧ b.y = u.y + 1 + 1) ∨ (a.y = u.y + 1 + 1 ∧ b.y = u.y + 1)) ∧ 2 * u.x < a.x + b.x) := by simp [cr]
  have h3 : inR u a = true ↔ (a.y = u.y + 1 ∧ u.x < a.x) := by simp [inR]
  have h4 : inR u b = true ↔ (b.y = u.y + 1 ∧ u.x < b.x) := by simp [inR]
  cases c1 : cr u a b <;> cases c2 : cr ⟨u.x, u.y + 1⟩ a b <;> cases c3 : inR u a <;> cases c4 : inR u b <;> simp only [c1, c2, c3, c4, true_iff, Bool.false_eq_true, false_iff] at h1 h2 h3 h4 <;> first | rfl | (exfalso; omega)

/-- A way from a to b through places of one kind, with the crossings to the right of each place, modulo 2. -/
inductive Way (K : Pt → Prop) : Pt → Pt → (Pt → Bool) → Prop
  | refl {a : Pt} : K a → Way K a a (fun _ => false)
  | step {a b c : Pt} {f : Pt → Bool} : Way K a b f → adj8 b c → K c → Way K a c (fun u => f u ^^ cr u b c)
theorem Way.right {K : Pt → Prop} {a b : Pt} {f : Pt → Bool} (h : Way K a b f) : K b := by cases h <;> assumption
theorem off {K : Pt → Prop} {a u : Pt} (ha : K a) (hu : ¬ K u) : a ≠ u := fun e => hu (e ▸ ha)
theorem Way.rt_ {K : Pt → Prop} {a b : Pt} {f : Pt → Bool} (h : Way K a b f) {u : Pt} (h1 : ¬ K u) (h2 : ¬ K (rt u)) : f u = f (rt u) := by
  induction h with
  | refl _ => rfl
  | step h ha hc ih => show (_ ^^ _) = (_ ^^ _); rw [ih, cr_rt ha (off h.right h1) (off h.right h2) (off hc h1) (off hc h2)]
theorem bool4 {p q r s t v x : Bool} (h : (p ^^ q) = (r ^^ s)) (k : (t ^^ v) = (s ^^ x)) : ((p ^^ t) ^^ (q ^^ v)) = (r ^^ x) := by
  revert h k
  cases p <;> cases q <;> cases r <;> cases s <;> cases t <;> cases v <;> cases x <;> simp
theorem Way.dn_ {K : Pt → Prop} {a b : Pt} {f : Pt → Bool} (h : Way K a b f) {u : Pt} (h1 : ¬ K u) (h2 : ¬ K (dn u)) : (f u ^^ f (dn u)) = (inR u a ^^ inR u b) := by
  induction h with
  | refl _ => simp
  | step h ha hc ih => exact bool4 ih (cr_dn ha (off h.right h1) (off h.right h2) (off hc h1) (off hc h2))

/-- The same, closed over p. -/
def clo (f : Pt → Bool) (a b p u : Pt) : Bool := (f u ^^ cr u b p) ^^ cr u p a
theorem clo_rt {K : Pt → Prop} {a b p : Pt} {f : Pt → Bool} (h : Way K a b f) (ha : K a) (pa : adj8 p a) (pb : adj8 b p) {u : Pt} (h1 : ¬ K u) (h2 : ¬ K (rt u)) (p1 : p ≠ u) (p2 : p ≠ rt u) : clo f a b p u = clo f a b p (rt u) := by
  unfold clo
  rw [h.rt_ h1 h2, cr_rt pb (off h.right h1) (off h.right h2) p1 p2, cr_rt pa p1 p2 (off ha h1) (off ha h2)]
theorem bool5 {f f' c c' e e' A B P : Bool} (h : (f ^^ f') = (A ^^ B)) (k : (c ^^ c') = (B ^^ P)) (l : (e ^^ e') = (P ^^ A)) : ((f ^^ c) ^^ e) = ((f' ^^ c') ^^ e') := by
  revert h k l
  cases f <;> cases f' <;> cases c <;> cases c' <;> cases e <;> cases e' <;> cases A <;> cases B <;> cases P <;> simp
theorem clo_dn {K : Pt → Prop} {a b p : Pt} {f : Pt → Bool} (h : Way K a b f) (ha : K a) (pa : adj8 p a) (pb : adj8 b p) {u : Pt} (h1 : ¬ K u) (h2 : ¬ K (dn u)) (p1 : p ≠ u) (p2 : p ≠ dn u) : clo f a b p u = clo f a b p (dn u) := by
  unfold clo
  exact bool5 (h.dn_ h1 h2) (cr_dn pb (off h.right h1) (off h.right h2) p1 p2) (cr_dn pa p1 p2 (off ha h1) (off ha h2))
theorem pt_eq {a b : Pt} (h : a.x = b.x) (k : a.y = b.y) : a = b := by cases a; cases b; simp only at h k; rw [h, k]
theorem clo_adj {K : Pt → Prop} {a b p : Pt} {f : Pt → Bool} (h : Way K a b f) (ha : K a) (pa : adj8 p a) (pb : adj8 b p) {u v : Pt} (huv : adj4 u v) (h1 : ¬ K u) (h2 : ¬ K v) (p1 : p ≠ u) (p2 : p ≠ v) : clo f a b p u = clo f a b p v := by
  rcases huv with ⟨e, e1 | e1⟩ | ⟨e, e1 | e1⟩
  · have : u = rt v := pt_eq e1 e
    subst this
    exact (clo_rt h ha pa pb h2 h1 p2 p1).symm
  · have : v = rt u := pt_eq e1 e.symm
    subst this
    exact clo_rt h ha pa pb h1 h2 p1 p2
  · have : u = dn v := pt_eq e e1
    subst this
    exact (clo_dn h ha pa pb h2 h1 p2 p1).symm
  · have : v = dn u := pt_eq e.symm e1
    subst this
    exact clo_dn h ha pa pb h1 h2 p1 p2

/-! At p. -/
def steps : List Pt := [⟨1, 0⟩, ⟨1, 1⟩, ⟨0, 1⟩, ⟨-1, 1⟩, ⟨-1, 0⟩, ⟨-1, -1⟩, ⟨0, -1⟩, ⟨1, -1⟩]
def dir (d : Nat) : Pt := steps.getD d ⟨0, 0⟩
def Pt.add (p q : Pt) : Pt := ⟨p.x + q.x, p.y + q.y⟩
/-- The neighbour of p with a number. -/
def nb (p : Pt) (d : Nat) : Pt := p.add (dir d)
theorem cr_add (p u a b : Pt) : cr (p.add u) (p.add a) (p.add b) = cr u a b := by
  unfold cr Pt.add
  rw [decide_eq_decide]
  simp only
  omega
theorem inR_add (p u a : Pt) : inR (p.add u) (p.add a) = inR u a := by
  unfold inR Pt.add
  rw [decide_eq_decide]
  simp only
  omega
theorem add_zero_ (p : Pt) : p.add ⟨0, 0⟩ = p := by cases p; simp [Pt.add]
/-- How the crossings turn from p to its straight neighbour number d, for an end at t. -/
def tip (d : Nat) (t : Pt) : Bool := match d with
  | 2 => inR ⟨0, 0⟩ t
  | 6 => inR ⟨0, -1⟩ t
  | _ => false
def hd (d i : Nat) : Bool := tip d (dir i) ^^ cr (dir d) (dir i) ⟨0, 0⟩
theorem tip_at {K : Pt → Prop} {p : Pt} {i j : Nat} {f : Pt → Bool} (h : Way K (nb p i) (nb p j) f) (hp : ¬ K p) {d : Nat} (hd : d = 0 ∨ d = 2 ∨ d = 4 ∨ d = 6) (hK : ¬ K (nb p d)) :
    f (nb p d) = (f p ^^ (tip d (dir i) ^^ tip d (dir j))) := by
  rcases hd with rfl | rfl | rfl | rfl
  · have e : nb p 0 = rt p := by simp [nb, dir, steps, Pt.add, rt]
    rw [e] at hK ⊢
    rw [h.rt_ hp hK]
    simp [tip]
  · have e : nb p 2 = dn p := by simp [nb, dir, steps, Pt.add, dn]
    rw [e] at hK ⊢
    have := h.dn_ hp hK
    have e1 := inR_add p ⟨0, 0⟩ (dir i)
    have e2 := inR_add p ⟨0, 0⟩ (dir j)
    rw [add_zero_] at e1 e2
    unfold nb at this
    rw [e1, e2] at this
    simp only [tip]
    rw [← this]
    cases f p <;> cases f (dn p) <;> rfl
  · have e : p = rt (nb p 4) := by apply pt_eq <;> simp [nb, dir, steps, Pt.add, rt]; omega
    have := h.rt_ hK (by rw [← e]; exact hp)
    rw [← e] at this
    rw [this]
    simp [tip]
  · have e : p = dn (nb p 6) := by apply pt_eq <;> simp [nb, dir, steps, Pt.add, dn]; omega
    have := h.dn_ hK (by rw [← e]; exact hp)
    rw [← e] at this
    have e1 := inR_add p ⟨0, -1⟩ (dir i)
    have e2 := inR_add p ⟨0, -1⟩ (dir j)
    have e6 : nb p 6 = p.add ⟨0, -1⟩ := rfl
    rw [e6] at this
    unfold nb at this
    rw [e1, e2] at this
    rw [e6]
    simp only [tip]
    rw [← this]
    cases f p <;> cases f (p.add ⟨0, -1⟩) <;> rfl
theorem bool6 {F P Ti Tj Ci Cj : Bool} (h : F = (P ^^ (Ti ^^ Tj))) : ((F ^^ Cj) ^^ Ci) = (P ^^ ((Ti ^^ Ci) ^^ (Tj ^^ Cj))) := by
  subst h
  cases P <;> cases Ti <;> cases Tj <;> cases Ci <;> cases Cj <;> rfl
theorem clo_at {K : Pt → Prop} {p : Pt} {i j : Nat} {f : Pt → Bool} (h : Way K (nb p i) (nb p j) f) (hp : ¬ K p) {d : Nat} (hd' : d = 0 ∨ d = 2 ∨ d = 4 ∨ d = 6) (hK : ¬ K (nb p d)) :
    clo f (nb p i) (nb p j) p (nb p d) = (f p ^^ (hd d i ^^ hd d j)) := by
  have e1 : cr (nb p d) (nb p j) p = cr (dir d) (dir j) ⟨0, 0⟩ := by
    have := cr_add p (dir d) (dir j) ⟨0, 0⟩
    rwa [add_zero_] at this
  have e2 : cr (nb p d) p (nb p i) = cr (dir d) (dir i) ⟨0, 0⟩ := by
    rw [cr_comm]
    have := cr_add p (dir d) (dir i) ⟨0, 0⟩
    rwa [add_zero_] at this
  unfold clo
  rw [e1, e2]
  exact bool6 (tip_at h hp hd' hK)
/-- In the round of the neighbours: i, d, j, e lie in this order. -/
def crossed (i d j e : Nat) : Bool := (List.range 8).any fun s => decide ((i + s) % 8 < (d + s) % 8 ∧ (d + s) % 8 < (j + s) % 8 ∧ (j + s) % 8 < (e + s) % 8)
def Even4 (d : Nat) : Prop := d = 0 ∨ d = 2 ∨ d = 4 ∨ d = 6
theorem odd_at : ∀ i : Fin 8, ∀ j : Fin 8, ∀ d : Fin 8, ∀ e : Fin 8, d.val % 2 = 0 → e.val % 2 = 0 → crossed i d j e = true → ((hd d i ^^ hd d j) ^^ (hd e i ^^ hd e j)) = true := by decide +kernel
theorem adj_nb (p : Pt) {i : Nat} (hi : i < 8) : adj8 p (nb p i) ∧ adj8 (nb p i) p := by
  have : ∀ i : Fin 8, (dir i).x ≤ 1 ∧ -1 ≤ (dir i).x ∧ (dir i).y ≤ 1 ∧ -1 ≤ (dir i).y ∧ ((dir i).x ≠ 0 ∨ (dir i).y ≠ 0) := by decide
  have := this ⟨i, hi⟩
  simp only at this
  unfold adj8 nb Pt.add
  simp only
  generalize dir i = q at *
  refine ⟨⟨fun e => ?_, ?_⟩, ⟨fun e => ?_, ?_⟩⟩
  · have e1 := congrArg Pt.x e; have e2 := congrArg Pt.y e; simp only at e1 e2; omega
  · omega
  · have e1 := congrArg Pt.x e; have e2 := congrArg Pt.y e; simp only at e1 e2; omega
  · omega
/-- A way through straight neighbours. -/
inductive Way4 (W : Pt → Prop) : Pt → Pt → Prop
  | refl {a : Pt} : W a → Way4 W a a
  | step {a b c : Pt} : Way4 W a b → adj4 b c → W c → Way4 W a c
theorem Way4.right {W : Pt → Prop} {a b : Pt} (h : Way4 W a b) : W b := by cases h <;> assumption
/-- Two ways do not cross: not both are neighbours i and j of p connected through K, and the straight neighbours d and e, between them, through W, where p is in neither. -/
theorem jordan {K W : Pt → Prop} {p : Pt} {i j d e : Nat} (hi : i < 8) (hj : j < 8) (hd : d < 8) (he : e < 8) (d2 : d % 2 = 0) (e2 : e % 2 = 0) (hc : crossed i d j e = true)
    (hp : ¬ K p) (hW : ∀ u, W u → ¬ K u ∧ u ≠ p) {f : Pt → Bool} (h : Way K (nb p i) (nb p j) f) (hi' : K (nb p i)) (k : Way4 W (nb p d) (nb p e)) (hd' : W (nb p d)) : False := by
  have inv : clo f (nb p i) (nb p j) p (nb p d) = clo f (nb p i) (nb p j) p (nb p e) := by
    generalize nb p e = q at k
    induction k with
    | refl _ => rfl
    | step k a c ih =>
      rw [ih]
      have h1 := hW _ k.right
      have h2 := hW _ c
      exact clo_adj h hi' (adj_nb p hi).1 (adj_nb p hj).2 a h1.1 h2.1 (Ne.symm h1.2) (Ne.symm h2.2)
  have even : ∀ d, d < 8 → d % 2 = 0 → d = 0 ∨ d = 2 ∨ d = 4 ∨ d = 6 := by omega
  rw [clo_at h hp (even d hd d2) (hW _ hd').1, clo_at h hp (even e he e2) (hW _ k.right).1] at inv
  have := odd_at ⟨i, hi⟩ ⟨j, hj⟩ ⟨d, hd⟩ ⟨e, he⟩ d2 e2 hc
  simp only at this
  revert inv this
  cases f p <;> cases Go.Proofs.Ytjelnbfnoliocaa.hd d i <;> cases Go.Proofs.Ytjelnbfnoliocaa.hd d j <;> cases Go.Proofs.Ytjelnbfnoliocaa.hd e i <;> cases Go.Proofs.Ytjelnbfnoliocaa.hd e j <;> simp
end Go.Proofs.Ytjelnbfnoliocaa
