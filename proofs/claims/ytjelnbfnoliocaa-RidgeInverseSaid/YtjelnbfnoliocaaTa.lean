/- Ridge: the numbers of parts as the program counts them are those of the plain mathematics; what taking one pixel does. Plain. Ridge: what taking one pixel does to the numbers of parts; thinning keeps them. Plain. No condition. -/
import Derived.Test.YtjelnbfnoliocaaRa
import Derived.Test.YtjelnbfnoliocaaPt
import Derived.Test.YtjelnbfnoliocaaPn
namespace Go.Proofs.Ytjelnbfnoliocaa

/-- A trace as a set of places. -/
def picB (W H : Int) (l : List Bool) (p : Pt) : Bool := isF W H l p.x p.y
theorem picB_inn (W H : Nat) (l : List Bool) : Inn W H (picB W H l) := by
  intro q hq
  unfold picB isF inB at hq
  simp only [Bool.and_eq_true, decide_eq_true_eq] at hq
  rw [ing_iff]
  omega
theorem kpr_kin (W H : Nat) (l : List Bool) (v : Bool) (i : Nat) : KPr W H l v i ↔ kin (W + 2) (H + 2) (picB W H l) v i := by
  have e : ((W : Int) + 2).toNat = W + 2 := by omega
  have e2 : ((W : Int) + 2) * ((H : Int) + 2) = (((W + 2) * (H + 2) : Nat) : Int) := by push_cast; rfl
  unfold KPr kin picB cxr cyr ptOf
  rw [e, e2]
  constructor
  · rintro ⟨h1, h2⟩
    exact ⟨by omega, h2⟩
  · rintro ⟨h1, h2⟩
    exact ⟨by omega, h2⟩
theorem dxy : dx 0 = 1 ∧ dy 0 = 0 ∧ dx 1 = 1 ∧ dy 1 = 1 ∧ dx 2 = 0 ∧ dy 2 = 1 ∧ dx 3 = -1 ∧ dy 3 = 1 ∧ dx 4 = -1 ∧ dy 4 = 0 ∧ dx 5 = -1 ∧ dy 5 = -1 ∧ dx 6 = 0 ∧ dy 6 = -1 ∧ dx 7 = 1 ∧ dy 7 = -1 := by decide
theorem cx_pt (W : Nat) (i : Nat) : cxr W i = (ptOf (W + 2) i).x + 1 ∧ cyr W i = (ptOf (W + 2) i).y + 1 := by
  have e : ((W : Int) + 2).toNat = W + 2 := by omega
  unfold cxr cyr ptOf
  rw [e]
  simp only
  constructor <;> omega
theorem apr_a8 (W : Nat) (i j : Nat) : APr W false i j ↔ A8 (W + 2) i j := by
  obtain ⟨a1, a2, a3, a4, a5, a6, a7, a8, a9, a10, a11, a12, a13, a14, a15, a16⟩ := dxy
  obtain ⟨x1, y1⟩ := cx_pt W i
  obtain ⟨x2, y2⟩ := cx_pt W j
  unfold APr A8
  rw [x1, y1, x2, y2]
  generalize ptOf (W + 2) i = p
  generalize ptOf (W + 2) j = q
  unfold adj8
  constructor
  · rintro ⟨d, hd, _, h1, h2⟩
    obtain rfl | rfl | rfl | rfl | rfl | rfl | rfl | rfl : d = 0 ∨ d = 1 ∨ d = 2 ∨ d = 3 ∨ d = 4 ∨ d = 5 ∨ d = 6 ∨ d = 7 := by omega
    all_goals exact ⟨fun e => by subst e; omega, by omega⟩
  · rintro ⟨h0, h1⟩
    have h0 := ne_pt h0
    have hd : ((q.x = p.x + 1 ∧ q.y = p.y) ∨ (q.x = p.x + 1 ∧ q.y = p.y + 1) ∨ (q.x = p.x ∧ q.y = p.y + 1) ∨ (q.x = p.x - 1 ∧ q.y = p.y + 1)) ∨ ((q.x = p.x - 1 ∧ q.y = p.y) ∨ (q.x = p.x - 1 ∧ q.y = p.y - 1) ∨ (q.x = p.x ∧ q.y = p.y - 1) ∨ (q.x = p.x + 1 ∧ q.y = p.y - 1)) := by omega
    rcases hd with (h | h | h | h) | (h | h | h | h)
    · exact ⟨0, by omega, rfl, by omega, by omega⟩
    · exact ⟨1, by omega, rfl, by omega, by omega⟩
    · exact ⟨2, by omega, rfl, by omega, by omega⟩
    · exact ⟨3, by omega, rfl, by omega, by omega⟩
    · exact ⟨4, by omega, rfl, by omega, by omega⟩
    · exact ⟨5, by omega, rfl, by omega, by omega⟩
    · exact ⟨6, by omega, rfl, by omega, by omega⟩
    · exact ⟨7, by omega, rfl, by omega, by omega⟩
theorem apr_a4 (W : Nat) (i j : Nat) : APr W true i j ↔ A4 (W + 2) i j := by
  obtain ⟨a1, a2, a3, a4, a5, a6, a7, a8, a9, a10, a11, a12, a13, a14, a15, a16⟩ := dxy
  obtain ⟨x1, y1⟩ := cx_pt W i
  obtain ⟨x2, y2⟩ := cx_pt W j
  unfold APr A4
  rw [x1, y1, x2, y2]
  generalize ptOf (W + 2) i = p
  generalize ptOf (W + 2) j = q
  unfold adj4
  constructor
  · rintro ⟨d, hd, h0, h1, h2⟩
    have h0 : d % 2 = 0 := by simpa using h0
    obtain rfl | rfl | rfl | rfl : d = 0 ∨ d = 2 ∨ d = 4 ∨ d = 6 := by omega
    all_goals omega
  · intro h
    have hd : (q.x = p.x + 1 ∧ q.y = p.y) ∨ (q.x = p.x ∧ q.y = p.y + 1) ∨ (q.x = p.x - 1 ∧ q.y = p.y) ∨ (q.x = p.x ∧ q.y = p.y - 1) := by omega
    rcases hd with h | h | h | h
    · exact ⟨0, by omega, rfl, by omega, by omega⟩
    · exact ⟨2, by omega, rfl, by omega, by omega⟩
    · exact ⟨4, by omega, rfl, by omega, by omega⟩
    · exact ⟨6, by omega, rfl, by omega, by omega⟩
theorem ridgesF_N (W H : Nat) (l : List Bool) : ridgesF W H l = (ridgesN (W + 2) (H + 2) (picB W H l) : Nat) := by
  have e : (((W : Int) + 2) * ((H : Int) + 2)).toNat = (W + 2) * (H + 2) := by
    have : ((W : Int) + 2) * ((H : Int) + 2) = (((W + 2) * (H + 2) : Nat) : Int) := by push_cast; rfl
    omega
  have h1 : KPr (W : Int) (H : Int) l true = kin (W + 2) (H + 2) (picB W H l) true := funext fun i => propext (kpr_kin W H l true i)
  have h2 : APr (W : Int) false = A8 (W + 2) := funext fun i => funext fun j => propext (apr_a8 W i j)
  unfold ridgesF compsF ridgesN
  rw [e, h1, h2]
theorem lakesF_N (W H : Nat) (l : List Bool) : lakesF W H l = (holesN (W + 2) (H + 2) (picB W H l) : Nat) - 1 := by
  have e : (((W : Int) + 2) * ((H : Int) + 2)).toNat = (W + 2) * (H + 2) := by
    have : ((W : Int) + 2) * ((H : Int) + 2) = (((W + 2) * (H + 2) : Nat) : Int) := by push_cast; rfl
    omega
  have h1 : KPr (W : Int) (H : Int) l false = kin (W + 2) (H + 2) (picB W H l) false := funext fun i => propext (kpr_kin W H l false i)
  have h2 : APr (W : Int) true = A4 (W + 2) := funext fun i => funext fun j => propext (apr_a4 W i j)
  unfold lakesF compsF holesN
  rw [e, h1, h2]
/-- Euler's formula, as the program counts. -/
theorem eulerF (W H : Nat) (l : List Bool) (hW : 0 < W) (hH : 0 < H) : 4 * (ridgesF W H l - lakesF W H l) = squares (W + 2) (H + 2) (picB W H l) := by
  rw [ridgesF_N, lakesF_N, ← euler hW hH (picB_inn W H l)]

theorem turnsN_R (r : Nat → Bool) : turnsN r 4 = turnsR r := by
  have key : ∀ (a b c d : Bool), (((0 + if a then 1 else 0) + if b then 1 else 0) + if c then 1 else 0) + (if d then 1 else 0) = ([a, b, c, d].countP id : Nat) := by decide
  have := key (!r 0 && (r 1 || r 2)) (!r 2 && (r 3 || r 4)) (!r 4 && (r 5 || r 6)) (!r 6 && (r 7 || r 0))
  simp only [turnsN, turnsR, List.countP_cons, List.countP_nil] at this ⊢
  simpa using this
/-- Nothing changes but one pixel. -/
theorem grow_set {W H i : Nat} {l : List Bool} (hl : l.length = W * H) (hi : i < l.length) (hb : l.getD i false = true) :
    Grow (W + 2) (H + 2) (picB W H (l.set i false)) (picB W H l) (pix W i) := by
  have hW : 0 < W := by
    rcases Nat.eq_zero_or_pos W with h | h
    · subst h; simp at hl; subst hl; simp at hi
    · exact h
  obtain ⟨p1, p2, p3, p4⟩ := pix_in (H := H) hW (by rw [← hl]; exact hi)
  have hd := Nat.div_add_mod i W
  have num : ((i / W : Nat) : Int) * (W : Int) + ((i % W : Nat) : Int) = i := by
    rw [← Int.natCast_mul, ← Int.natCast_add, Nat.mul_comm]
    exact congrArg _ hd
  have inb : inB 0 ((W : Int) - 1) (pix W i).x = true ∧ inB 0 ((H : Int) - 1) (pix W i).y = true := by
    unfold inB
    simp only [decide_eq_true_eq]
    omega
  refine ⟨by omega, ?_, ?_, fun q hq => ?_⟩
  · unfold picB isF
    rw [inb.1, inb.2]
    show (true && true && (l.set i false).getD ((((i / W : Nat) : Int) * W + ((i % W : Nat) : Int)).toNat) false) = false
    rw [num]
    simp [List.getD_eq_getElem?_getD, hi]
  · unfold picB isF
    rw [inb.1, inb.2]
    show (true && true && l.getD ((((i / W : Nat) : Int) * W + ((i % W : Nat) : Int)).toNat) false) = true
    rw [num]
    simpa using hb
  · unfold picB isF
    by_cases hin : inB 0 ((W : Int) - 1) q.x = true ∧ inB 0 ((H : Int) - 1) q.y = true
    · rw [hin.1, hin.2]
      have hx : 0 ≤ q.x ∧ q.x ≤ (W : Int) - 1 := by simpa [inB] using hin.1
      have hy : 0 ≤ q.y ∧ q.y ≤ (H : Int) - 1 := by simpa [inB] using hin.2
      have hne : (q.y * W + q.x).toNat ≠ i := by
        intro e
        apply hq
        obtain ⟨X, hX⟩ : ∃ X : Nat, q.x = X := ⟨q.x.toNat, by omega⟩
        obtain ⟨Y, hY⟩ : ∃ Y : Nat, q.y = Y := ⟨q.y.toNat, by omega⟩
        have e2 : Y * W + X = i := by
          rw [hX, hY, ← Int.natCast_mul, ← Int.natCast_add, Int.toNat_natCast] at e
          exact e
        have hXW : X < W := by omega
        have m : i % W = X := by rw [← e2, Nat.mul_comm, Nat.mul_add_mod]; exact Nat.mod_eq_of_lt hXW
        have d : i / W = Y := by rw [← e2, Nat.mul_comm, Nat.mul_add_div hW, Nat.div_eq_of_lt hXW, Nat.add_zero]
        exact pt_eq (by unfold pix; rw [m, hX]) (by unfold pix; rw [d, hY])
      simp only [List.getD_eq_getElem?_getD]
      rw [List.getElem?_set_ne (Ne.symm hne)]
    · have : (inB 0 ((W : Int) - 1) q.x && inB 0 ((H : Int) - 1) q.y) = false := by
        cases h1 : inB 0 ((W : Int) - 1) q.x <;> cases h2 : inB 0 ((H : Int) - 1) q.y <;> simp_all
      rw [this]
      rfl
/-- The turns of a pixel don't ask for the pixel itself. -/
theorem rng_grow {w h : Nat} {B B' : Pt → Bool} {p : Pt} (g : Grow w h B B' p) (d : Nat) : rng B' p d = rng B p d := by
  unfold rng
  exact g.rest _ (nb_ne p (Nat.mod_lt _ (by decide)))
end Go.Proofs.Ytjelnbfnoliocaa

namespace Go.Proofs.Ytjelnbfnoliocaa

/-- Along the round of neighbours, by steps from black to black. -/
def cwB (r : Nat → Bool) : Nat → Nat → Nat → Bool
  | 0, i, j => i == j
  | n + 1, i, j => i == j || (if r ((i + 1) % 8) then cwB r n ((i + 1) % 8) j else if i % 2 == 0 && r ((i + 2) % 8) then cwB r n ((i + 2) % 8) j else false)
def cwAll (r : Nat → Bool) : Bool := (List.range 8).all fun i => (List.range 8).all fun j => !(r i && r j) || cwB r 8 i j || cwB r 8 j i
theorem patCw : ∀ a b c d e f g k : Bool, turnsR (r8 a b c d e f g k) ≤ 1 → cwAll (r8 a b c d e f g k) = true := by decide +kernel
theorem patHas : ∀ a b c d e f g k : Bool, turnsR (r8 a b c d e f g k) = 1 → has8 (r8 a b c d e f g k) = true := by decide +kernel
theorem cwB_congr {r s : Nat → Bool} (h : ∀ i, i < 8 → r i = s i) : ∀ n i j, cwB r n i j = cwB s n i j
  | 0, _, _ => rfl
  | n + 1, i, j => by
    rw [cwB, cwB, h _ (Nat.mod_lt _ (by decide)), h ((i + 2) % 8) (Nat.mod_lt _ (by decide)), cwB_congr h n, cwB_congr h n]
theorem adj_ring (p : Pt) : ∀ i, i < 8 → adj8 (nb p i) (nb p ((i + 1) % 8)) ∧ (i % 2 = 0 → adj8 (nb p i) (nb p ((i + 2) % 8))) := by
  intro i hi
  have key : ∀ a b : Pt, adj8 a b → adj8 (p.add a) (p.add b) := by
    intro a b h
    obtain ⟨h0, h1⟩ := h
    have h0 := ne_pt h0
    refine ⟨fun e => ?_, by unfold Pt.add; simp only; omega⟩
    have e1 := congrArg Pt.x e
    have e2 := congrArg Pt.y e
    unfold Pt.add at e1 e2
    simp only at e1 e2
    omega
  have hne : ∀ {a b : Pt}, (a.x ≠ b.x ∨ a.y ≠ b.y) → a ≠ b := fun h e => by subst e; omega
  obtain rfl | rfl | rfl | rfl | rfl | rfl | rfl | rfl : i = 0 ∨ i = 1 ∨ i = 2 ∨ i = 3 ∨ i = 4 ∨ i = 5 ∨ i = 6 ∨ i = 7 := by omega
  all_goals exact ⟨key _ _ ⟨hne (by decide), by decide⟩, fun h => by first | (exact key _ _ ⟨hne (by decide), by decide⟩) | omega⟩
section
variable {w h : Nat} {B B' : Pt → Bool} {p : Pt}
theorem Grow.conn (g : Grow w h B B' p) : ∀ n i j, i < 8 → rng B p i = true → cwB (rng B p) n i j = true → Conn (kin w h B true) (A8 w) (noOf w (nb p i)) (noOf w (nb p j)) := by
  have node : ∀ i, i < 8 → rng B p i = true → kin w h B true (noOf w (nb p i)) := fun i hi hr => (g.nb8 hi ((rng_at hi).symm.trans hr)).1
  have link : ∀ i j, i < 8 → j < 8 → adj8 (nb p i) (nb p j) → A8 w (noOf w (nb p i)) (noOf w (nb p j)) := fun i j hi hj ha => by
    unfold A8
    rw [(ptOf_noOf (g.nbIn hi)).1, (ptOf_noOf (g.nbIn hj)).1]
    exact ha
  intro n
  induction n with
  | zero =>
    intro i j hi hr hc
    have : i = j := by simpa [cwB] using hc
    subst this
    exact .refl (node i hi hr)
  | succ n ih =>
    intro i j hi hr hc
    rw [cwB] at hc
    simp only [Bool.or_eq_true, beq_iff_eq] at hc
    rcases hc with rfl | hc
    · exact .refl (node i hi hr)
    · obtain ⟨a1, a2⟩ := adj_ring p i hi
      have l1 : (i + 1) % 8 < 8 := Nat.mod_lt _ (by decide)
      have l2 : (i + 2) % 8 < 8 := Nat.mod_lt _ (by decide)
      by_cases h1 : rng B p ((i + 1) % 8) = true
      · rw [if_pos h1] at hc
        exact ((Conn.refl (node i hi hr)).step (link _ _ hi l1 a1) (node _ l1 h1)).trans (ih _ _ l1 h1 hc)
      · rw [if_neg h1] at hc
        by_cases h2 : (i % 2 == 0 && rng B p ((i + 2) % 8)) = true
        · rw [if_pos h2] at hc
          simp only [Bool.and_eq_true, beq_iff_eq] at h2
          exact ((Conn.refl (node i hi hr)).step (link _ _ hi l2 (a2 h2.1)) (node _ l2 h2.2)).trans (ih _ _ l2 h2.2 hc)
        · rw [if_neg h2] at hc
          cases hc
theorem adj8_is {p q : Pt} (h : adj8 q p) : ∃ d, d < 8 ∧ q = nb p d := by
  obtain ⟨h0, h1⟩ := h
  have h0 := ne_pt h0
  have hd : ((q.x = p.x + 1 ∧ q.y = p.y) ∨ (q.x = p.x + 1 ∧ q.y = p.y + 1) ∨ (q.x = p.x ∧ q.y = p.y + 1) ∨ (q.x = p.x - 1 ∧ q.y = p.y + 1)) ∨ ((q.x = p.x - 1 ∧ q.y = p.y) ∨ (q.x = p.x - 1 ∧ q.y = p.y - 1) ∨ (q.x = p.x ∧ q.y = p.y - 1) ∨ (q.x = p.x + 1 ∧ q.y = p.y - 1)) := by omega
  have key : ∀ d : Nat, q.x = p.x + (dir d).x → q.y = p.y + (dir d).y → q = nb p d := fun d e1 e2 => pt_eq e1 e2
  rcases hd with (h | h | h | h) | (h | h | h | h)
  · exact ⟨0, by omega, key 0 (by show _ = _ + (1 : Int); omega) (by show _ = _ + (0 : Int); omega)⟩
  · exact ⟨1, by omega, key 1 (by show _ = _ + (1 : Int); omega) (by show _ = _ + (1 : Int); omega)⟩
  · exact ⟨2, by omega, key 2 (by show _ = _ + (0 : Int); omega) (by show _ = _ + (1 : Int); omega)⟩
  · exact ⟨3, by omega, key 3 (by show _ = _ + (-1 : Int); omega) (by show _ = _ + (1 : Int); omega)⟩
  · exact ⟨4, by omega, key 4 (by show _ = _ + (-1 : Int); omega) (by show _ = _ + (0 : Int); omega)⟩
  · exact ⟨5, by omega, key 5 (by show _ = _ + (-1 : Int); omega) (by show _ = _ + (-1 : Int); omega)⟩
  · exact ⟨6, by omega, key 6 (by show _ = _ + (0 : Int); omega) (by show _ = _ + (-1 : Int); omega)⟩
  · exact ⟨7, by omega, key 7 (by show _ = _ + (1 : Int); omega) (by show _ = _ + (-1 : Int); omega)⟩
/-- A ridge neighbour, by its number in the round. -/
theorem Grow.is_nb (g : Grow w h B B' p) {a : Nat} (ka : kin w h B true a) (ha : A8 w a (noOf w p)) : ∃ d, d < 8 ∧ a = noOf w (nb p d) ∧ rng B p d = true := by
  unfold A8 at ha
  rw [(ptOf_noOf g.inB).1] at ha
  obtain ⟨d, hd, e⟩ := adj8_is ha
  refine ⟨d, hd, by rw [← e, noOf_ptOf], ?_⟩
  rw [rng_at hd, ← e]
  exact ka.2
theorem Grow.hall (g : Grow w h B B' p) (ht : turnsR (rng B p) ≤ 1) : ∀ a b, kin w h B true a → A8 w a (noOf w p) → kin w h B true b → A8 w b (noOf w p) → Conn (kin w h B true) (A8 w) a b := by
  intro a b ka ha kb hb
  obtain ⟨i, hi, rfl, ri⟩ := g.is_nb ka ha
  obtain ⟨j, hj, rfl, rj⟩ := g.is_nb kb hb
  rw [turns_r8] at ht
  have hc := patCw _ _ _ _ _ _ _ _ ht
  simp only [cwAll, List.all_eq_true, List.mem_range] at hc
  have h1 := hc i hi j hj
  rw [← rng_r8 B p hi, ← rng_r8 B p hj, ri, rj] at h1
  have hcg : ∀ k, k < 8 → rng B p k = r8 (rng B p 0) (rng B p 1) (rng B p 2) (rng B p 3) (rng B p 4) (rng B p 5) (rng B p 6) (rng B p 7) k := fun k hk => rng_r8 B p hk
  rw [← cwB_congr hcg, ← cwB_congr hcg] at h1
  simp only [Bool.and_self, Bool.not_true, Bool.false_or, Bool.or_eq_true] at h1
  rcases h1 with h1 | h1
  · exact g.conn 8 i j hi ri h1
  · exact (g.conn 8 j i hj rj h1).symm (fun _ _ h => adj8_symm h)
theorem Grow.same8 (g : Grow w h B B' p) (ht : turnsR (rng B p) ≤ 1) (h8 : has8 (rng B p) = true) : ridgesN w h B' = ridgesN w h B := by
  obtain ⟨d, hd, hb⟩ := of_has8 h8
  obtain ⟨k1, k2⟩ := g.nb8 hd hb
  exact g.more8.same (g.hall ht) k1 k2
theorem Grow.alone8 (g : Grow w h B B' p) (h8 : has8 (rng B p) = false) : ridgesN w h B' = ridgesN w h B + 1 :=
  g.more8.alone fun a ka ha => by
    obtain ⟨d, hd, _, hr⟩ := g.is_nb ka ha
    have : has8 (rng B p) = true := by
      unfold has8
      exact List.any_eq_true.2 ⟨d, List.mem_range.2 hd, hr⟩
    rw [h8] at this
    cases this
end

/-- The round of the pixel with a number. -/
theorem nbI_rng (W H : Nat) (l : List Bool) (i d : Nat) : nbI W H l i d = rng (picB W H l) (pix W i) d := by
  unfold nbI nbF rng picB nb Pt.add dx dy plc pix
  simp only [Int.natCast_emod, Int.natCast_ediv]
theorem turns_I (W H : Nat) (l : List Bool) (i : Nat) : turnsN (nbI W H l i) 4 = turnsR (rng (picB W H l) (pix W i)) := by
  rw [← turnsN_R]
  exact turnsN_congr (fun d => nbI_rng W H l i d) 4
theorem cntN_zero {r : Nat → Bool} : cntN r 8 = 0 ↔ has8 r = false := by
  have key : ∀ a b c d e f g k : Bool, ((((((((0 + (if a then 1 else 0)) + (if b then 1 else 0)) + (if c then 1 else 0)) + (if d then 1 else 0)) + (if e then 1 else 0)) + (if f then 1 else 0)) + (if g then 1 else 0)) + (if k then 1 else 0) = 0) ↔ ([a, b, c, d, e, f, g, k].any id = false) := by decide
  exact key (r 0) (r 1) (r 2) (r 3) (r 4) (r 5) (r 6) (r 7)
theorem cntN_congr {r s : Nat → Bool} (h : ∀ d, r d = s d) (j : Nat) : cntN r j = cntN s j := by
  rw [show r = s from funext h]
/-- Taking one ridge pixel. -/
theorem take_F {W H i : Nat} {l : List Bool} (hl : l.length = W * H) (hi : i < l.length) (hb : l.getD i false = true) :
    ((ridgesF W H l - lakesF W H l) - (ridgesF W H (l.set i false) - lakesF W H (l.set i false)) = 1 - (turnsN (nbI W H l i) 4 : Int)) ∧
    (turnsN (nbI W H l i) 4 ≤ 1 → cntN (nbI W H l i) 8 ≠ 0 → ridgesF W H (l.set i false) = ridgesF W H l) ∧
    (cntN (nbI W H l i) 8 = 0 → ridgesF W H l = ridgesF W H (l.set i false) + 1 ∧ turnsN (nbI W H l i) 4 = 0) ∧
    (turnsN (nbI W H l i) 4 = 1 → cntN (nbI W H l i) 8 ≠ 0) := by
  have g := grow_set hl hi hb
  have hW : 0 < W ∧ 0 < H := by
    have : 0 < W * H := by omega
    exact ⟨Nat.pos_of_mul_pos_right this, Nat.pos_of_mul_pos_left this⟩
  have er : rng (picB W H l) (pix W i) = rng (picB W H (l.set i false)) (pix W i) := funext fun d => rng_grow g d
  have ht : turnsN (nbI W H l i) 4 = turnsR (rng (picB W H (l.set i false)) (pix W i)) := by rw [turns_I, er]
  have hc : cntN (nbI W H l i) 8 = 0 ↔ has8 (rng (picB W H (l.set i false)) (pix W i)) = false := by
    rw [cntN_congr (fun d => nbI_rng W H l i d), er, cntN_zero]
  have hs := g.sqs
  have e1 := eulerF W H l hW.1 hW.2
  have e2 := eulerF W H (l.set i false) hW.1 hW.2
  rw [ht]
  refine ⟨by omega, fun h1 h2 => ?_, fun h1 => ⟨?_, ?_⟩, fun h1 => ?_⟩
  · rw [ridgesF_N, ridgesF_N, g.same8 h1 (by rw [Ne, hc] at h2; simpa using h2)]
  · rw [ridgesF_N, ridgesF_N, g.alone8 (hc.1 h1)]
    push_cast
    rfl
  · have h2 := hc.1 h1
    have key : ∀ a b c d e f g k : Bool, has8 (r8 a b c d e f g k) = false → turnsR (r8 a b c d e f g k) = 0 := by decide +kernel
    rw [turns_r8]
    rw [has8_r8] at h2
    exact key _ _ _ _ _ _ _ _ h2
  · rw [Ne, hc, has8_r8]
    rw [turns_r8] at h1
    rw [patHas _ _ _ _ _ _ _ _ h1]
    simp
/-- The numbers of parts stay. -/
def SameParts (W H : Int) (l l' : List Bool) : Prop := ridgesF W H l' = ridgesF W H l ∧ lakesF W H l' = lakesF W H l
theorem SameParts.trans {W H : Int} {a b c : List Bool} (h : SameParts W H a b) (k : SameParts W H b c) : SameParts W H a c := ⟨k.1.trans h.1, k.2.trans h.2⟩
theorem pass_parts {W H : Nat} {l : List Bool} (hl : l.length = W * H) (d : Nat) : ∀ k, k ≤ l.length → SameParts W H l (passN W H l d k)
  | 0, _ => ⟨rfl, rfl⟩
  | k + 1, hk => by
    have ih := pass_parts hl d k (by omega)
    refine ih.trans ?_
    rw [passN]
    unfold takeIf
    by_cases hb : (wantB W H l d k && simpleB W H (passN W H l d k) k) = true
    · rw [if_pos hb]
      simp only [Bool.and_eq_true, wantB, simpleB, beq_iff_eq] at hb
      obtain ⟨⟨h1, _⟩, h2, _⟩ := hb
      have hlen : (passN W H l d k).length = W * H := by rw [passN_len, hl]
      obtain ⟨t1, t2, _, t4⟩ := take_F (W := W) (H := H) (i := k) hlen (by rw [passN_len]; omega) (by rw [passN_at (Nat.le_refl _)]; exact h1)
      have e := t2 (by omega) (t4 h2)
      rw [h2] at t1
      exact ⟨e, by omega⟩
    · rw [if_neg hb]
      exact ⟨rfl, rfl⟩
theorem passF_parts {W H : Nat} {l : List Bool} (hl : l.length = W * H) (d : Nat) : SameParts W H l (passF W H l d) := pass_parts hl d _ (Nat.le_refl _)
theorem pass4_parts {W H : Nat} {l : List Bool} (hl : l.length = W * H) : SameParts W H l (pass4 W H l) := by
  unfold pass4
  exact (((passF_parts hl 6).trans (passF_parts (by rw [passF_len, hl]) 2)).trans (passF_parts (by rw [passF_len, passF_len, hl]) 0)).trans (passF_parts (by rw [passF_len, passF_len, passF_len, hl]) 4)
/-- Thinning keeps the numbers of ridges and of lakes. -/
theorem thinN_parts {W H : Nat} : ∀ (k : Nat) (l : List Bool), l.length = W * H → SameParts W H l (thinN W H k l)
  | 0, _, _ => ⟨rfl, rfl⟩
  | k + 1, l, hl => by
    rw [thinN]
    split
    · exact ⟨rfl, rfl⟩
    · exact (pass4_parts hl).trans (thinN_parts k _ (by rw [pass4_len, hl]))
theorem thinF_parts {W H : Nat} {l : List Bool} (hl : l.length = W * H) : SameParts W H l (thinF W H l) := thinN_parts _ l hl
end Go.Proofs.Ytjelnbfnoliocaa
