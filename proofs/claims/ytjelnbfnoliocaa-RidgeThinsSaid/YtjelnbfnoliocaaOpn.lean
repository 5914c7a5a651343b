/- How arguments are opened, second part: slices of numbers and of bools, their size in bytes; no law in sight. -/
import Derived.Test.YtjelnbfnoliocaaOpen
import Derived.SizedLaws
namespace Go.Proofs.Ytjelnbfnoliocaa
open Go.ChangeShapes Go.WideShapes Go.ChangeAt Go.RowKit Go.Deep Go.Joins

theorem flat_one {α : Type} (f : α → Value) (l : List α) : flat (fun x => [f x]) l = l.map f := by
  induction l with
  | nil => rfl
  | cons x l ih => rw [flat_cons, ih]; rfl
section
variable {H : Type} {enc : TypeId × Value → H} {P : Program} {w : World} {base : Nat} {spare : Nat → Bool} {held : Bool}
/-- A slice of numbers of one kind; with its datum's size. -/
theorem open_nums {t e : TypeId} {k : IntKind} {fuel : Nat} {v : Value} {x : DataW H × List MemPlace} (ht : P.underlying t = some (.slice e)) (he : P.underlying e = some (.int k)) (hC : P.cellsOf e = 1)
    (h : DataW.trod enc P w base (fun _ => true) held fuel t [v] = some x) :
    ∃ (A : Option Addr) (l : List Int) (n c : Nat), v = .slice A n c ∧ n = l.length ∧ Rd w A (l.map (Value.int k)) ∧ (∀ y ∈ l, (Lit.int k y).wf = true) ∧ n ≤ c ∧ (x.1 = .nil ∧ c = 0 ∨ ∃ el sp, x.1 = .slice el sp ∧ el.length + sp.length = c) := by
  rcases open_slice ht h with ⟨h0, h1⟩ | ⟨a, len, cap, m, n, D, Pl, hcs, hb, hl, hm, hmm, hx, hi⟩
  · refine ⟨none, [], 0, 0, by simpa using h0, rfl, .inl rfl, fun y hy => by simp at hy, Nat.le_refl _, .inl ⟨by rw [h1], rfl⟩⟩
  · have hmc : m = cap := by simpa using hmm
    obtain ⟨l, hll, hr, hq⟩ := rd_of_cells (Q := fun y : Int => (Lit.int k y).wf = true) (fun y => [Value.int k y]) 1 (fun _ => rfl) (by omega) (w := w) (a := a) (n := len) (fun i hil => by
      obtain ⟨cs', hc, ht'⟩ := hi i (by omega)
      rw [hC] at hc
      obtain ⟨y, e0, _, wy⟩ := DataW.trod_int he ht'
      obtain ⟨_, hcl, hat⟩ := World.cells?_some hc
      refine ⟨y, wy, fun j u hu => ?_⟩
      rcases j with _ | j
      · simp at hu
        subst hu
        have := hat 0 (by omega)
        rw [e0] at this
        rw [← Go.Deep.add_add, this]
        rfl
      · simp at hu)
    rw [flat_one] at hr
    refine ⟨some a, l, len, cap, by simpa using hcs, hll.symm, hr, hq, hl, .inr ⟨_, _, by rw [hx], ?_⟩⟩
    simp
    omega
/-- A slice of bools; with its datum's size. -/
theorem open_bools {t e : TypeId} {fuel : Nat} {v : Value} {x : DataW H × List MemPlace} (ht : P.underlying t = some (.slice e)) (he : P.underlying e = some .bool) (hC : P.cellsOf e = 1)
    (h : DataW.trod enc P w base (fun _ => true) held fuel t [v] = some x) :
    ∃ (A : Option Addr) (l : List Bool) (n c : Nat), v = .slice A n c ∧ n = l.length ∧ Rd w A (l.map Value.bool) ∧ n ≤ c ∧ (x.1 = .nil ∧ c = 0 ∨ ∃ el sp, x.1 = .slice el sp ∧ el.length + sp.length = c) := by
  rcases open_slice ht h with ⟨h0, h1⟩ | ⟨a, len, cap, m, n, D, Pl, hcs, hb, hl, hm, hmm, hx, hi⟩
  · refine ⟨none, [], 0, 0, by simpa using h0, rfl, .inl rfl, Nat.le_refl _, .inl ⟨by rw [h1], rfl⟩⟩
  · have hmc : m = cap := by simpa using hmm
    obtain ⟨l, hll, hr, _⟩ := rd_of_cells (Q := fun _ : Bool => True) (fun y => [Value.bool y]) 1 (fun _ => rfl) (by omega) (w := w) (a := a) (n := len) (fun i hil => by
      obtain ⟨cs', hc, ht'⟩ := hi i (by omega)
      rw [hC] at hc
      obtain ⟨y, e0, _⟩ := DataW.trod_bool he ht'
      obtain ⟨_, hcl, hat⟩ := World.cells?_some hc
      refine ⟨y, trivial, fun j u hu => ?_⟩
      rcases j with _ | j
      · simp at hu
        subst hu
        have := hat 0 (by omega)
        rw [e0] at this
        rw [← Go.Deep.add_add, this]
        rfl
      · simp at hu)
    rw [flat_one] at hr
    refine ⟨some a, l, len, cap, by simpa using hcs, hll.symm, hr, hl, .inr ⟨_, _, by rw [hx], ?_⟩⟩
    simp
    omega
end
section
variable {H : Type} {P : Program} {ts : List TypeId} {ds : List (DataW H)}
/-- The size of a slice among the arguments. -/
theorem sized_arg (h : (DataW.weightsEach P ts ds).all (· ≤ reachBytes) = true) {j c b : Nat} {t e : TypeId} {d : DataW H} (ht : ts[j]? = some t) (hd : ds[j]? = some d) (hu : P.underlying t = some (.slice e)) (hb : P.bytesOf e = b)
    (hx : d = .nil ∧ c = 0 ∨ ∃ el sp, d = .slice el sp ∧ el.length + sp.length = c) : c * b ≤ 140737488351232 := by
  rcases hx with ⟨_, rfl⟩ | ⟨el, sp, rfl, rfl⟩
  · simp
  · have := sized_slice h ht hd hu
    rw [hb] at this
    exact this
/-- The size of a slice in a field of a struct among the arguments. -/
theorem sized_field (h : (DataW.weightsEach P ts ds).all (· ≤ reachBytes) = true) {j k c b : Nat} {t ft e : TypeId} {fs : Array Field} {parts : List (DataW H)} {d : DataW H} (ht : ts[j]? = some t) (hd : ds[j]? = some (.agg parts)) (hs : P.underlying t = some (.struct fs))
    (hf : (fs.toList.map (·.type))[k]? = some ft) (hp : parts[k]? = some d) (hu : P.underlying ft = some (.slice e)) (hb : P.bytesOf e = b)
    (hx : d = .nil ∧ c = 0 ∨ ∃ el sp, d = .slice el sp ∧ el.length + sp.length = c) : c * b ≤ 140737488351232 := by
  rcases hx with ⟨_, rfl⟩ | ⟨el, sp, rfl, rfl⟩
  · simp
  · have h1 : ∀ n ∈ DataW.weights P t (.agg parts), n ≤ reachBytes := fun n hn => by
      have := List.all_eq_true.1 h n (DataW.weights_mem_each ht hd n hn)
      simpa using this
    have h2 : (el.length + sp.length) * P.bytesOf e ∈ DataW.weights P t (.agg parts) := by
      have : DataW.weights P t (.agg parts) = DataW.weightsEach P (fs.toList.map (·.type)) parts := by simp [DataW.weights, hs]
      rw [this]
      exact DataW.weights_mem_each hf hp _ (by simp [DataW.weights, hu])
    have := h1 _ h2
    rw [hb] at this
    exact this
end
theorem u8_in {n : Int} (h : (Lit.int .u8 n).wf = true) : 0 ≤ n ∧ n ≤ 255 := by
  simp only [Lit.wf, Bool.and_eq_true, decide_eq_true_eq] at h
  have e1 : IntKind.u8.min = 0 := by kernel_rfl
  have e2 : IntKind.u8.max = 255 := by kernel_rfl
  omega
theorem u16_in {n : Int} (h : (Lit.int .u16 n).wf = true) : 0 ≤ n ∧ n ≤ 65535 := by
  simp only [Lit.wf, Bool.and_eq_true, decide_eq_true_eq] at h
  have e1 : IntKind.u16.min = 0 := by kernel_rfl
  have e2 : IntKind.u16.max = 65535 := by kernel_rfl
  omega
theorem u32_in {n : Int} (h : (Lit.int .u32 n).wf = true) : 0 ≤ n ∧ n ≤ 4294967295 := by
  simp only [Lit.wf, Bool.and_eq_true, decide_eq_true_eq] at h
  have e1 : IntKind.u32.min = 0 := by kernel_rfl
  have e2 : IntKind.u32.max = 4294967295 := by kernel_rfl
  omega
theorem i64_in' {n : Int} (h : (Lit.int .i64 n).wf = true) : -9223372036854775808 ≤ n ∧ n ≤ 9223372036854775807 := by
  simp only [Lit.wf, Bool.and_eq_true, decide_eq_true_eq] at h
  have e1 : IntKind.i64.min = -9223372036854775808 := by kernel_rfl
  have e2 : IntKind.i64.max = 9223372036854775807 := by kernel_rfl
  omega
end Go.Proofs.Ytjelnbfnoliocaa
