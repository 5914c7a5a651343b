/- How arguments are opened: slices of structs as lists, structs by value; no law in sight. How arguments are opened, second part: slices of numbers and of bools, their size in bytes; no law in sight. No condition. -/
import Derived.Test.YtmjbbihbcbhaoaaRows
import Derived.Test.YtmjbbihbcbhaoaaBase
import Derived.ProofKit
import Derived.OpenShut
import Derived.ShutString
import Derived.ChangeOld
import Derived.Lib.SmallJoins
import Derived.Deep.Slices
import Derived.Deep.Fields
import Derived.ChangeSame
import Derived.SizedLaws
namespace Go.Proofs.Ytmjbbihbcbhaoaa
open Go.ChangeShapes Go.WideShapes Go.ChangeAt Go.RowKit Go.Deep Go.Joins

theorem Try.own : ownKnob Try.prog.godebug = none := by kernel_rfl
theorem Try.laidOut : laidOutB Try.prog = true := by kernel_rfl

theorem list_of {α : Type} {P : Nat → α → Prop} : ∀ n : Nat, (∀ i, i < n → ∃ x, P i x) → ∃ l : List α, l.length = n ∧ ∀ i x, l[i]? = some x → P i x := by
  intro n
  induction n with
  | zero => intro _; exact ⟨[], rfl, fun i x h => by simp at h⟩
  | succ n ih =>
    intro h
    obtain ⟨l, hl, hp⟩ := ih (fun i hi => h i (by omega))
    obtain ⟨x, hx⟩ := h n (by omega)
    refine ⟨l ++ [x], by simp [hl], fun i y hy => ?_⟩
    by_cases hi : i < l.length
    · rw [List.getElem?_append_left hi] at hy
      exact hp i y hy
    · rw [List.getElem?_append_right (by omega)] at hy
      have : i - l.length = 0 := by
        have := (List.getElem?_eq_some_iff.1 hy).1
        simp at this
        omega
      rw [this] at hy
      simp at hy
      subst hy
      have : i = n := by omega
      subst this
      exact hx

theorem rd_of_cells {α : Type} (enc : α → List Value) (sz : Nat) (hsz : ∀ x, (enc x).length = sz) (h0 : 0 < sz) {w : World} {a : Addr} {n : Nat} {Q : α → Prop}
    (h : ∀ i, i < n → ∃ x : α, Q x ∧ ∀ j u, (enc x)[j]? = some u → w.cell? (a.add (i * sz + j)) = some u) : ∃ l : List α, l.length = n ∧ Rd w (some a) (flat enc l) ∧ ∀ x ∈ l, Q x := by
  obtain ⟨l, hl, hp⟩ := list_of n h
  refine ⟨l, hl, ?_, fun x hx => ?_⟩
  · rcases Nat.eq_zero_or_pos n with hn | hn
    · subst hn
      have : l = [] := List.eq_nil_of_length_eq_zero hl
      subst this
      exact .inl rfl
    · have hx0 : l[0]? = some (l[0]'(by omega)) := List.getElem?_eq_getElem _
      have hu0 : (enc (l[0]'(by omega)))[0]? = some ((enc (l[0]'(by omega)))[0]'(by rw [hsz]; exact h0)) := List.getElem?_eq_getElem _
      have hc := (hp 0 _ hx0).2 0 _ hu0
      obtain ⟨b, off, spot⟩ := a
      have hspot : spot = none := by simpa [Addr.add] using World.cell?_spot hc
      subst hspot
      refine .inr ⟨b, off, rfl, ?_, fun j u hu => ?_⟩
      · rw [Addr.add_lit] at hc
        exact World.block_lt_of_cell? w _ hc
      · have hj : j < l.length * sz := by rw [← flat_length enc sz hsz]; exact (List.getElem?_eq_some_iff.1 hu).1
        have hq : j / sz < l.length := Nat.div_lt_of_lt_mul (by rw [Nat.mul_comm]; exact hj)
        have hr : j % sz < sz := Nat.mod_lt _ h0
        have hjj : j / sz * sz + j % sz = j := by rw [Nat.mul_comm]; exact Nat.div_add_mod j sz
        have hx : l[j / sz]? = some l[j / sz] := List.getElem?_eq_getElem hq
        have hg := flat_get enc sz hsz l (j / sz) _ (j % sz) hx hr
        rw [hjj, hu] at hg
        have := (hp (j / sz) _ hx).2 (j % sz) u hg.symm
        rw [hjj, Addr.add_lit] at this
        exact this
  · obtain ⟨i, hi, rfl⟩ := List.getElem_of_mem hx
    exact (hp i _ (List.getElem?_eq_getElem hi)).1

section
variable {H : Type} {enc : TypeId × Value → H} {P : Program} {w : World} {base : Nat} {spare : Nat → Bool} {held : Bool}
/-- A slice of structs of one-cell fields: element by element and field by field. -/
theorem open_rows {t e : TypeId} {fs : Array Field} {fuel : Nat} {v : Value} {x : DataW H × List MemPlace} (ht : P.underlying t = some (.slice e)) (he : P.underlying e = some (.struct fs))
    (hone : oneCellFields P fs = true) (hC : P.cellsOf e = fs.size) (h : DataW.trod enc P w base spare held fuel t [v] = some x) :
    v = .slice none 0 0 ∨
    ∃ (a : Addr) (len cap : Nat), v = .slice (some a) len cap ∧ len ≤ cap ∧ cap ≤ maxLen ∧
      ∀ i, i < len → ∃ n, ∀ (j : Nat) (f : Field), fs[j]? = some f → ∃ (u : Value) (y : DataW H × List MemPlace), w.cell? (a.add (i * fs.size + j)) = some u ∧ DataW.trod enc P w base spare held n f.type [u] = some y := by
  rcases open_slice ht h with ⟨h0, _⟩ | ⟨a, len, cap, m, n, D, Pl, hcs, hb, hl, hm, hmm, hx, hi⟩
  · left; simpa using h0
  · refine .inr ⟨a, len, cap, by simpa using hcs, hl, hm, fun i hil => ?_⟩
    obtain ⟨cs', hc, ht'⟩ := hi i (by rw [hmm]; split <;> omega)
    rw [hC] at hc
    obtain ⟨ys, n', hn', hy, hlen, hyl, hf⟩ := DataW.trod_struct he ht'
    obtain ⟨_, hcl, hat⟩ := World.cells?_some hc
    refine ⟨n', fun j f hj => ?_⟩
    obtain ⟨ho, hk⟩ := hone_of hone j f hj
    have hjl : j < fs.size := (Array.getElem?_eq_some_iff.1 hj).1
    have hcell := hat j hjl
    have hv : cs'[j]? = some (cs'[j]'(by omega)) := List.getElem?_eq_getElem (by omega)
    have h1 := hf j f hj
    rw [ho, hk] at h1
    have hone' : (cs'.drop j).take 1 = [cs'[j]'(by omega)] := by
      rw [List.drop_eq_getElem_cons (by omega)]
      rfl
    rw [hone'] at h1
    have hys : ys[j]? = some (ys[j]'(by omega)) := List.getElem?_eq_getElem (by omega)
    refine ⟨_, _, ?_, h1.trans hys⟩
    rw [← Go.Deep.add_add, hcell, hv]

theorem trod_int_val {t : TypeId} {k : IntKind} {fuel : Nat} {v : Value} {x : DataW H × List MemPlace} (ht : P.underlying t = some (.int k)) (h : DataW.trod enc P w base spare held fuel t [v] = some x) : ∃ n : Int, v = .int k n ∧ (Lit.int k n).wf = true := by
  obtain ⟨a, e0, _, wa⟩ := DataW.trod_int ht h
  simp at e0
  exact ⟨a, e0, wa⟩
theorem trod_bool_val {t : TypeId} {fuel : Nat} {v : Value} {x : DataW H × List MemPlace} (ht : P.underlying t = some .bool) (h : DataW.trod enc P w base spare held fuel t [v] = some x) : ∃ b : Bool, v = .bool b := by
  obtain ⟨a, e0, _⟩ := DataW.trod_bool ht h
  simp at e0
  exact ⟨a, e0⟩
end
end Go.Proofs.Ytmjbbihbcbhaoaa

namespace Go.Proofs.Ytmjbbihbcbhaoaa
open Go.ChangeShapes Go.WideShapes Go.ChangeAt Go.RowKit Go.Deep Go.Joins

theorem flat_one {α : Type} (f : α → Value) (l : List α) : flat (fun x => [f x]) l = l.map f := by
  induction l with
  | nil => rfl
  | cons x l ih => rw [flat_cons, ih]; rfl
section
variable {H : Type} {enc : TypeId × Value → H} {P : Program} {w : World} {base : Nat} {spare : Nat → Bool} {held : Bool}
/-- A slice of numbers of one kind; with its datum's size. -/
theorem open_nums {t e : TypeId} {k : IntKind} {fuel : Nat} {v : Value} {x : DataW H × List MemPlace} (ht : P.underlying t = some (.slice e)) (he : P.underlying e = some (.int k)) (hC : P.cellsOf e = 1)
    (h : DataW.trod enc P w base (fun _ => true) held fuel t [v] = some x) :
    ∃ (A : Option Addr) (l : List Int) (n c : Nat), v = .slice A n c ∧ n = l.length ∧ Rd w A (l.map (Value.int k)) ∧ (∀ y ∈ l, (Lit.int k y).wf = true) ∧ n ≤ c ∧ (x.1 = .nil ∧ c = 0 ∨ ∃ el sp, x.1 = .slice el sp ∧ el.length + sp.length = c) := by
  rcases open_slice ht h with ⟨h0, h1⟩ | ⟨a, len, cap, m, n, D, Pl, hcs, hb, hl, hm, hmm, hx, hi⟩
  · refine ⟨none, [], 0, 0, by simpa using h0, rfl, .inl rfl, fun y hy => by simp at hy, Nat.le_refl _, .inl ⟨by rw [h1], rfl⟩⟩
  · have hmc : m = cap := by simpa using hmm
    obtain ⟨l, hll, hr, hq⟩ := rd_of_cells (Q := fun y : Int => (Lit.int k y).wf = true) (fun y => [Value.int k y]) 1 (fun _ => rfl) (by omega) (w := w) (a := a) (n := len) (fun i hil => by
      obtain ⟨cs', hc, ht'⟩ := hi i (by omega)
      rw [hC] at hc
      obtain ⟨y, e0, _, wy⟩ := DataW.trod_int he ht'
      obtain ⟨_, hcl, hat⟩ := World.cells?_some hc
      refine ⟨y, wy, fun j u hu => ?_⟩
      rcases j with _ | j
      · simp at hu
        subst hu
        have := hat 0 (by omega)
        rw [e0] at this
        rw [← Go.Deep.add_add, this]
        rfl
      · simp at hu)
    rw [flat_one] at hr
    refine ⟨some a, l, len, cap, by simpa using hcs, hll.symm, hr, hq, hl, .inr ⟨_, _, by rw [hx], ?_⟩⟩
    simp
    omega
/-- A slice of bools; with its datum's size. -/
theorem open_bools {t e : TypeId} {fuel : Nat} {v : Value} {x : DataW H × List MemPlace} (ht : P.underlying t = some (.slice e)) (he : P.underlying e = some .bool) (hC : P.cellsOf e = 1)
    (h : DataW.trod enc P w base (fun _ => true) held fuel t [v] = some x) :
    ∃ (A : Option Addr) (l : List Bool) (n c : Nat), v = .slice A n c ∧ n = l.length ∧ Rd w A (l.map Value.bool) ∧ n ≤ c ∧ (x.1 = .nil ∧ c = 0 ∨ ∃ el sp, x.1 = .slice el sp ∧ el.length + sp.length = c) := by
  rcases open_slice ht h with ⟨h0, h1⟩ | ⟨a, len, cap, m, n, D, Pl, hcs, hb, hl, hm, hmm, hx, hi⟩
  · refine ⟨none, [], 0, 0, by simpa using h0, rfl, .inl rfl, Nat.le_refl _, .inl ⟨by rw [h1], rfl⟩⟩
  · have hmc : m = cap := by simpa using hmm
    obtain ⟨l, hll, hr, _⟩ := rd_of_cells (Q := fun _ : Bool => True) (fun y => [Value.bool y]) 1 (fun _ => rfl) (by omega) (w := w) (a := a) (n := len) (fun i hil => by
      obtain ⟨cs', hc, ht'⟩ := hi i (by omega)
      rw [hC] at hc
      obtain ⟨y, e0, _⟩ := DataW.trod_bool he ht'
      obtain ⟨_, hcl, hat⟩ := World.cells?_some hc
      refine ⟨y, trivial, fun j u hu => ?_⟩
      rcases j with _ | j
      · simp at hu
        subst hu
        have := hat 0 (by omega)
        rw [e0] at this
        rw [← Go.Deep.add_add, this]
        rfl
      · simp at hu)
    rw [flat_one] at hr
    refine ⟨some a, l, len, cap, by simpa using hcs, hll.symm, hr, hl, .inr ⟨_, _, by rw [hx], ?_⟩⟩
    simp
    omega
end
section
variable {H : Type} {P : Program} {ts : List TypeId} {ds : List (DataW H)}
/-- The size of a slice among the arguments. -/
theorem sized_arg (h : (DataW.weightsEach P ts ds).all (· ≤ reachBytes) = true) {j c b : Nat} {t e : TypeId} {d : DataW H} (ht : ts[j]? = some t) (hd : ds[j]? = some d) (hu : P.underlying t = some (.slice e)) (hb : P.bytesOf e = b)
    (hx : d = .nil ∧ c = 0 ∨ ∃ el sp, d = .slice el sp ∧ el.length + sp.length = c) : c * b ≤ 140737488351232 := by
  rcases hx with ⟨_, rfl⟩ | ⟨el, sp, rfl, rfl⟩
  · simp
  · have := sized_slice h ht hd hu
    rw [hb] at this
    exact this
/-- The size of a slice in a field of a struct among the arguments. -/
theorem sized_field (h : (DataW.weightsEach P ts ds).all (· ≤ reachBytes) = true) {j k c b : Nat} {t ft e : TypeId} {fs : Array Field} {parts : List (DataW H)} {d : DataW H} (ht : ts[j]? = some t) (hd : ds[j]? = some (.agg parts)) (hs : P.underlying t = some (.struct fs))
    (hf : (fs.toList.map (·.type))[k]? = some ft) (hp : parts[k]? = some d) (hu : P.underlying ft = some (.slice e)) (hb : P.bytesOf e = b)
    (hx : d = .nil ∧ c = 0 ∨ ∃ el sp, d = .slice el sp ∧ el.length + sp.length = c) : c * b ≤ 140737488351232 := by
  rcases hx with ⟨_, rfl⟩ | ⟨el, sp, rfl, rfl⟩
  · simp
  · have h1 : ∀ n ∈ DataW.weights P t (.agg parts), n ≤ reachBytes := fun n hn => by
      have := List.all_eq_true.1 h n (DataW.weights_mem_each ht hd n hn)
      simpa using this
    have h2 : (el.length + sp.length) * P.bytesOf e ∈ DataW.weights P t (.agg parts) := by
      have : DataW.weights P t (.agg parts) = DataW.weightsEach P (fs.toList.map (·.type)) parts := by simp [DataW.weights, hs]
      rw [this]
      exact DataW.weights_mem_each hf hp _ (by simp [DataW.weights, hu])
    have := h1 _ h2
    rw [hb] at this
    exact this
end
theorem u8_in {n : Int} (h : (Lit.int .u8 n).wf = true) : 0 ≤ n ∧ n ≤ 255 := by
  simp only [Lit.wf, Bool.and_eq_true, decide_eq_true_eq] at h
  have e1 : IntKind.u8.min = 0 := by kernel_rfl
  have e2 : IntKind.u8.max = 255 := by kernel_rfl
  omega
theorem u16_in {n : Int} (h : (Lit.int .u16 n).wf = true) : 0 ≤ n ∧ n ≤ 65535 := by
  simp only [Lit.wf, Bool.and_eq_true, decide_eq_true_eq] at h
  have e1 : IntKind.u16.min = 0 := by kernel_rfl
  have e2 : IntKind.u16.max = 65535 := by kernel_rfl
  omega
theorem u32_in {n : Int} (h : (Lit.int .u32 n).wf = true) : 0 ≤ n ∧ n ≤ 4294967295 := by
  simp only [Lit.wf, Bool.and_eq_true, decide_eq_true_eq] at h
  have e1 : IntKind.u32.min = 0 := by kernel_rfl
  have e2 : IntKind.u32.max = 4294967295 := by kernel_rfl
  omega
theorem i64_in' {n : Int} (h : (Lit.int .i64 n).wf = true) : -9223372036854775808 ≤ n ∧ n ≤ 9223372036854775807 := by
  simp only [Lit.wf, Bool.and_eq_true, decide_eq_true_eq] at h
  have e1 : IntKind.i64.min = -9223372036854775808 := by kernel_rfl
  have e2 : IntKind.i64.max = 9223372036854775807 := by kernel_rfl
  omega
end Go.Proofs.Ytmjbbihbcbhaoaa
