/- Rates: the examples' values, and a map from numbers to shares that the call made. No condition. -/
import Derived.Test.YtnalbchggjepdaaWa
import Derived.Test.YtnalbchggjepdaaUc
import Derived.Maps.Own
import Derived.Maps.RangeWalk
import Derived.Maps.Views
namespace Go.Proofs.Ytnalbchggjepdaa
open Go.RowKit Go.Maps

def fct : Nat → Nat
  | 0 => 1
  | n + 1 => (n + 1) * fct n
theorem pas_fct : ∀ (a b : Nat), pas (a + b) a * (fct a * fct b) = fct (a + b)
  | 0, b => by rw [pas_zero, Nat.zero_add]; simp [fct]
  | a + 1, 0 => by rw [Nat.add_zero, pas_self]; simp [fct]
  | a + 1, b + 1 => by
    have h1 := pas_fct a (b + 1)
    have h2 := pas_fct (a + 1) b
    rw [show a + 1 + b = a + (b + 1) by omega] at h2
    rw [show a + 1 + (b + 1) = a + (b + 1) + 1 by omega, pas_succ]
    simp only [fct] at h1 h2 ⊢
    generalize pas (a + (b + 1)) a = p at *
    generalize pas (a + (b + 1)) (a + 1) = q at *
    generalize fct a = u at *
    generalize fct b = v at *
    generalize fct (a + (b + 1)) = z at *
    have e1 : p * ((a + 1) * u * ((b + 1) * v)) = (a + 1) * (p * (u * ((b + 1) * v))) := by
      simp only [Nat.mul_left_comm, Nat.mul_comm]
    have e2 : q * ((a + 1) * u * ((b + 1) * v)) = (b + 1) * (q * ((a + 1) * u * v)) := by
      simp only [Nat.mul_left_comm, Nat.mul_comm]
    rw [Nat.add_mul, e1, e2, h1, h2, ← Nat.add_mul]
    congr 1
    omega
theorem pas_50_25 : pas 50 25 = 126410606437752 := by
  have h := pas_fct 25 25
  have e : fct (25 + 25) = 126410606437752 * (fct 25 * fct 25) := by decide +kernel
  rw [e] at h
  exact Nat.eq_of_mul_eq_mul_right (by decide +kernel) h
theorem cho1 : chooseF 5 2 = (10, 0) := by decide +kernel
theorem cho2 : chooseF 50 25 = (126410606437752, 0) := by
  unfold chooseF
  rw [if_pos (by decide)]
  show (((pas 50 25 : Nat) : Int), (0 : Int)) = _
  rw [pas_50_25]
  rfl
theorem cho3 : chooseF 51 1 = (0, 2) := by decide +kernel
theorem cho4 : chooseF 4 5 = (0, 2) := by decide +kernel
theorem tai1 : tailF 0 2 1 2 = (6, 0) := by decide +kernel
theorem tai2 : tailF 3 2 0 2 = (0, 2) := by decide +kernel
theorem dif1 : differF 2 2 0 2 1 7 = (false, 0) := by decide +kernel
theorem thr1 : thrF (List.replicate 61 0) 1 2 = (0, 4) := by decide +kernel
theorem thr2 : thrF [1001] 1 2 = (0, 2) := by decide +kernel
theorem thr3 : thrF [] 2 1 = (0, 2) := by decide +kernel
theorem thr4 : thrF [] 1 1 = (1000, 0) := by decide +kernel
theorem four1 : thrF fourL 1 5 = (9, 0) := by
  unfold thrF limF
  rw [srt_four]
  decide +kernel
theorem four2 : thrF fourL 4 5 = (29, 0) := by
  unfold thrF limF
  rw [srt_four]
  decide +kernel
theorem four3 : thrF fourL 1 1 = (1000, 0) := by decide +kernel
theorem four4 : thrF fourL 0 7 = (-1, 0) := by decide +kernel
def three3 : List Dbl := [⟨3, 5, true⟩, ⟨1, 9, true⟩, ⟨4, 4, false⟩]
theorem dbl_three3 : dblE three3 = 0 := by decide +kernel
theorem dsA_three3 : dsA three3 = [-1, 1, 3, 4] := dst_unique (by decide +kernel) (by intro x; simp [three3]; omega)
theorem dsB_three3 : dsB three3 = [-1, 4, 5, 9] := dst_unique (by decide +kernel) (by intro x; simp [three3]; omega)
theorem fro_three3 : froR three3 = [⟨3, 9, 0, 0⟩] := by
  rw [froR, if_pos dbl_three3, show froF three3 = fro (isort ltP (ptsT three3 (dsA three3) (dsB three3))) from rfl, dsA_three3, dsB_three3]
  kernel_rfl

/-! A map from numbers to shares. -/
def shV (c : Int × Int) : Value := .agg #[.int .i64 c.1, .int .i64 c.2]
def shD (a b : Int) : DataW Unit := .agg [.lit (.int .i64 a), .lit (.int .i64 b)]
def shR : Value → Option (DataW Unit × List MemPlace)
  | .agg ⟨[.int .i64 a, .int .i64 b]⟩ => some (shD a b, [])
  | _ => none
theorem shR_mk (c : Int × Int) : shR (shV c) = some (shD c.1 c.2, []) := rfl
theorem shR_inv (v : Value) (y : DataW Unit × List MemPlace) (h : shR v = some y) : ∃ c, v = shV c := by
  unfold shR at h
  split at h
  · exact ⟨(_, _), rfl⟩
  · cases h
theorem keyed3 : Keyed Try.prog 3 := int_keyed Try.underlying3
theorem keyInv (key : Value) (kl : Lit) (h : keyOf Try.prog 3 key = some kl) : ∃ x, key = .int .i64 x := by
  obtain ⟨x, rfl, _⟩ := Maps.keyOf_int_inv Try.underlying3 h
  exact ⟨x, rfl⟩
/-- Block b is such a map, and reads as D. -/
def mapP (b n : Nat) (D : DataW Unit) : Piece where
  own := some b
  holds := fun w => w.ownsMap Try.prog 3 shR b n D
  loc := fun w w' h k => by
    obtain ⟨es, clock, h1, h2⟩ := k
    exact ⟨es, clock, (h b rfl).trans h1, h2⟩
  lt := fun w b' h e => by
    injection e with e
    subst e
    exact World.ownsMap.lt h
theorem Own.asMap {w0 w : World} {ps : List Piece} {b : Nat} (h : Own w0 w ps) (i : Nat) (hp : ps[i]? = some (obj b (.map #[] 0))) (hb : (w.ownsMap Try.prog 3 shR b 0 (.map []))) : Own w0 w (ps.set i (mapP b 0 (.map []))) :=
  ⟨h.1, h.2.setAt i hp hb (fun _ e => .inl e) fun _ _ _ => rfl⟩
theorem wpList_insert_run {P : Program} {w w' : World} {ops : Array Oper} {rest : List Oper} {o : Oper} {a : Act} {Q : Exit → Act → World → Prop} {t : TypeId} {key val : Value} {b : Nat}
    (hg : o.guard = none) (m x v : Operand) (hop : o.op = Op.insert t m x v) (hm : a.eval m = .map (some b)) (hx : a.eval x = key) (hv : a.eval v = val) (hrun : (Instr.mapUpdate t (.map (some b)) key val).run P w = .ok () w')
    (hK : wpList P ops Q rest (a.put o.dst undef) w') : wpList P ops Q (o :: rest) a w := by
  refine wpList_plain hg fun K' hK' => ?_
  unfold Oper.wp
  simp [execOp, hop, hm, hx, hv, hrun, Result.andThen]
  exact hK' _ _ hK
set_option maxRecDepth 100000 in
theorem wpList_insertP {w0 w : World} {ps : List Piece} {ops : Array Oper} {rest : List Oper} {o : Oper} {a : Act} {Q : Exit → Act → World → Prop}
    (hg : o.guard = none) (m x v : Operand) (hop : o.op = Op.insert 90 m x v) (i : Nat) {b n : Nat} {D : DataW Unit} (hO : Own w0 w ps) (hp : ps[i]? = some (mapP b n D)) (hm : a.eval m = .map (some b)) {k : Int} {c : Int × Int}
    (hx : a.eval x = .int .i64 k) (hv : a.eval v = shV c)
    (hK : ∀ w', Own w0 w' (ps.set i (mapP b (n + 1) (D.put (.int .i64 k) (shD c.1 c.2)))) → wpList Try.prog ops Q rest (a.put o.dst undef) w') (hk : (Lit.int .i64 k).wf = true) (hn : n < maxLen) : wpList Try.prog ops Q (o :: rest) a w := by
  have q1 : w.ownsMap Try.prog 3 shR b n D := hO.get i hp
  have q2 := keyOf_int_mk Try.underlying3 hk
  have q3 := shR_mk c
  have q4 := World.ownsMap.update q1 keyed3 Try.underlying90 hn q2 q3
  obtain ⟨w', hrun, r1, r2⟩ := q4
  exact wpList_insert_run hg m x v hop hm hx hv hrun (hK w' (hO.change i hp r1 (fun _ e => .inl e) r2))
theorem grown_of_below {w w' : World} (h : Below w.heap.size w w') : w.grownBy w' none := ⟨h.os, h.tape, h.output, h.size, fun i hi _ => h.block i hi⟩
def D4 : DataW Unit := ((((DataW.map []).put (.int .i64 9) (shD 1 5)).put (.int .i64 29) (shD 4 5)).put (.int .i64 1000) (shD 1 1)).put (.int .i64 (-1)) (shD 0 7)
theorem shD_inj {a b c d : Int} (h : shD a b = shD c d) : a = c ∧ b = d := by
  unfold shD at h
  simpa using h
set_option maxRecDepth 100000 in
/-- Whichever entry comes: its key is the threshold of its share. -/
theorem ex_entry {x : Int} {c : Int × Int} {kl : Lit} {y : DataW Unit × List MemPlace} (hk : keyOf Try.prog 3 (.int .i64 x) = some kl) (hl : Maps.has D4 kl = true) (hR : shR (shV c) = some y) (hat : ∀ zd, D4.atKey kl zd = y.1) : thrF fourL c.1 c.2 = (x, 0) := by
  obtain ⟨x', e1, rfl, hw⟩ := Maps.keyOf_int_inv Try.underlying3 hk
  obtain rfl := (Value.int.inj e1).2
  rw [shR_mk] at hR
  obtain rfl := Option.some.inj hR
  have key : ∀ a b, D4.atKey (.int .i64 x) (.map []) = shD a b → c.1 = a ∧ c.2 = b := by
    intro a b h
    rw [hat] at h
    exact shD_inj h
  have hkx : ∀ z : Int, (Lit.int .i64 z).wf = true → WideAt.IsKeyLit (.int .i64 z) := fun z hz => keyed3.key (keyOf_int_mk Try.underlying3 hz)
  have m0 : IsMap (DataW.map [] : DataW Unit) := isMap_empty
  have ne : ∀ z : Int, x ≠ z → Lit.int .i64 x ≠ Lit.int .i64 z := fun z h e => h (Lit.int.inj e).2
  by_cases h4 : x = -1
  · subst h4
    obtain ⟨e1, e2⟩ := key 0 7 (by unfold D4; exact atKey_put_same (((m0.put _ _).put _ _).put _ _) (hkx _ (by decide)) _ _)
    rw [e1, e2]; exact four4
  by_cases h3 : x = 1000
  · subst h3
    obtain ⟨e1, e2⟩ := key 1 1 (by unfold D4; rw [atKey_put_other (ne _ h4)]; exact atKey_put_same ((m0.put _ _).put _ _) (hkx _ (by decide)) _ _)
    rw [e1, e2]; exact four3
  by_cases h2 : x = 29
  · subst h2
    obtain ⟨e1, e2⟩ := key 4 5 (by unfold D4; rw [atKey_put_other (ne _ h4), atKey_put_other (ne _ h3)]; exact atKey_put_same (m0.put _ _) (hkx _ (by decide)) _ _)
    rw [e1, e2]; exact four2
  by_cases h1 : x = 9
  · subst h1
    obtain ⟨e1, e2⟩ := key 1 5 (by unfold D4; rw [atKey_put_other (ne _ h4), atKey_put_other (ne _ h3), atKey_put_other (ne _ h2)]; exact atKey_put_same m0 (hkx _ (by decide)) _ _)
    rw [e1, e2]; exact four1
  · exfalso
    unfold D4 at hl
    rw [has_put_other (ne _ h4), has_put_other (ne _ h3), has_put_other (ne _ h2), has_put_other (ne _ h1)] at hl
    cases hl
end Go.Proofs.Ytnalbchggjepdaa
