/- Regions that draw their order, by a state: each operation turns the state in the same way, whenever it comes. No condition. -/
import Derived.Test.YtmjbbihbcbhaoaaBase
namespace Go.Proofs.Ytmjbbihbcbhaoaa
open Go.RowKit

def stOk (md : Region.Mode) (ops : Array Oper) : Bool :=
  Region.noSelect ops && (List.range ops.size).all fun i => match ops[i]? with
    | none => true
    | some o => (o.after.all fun e => !Region.binds md e || decide (e.on < i)) &&
        (look ops o).all fun s => o.after.any fun e => Region.binds md e && ((ops[e.on]?).bind (·.dst) == some s)
def upd (L : Nat → Bool) (i : Nat) : Nat → Bool := fun j => if j = i then true else L j
def updv (vs : Tmp → Value) (d : Option Tmp) (u : Value) : Tmp → Value := match d with
  | none => vs
  | some d => fun t => if t = d then u else vs t
/-- Whoever is done, all for whom it waits are done. -/
def CloS (md : Region.Mode) (ops : Array Oper) (L : Nat → Bool) : Prop := ∀ j o, ops[j]? = some o → L j = true → ∀ e ∈ o.after, Region.binds md e = true → L e.on = true
def waitsB (md : Region.Mode) (ops : Array Oper) (j i : Nat) : Bool := match ops[j]? with
  | none => false
  | some o => o.after.any fun e => Region.binds md e && e.on == i
theorem CloS.no {md : Region.Mode} {ops : Array Oper} {L : Nat → Bool} (h : CloS md ops L) {j i : Nat} (hw : waitsB md ops j i = true) (hi : L i = false) : L j = false := by
  cases hj : L j with
  | false => rfl
  | true =>
    unfold waitsB at hw
    cases ho : ops[j]? with
    | none => rw [ho] at hw; cases hw
    | some o =>
      rw [ho] at hw
      obtain ⟨e, he, hb⟩ := Array.any_eq_true'.1 hw
      simp only [Bool.and_eq_true, beq_iff_eq] at hb
      have := h j o ho hj e he hb.1
      rw [hb.2, hi] at this
      cases this
theorem CloS.yes {md : Region.Mode} {ops : Array Oper} {L : Nat → Bool} (h : CloS md ops L) {j i : Nat} (hw : waitsB md ops j i = true) (hj : L j = true) : L i = true := by
  cases hi : L i with
  | true => rfl
  | false => rw [h.no hw hi] at hj; cases hj
section
variable {P : Program} {md : Region.Mode} {ops : Array Oper} {T : Tmp → Value → Prop} {J : (Nat → Bool) → (Tmp → Value) → World → Prop} {a0 : Act} {Q : Exit → Act → World → Prop}
/-- What is to be shown of one operation. -/
def StepS (P : Program) (md : Region.Mode) (ops : Array Oper) (T : Tmp → Value → Prop) (J : (Nat → Bool) → (Tmp → Value) → World → Prop) (a0 : Act) (i : Nat) (o : Oper) : Prop :=
  ∀ (L : Nat → Bool) (vs : Tmp → Value) (w : World), L i = false → (∀ e ∈ o.after, Region.binds md e = true → L e.on = true) → CloS md ops L → J L vs w → (∀ s ∈ look ops o, T s (vs s)) →
    (Region.wanted o (yielded ops (puts a0 (look ops o) vs).tmps) = true ∧ o.wp P (puts a0 (look ops o) vs) w (fun a' w' => a'.defers = a0.defers ∧ ∀ u, (∀ d, o.dst = some d → a'.tmps.getD d undef = u) → (∀ d, o.dst = some d → T d u) ∧ J (upd L i) (updv vs o.dst u) w') fun _ _ _ => False) ∨
    (Region.wanted o (yielded ops (puts a0 (look ops o) vs).tmps) = false ∧ (∀ d, o.dst = some d → T d undef) ∧ J (upd L i) (updv vs o.dst undef) w)
def StepsS (P : Program) (md : Region.Mode) (ops : Array Oper) (T : Tmp → Value → Prop) (J : (Nat → Bool) → (Tmp → Value) → World → Prop) (a0 : Act) : Nat → List Oper → Prop
  | _, [] => True
  | i, o :: l => StepS P md ops T J a0 i o ∧ StepsS P md ops T J a0 (i + 1) l
theorem StepsS.at_ : ∀ {l : List Oper} {k : Nat}, StepsS P md ops T J a0 k l → ∀ (i : Nat) (o : Oper), l[i]? = some o → StepS P md ops T J a0 (k + i) o
  | [], _, _, _, _, h => by simp at h
  | x :: l, k, h, 0, o, ho => by
    have : x = o := by simpa using ho
    subst this; exact h.1
  | x :: l, k, h, i + 1, o, ho => by
    have := StepsS.at_ h.2 i o (by simpa using ho)
    rw [show k + (i + 1) = k + 1 + i by omega]
    exact this
theorem afterS {md : Region.Mode} {L : Nat → Bool} {o : Oper} (h : ∀ e ∈ o.after, Region.binds md e = true → L e.on = true) {i : Nat} (hi : (o.after.any fun e => Region.binds md e && e.on == i) = true) : L i = true := by
  obtain ⟨e, he, hb⟩ := Array.any_eq_true'.1 hi
  simp only [Bool.and_eq_true, beq_iff_eq] at hb
  rw [← hb.2]
  exact h e he hb.1
structure InvS (md : Region.Mode) (ops : Array Oper) (T : Tmp → Value → Prop) (J : (Nat → Bool) → (Tmp → Value) → World → Prop) (a0 : Act) (listed : Array Bool) (a : Act) (w : World) (L : List Tmp) (vs : Tmp → Value) : Prop where
  act : a = puts a0 L vs
  fact : ∀ s ∈ L, T s (vs s)
  st : J (fun j => listed.getD j true) vs w
  clo : CloS md ops (fun j => listed.getD j true)
  all : ∀ j o d, ops[j]? = some o → listed.getD j true = true → o.dst = some d → d ∈ L
  sub : ∀ s ∈ L, s ∈ slotsOf ops
theorem wpAny_state (hok : stOk md ops = true) (hsz : ∀ s ∈ slotsOf ops, s < a0.tmps.size)
    (hs : ∀ i o, ops[i]? = some o → StepS P md ops T J a0 i o)
    (hdone : ∀ vs w, J (fun _ => true) vs w → (∀ s ∈ slotsOf ops, T s (vs s)) → Q .normal (puts a0 (slotsOf ops) vs) w) :
    ∀ (fuel : Nat) (listed : Array Bool) (a : Act) (w : World) (L : List Tmp) (vs : Tmp → Value), listed.size = ops.size → (listed.toList.countP fun b => !b) ≤ fuel → InvS md ops T J a0 listed a w L vs → wpAny P md ops Q fuel listed a w := by
  simp only [stOk, Bool.and_eq_true, List.all_eq_true, List.mem_range] at hok
  obtain ⟨hsel, hok⟩ := hok
  have hopn : ∀ (i : Nat) (o : Oper), ops[i]? = some o → (∀ e ∈ o.after, Region.binds md e = true → e.on < i) ∧ ∀ s ∈ look ops o, ∃ e ∈ o.after, Region.binds md e = true ∧ ∃ o2, ops[e.on]? = some o2 ∧ o2.dst = some s := by
    intro i o ho
    have h := hok i (Array.getElem?_eq_some_iff.1 ho).1
    rw [ho] at h
    simp only [Bool.and_eq_true, List.all_eq_true] at h
    obtain ⟨h3, h4⟩ := h
    refine ⟨fun e he hb => ?_, fun s hs => ?_⟩
    · have := Array.all_eq_true_iff_forall_mem.1 h3 e he
      simpa [hb] using this
    · have h5 := h4 s hs
      obtain ⟨e, he, hb⟩ := Array.any_eq_true'.1 h5
      simp only [Bool.and_eq_true, beq_iff_eq] at hb
      obtain ⟨o2, e2, e3⟩ := Option.bind_eq_some_iff.1 hb.2
      exact ⟨e, he, hb.1, o2, e2, e3⟩
  have hmem : ∀ (i : Nat) (o : Oper), ops[i]? = some o → o ∈ ops.toList := fun i o ho => by
    rw [← Array.getElem?_toList] at ho
    exact List.mem_of_getElem? ho
  have fin : ∀ (listed : Array Bool) (a : Act) (w : World) (L : List Tmp) (vs : Tmp → Value), listed.size = ops.size → InvS md ops T J a0 listed a w L vs → (∀ j, j < ops.size → listed.getD j true = true) → Q .normal a w := by
    intro listed a w L vs hl hI hall
    have hsub : ∀ t, t ∈ L ↔ t ∈ slotsOf ops := fun t => ⟨hI.sub t, fun ht => by
      obtain ⟨o, ho, hd⟩ := List.mem_filterMap.1 ht
      obtain ⟨j, hj⟩ := List.mem_iff_getElem?.1 ho
      rw [Array.getElem?_toList] at hj
      exact hI.all j o t hj (hall j (Array.getElem?_eq_some_iff.1 hj).1) hd⟩
    rw [hI.act, puts_same hsub fun _ _ => rfl]
    refine hdone vs w ?_ fun s hs => hI.fact s ((hsub s).2 hs)
    have e : (fun j => listed.getD j true) = fun _ => true := funext fun j => by
      by_cases hj : j < ops.size
      · exact hall j hj
      · simp only [Array.getD_eq_getD_getElem?]
        rw [Array.getElem?_eq_none (by rw [hl]; omega)]; rfl
    rw [← e]; exact hI.st
  have empty : ∀ (listed : Array Bool), listed.size = ops.size → Region.ready md ops listed = [] → ∀ j, j < ops.size → listed.getD j true = true := by
    intro listed hl hr j
    induction j using Nat.strongRecOn with
    | _ j ih =>
      intro hj
      refine Classical.byContradiction fun hne => ?_
      have hf : listed.getD j true = false := by simpa using hne
      have hm : j ∈ Region.ready md ops listed := by
        have ho : ops[j]? = some ops[j] := Array.getElem?_eq_getElem hj
        simp only [Region.ready, List.mem_filter, List.mem_range]
        refine ⟨hj, ?_⟩
        rw [hf, ho]
        simp only [Bool.not_false, Bool.true_and, Option.map_some, Option.getD_some]
        refine Array.all_eq_true_iff_forall_mem.2 fun e he => ?_
        cases hb : Region.binds md e with
        | false => rfl
        | true =>
          have h1 := (hopn j _ ho).1 e he hb
          have h2 := ih e.on h1 (by omega)
          have h3 : e.on < listed.size := by omega
          simp only [Array.getD_eq_getD_getElem?, Array.getElem?_eq_getElem h3, Option.getD_some] at h2 ⊢
          simp [h2]
      rw [hr] at hm
      cases hm
  intro fuel
  induction fuel with
  | zero =>
    intro listed a w L vs hl hc hI
    have hall : ∀ j, j < ops.size → listed.getD j true = true := by
      intro j hj
      have h0 : (listed.toList.countP fun b => !b) = 0 := by omega
      rw [List.countP_eq_zero] at h0
      have h3 : j < listed.size := by omega
      have := h0 listed[j] (by simp)
      simp only [Array.getD_eq_getD_getElem?, Array.getElem?_eq_getElem h3, Option.getD_some]
      simpa using this
    refine ⟨?_, fin listed a w L vs hl hI hall⟩
    refine List.filter_eq_nil_iff.2 fun j hj => ?_
    rw [hall j (List.mem_range.1 hj)]
    simp
  | succ fuel ih =>
    intro listed a w L vs hl hc hI
    refine ⟨fun hr => fin listed a w L vs hl hI (empty listed hl hr), fun i hi => ?_⟩
    simp only [Region.ready, List.mem_filter, List.mem_range, Bool.and_eq_true, Bool.not_eq_true'] at hi
    obtain ⟨hi, hf, haft⟩ := hi
    have ho : ops[i]? = some ops[i] := Array.getElem?_eq_getElem hi
    generalize ops[i] = o at ho
    rw [ho] at haft
    simp only [Option.map_some, Option.getD_some] at haft
    obtain ⟨h3, h4⟩ := hopn i o ho
    have hlk : ∀ s ∈ look ops o, s ∈ L := fun s hs => by
      obtain ⟨e, he, hb, o2, e2, e3⟩ := h4 s hs
      have := Array.all_eq_true_iff_forall_mem.1 haft e he
      simp only [hb, Bool.not_true, Bool.false_or] at this
      refine hI.all e.on o2 s e2 ?_ e3
      have h5 : e.on < listed.size := by rw [hl]; exact (Array.getElem?_eq_some_iff.1 e2).1
      simp only [Array.getD_eq_getD_getElem?, Array.getElem?_eq_getElem h5, Option.getD_some] at this ⊢
      exact this
    have hst := hs i o ho (fun j => listed.getD j true) vs w hf (fun e he hb => by
      have := Array.all_eq_true_iff_forall_mem.1 haft e he
      simp only [hb, Bool.not_true, Bool.false_or] at this
      have h5 : e.on < listed.size := by have h6 := h3 e he hb; have h7 := (Array.getElem?_eq_some_iff.1 ho).1; rw [hl]; omega
      simp only [Array.getD_eq_getD_getElem?, Array.getElem?_eq_getElem h5, Option.getD_some] at this ⊢
      exact this) hI.clo hI.st fun s hs => hI.fact s (hlk s hs)
    have hagree : ∀ t ∈ o.looksAt ops, a.tmps[t]? = (puts a0 (look ops o) vs).tmps[t]? := by
      intro t ht
      rw [hI.act, puts_at, puts_at]
      by_cases hL : t ∈ L
      · have : t ∈ look ops o := List.mem_filter.2 ⟨ht, by simpa using hI.sub t hL⟩
        rw [if_pos hL, if_pos this]
      · rw [if_neg hL, if_neg fun e => hL (hlk t e)]
    have hselo : ∀ cs b, o.op ≠ .select cs b := fun cs b => Region.noSelect_spec hsel i o cs b ho
    have hex : execOp a.eval o = execOp (puts a0 (look ops o) vs).eval o := execOp_congr o hselo fun x hx => by
      cases x with
      | tmp t =>
        have := hagree t (List.mem_append_left _ (List.mem_filterMap.2 ⟨.tmp t, by simpa using hx, rfl⟩))
        simp only [Act.eval, Array.getD_eq_getD_getElem?, this]
      | _ => rfl
    have hwt : Region.wanted o (yielded ops a.tmps) = Region.wanted o (yielded ops (puts a0 (look ops o) vs).tmps) := by
      unfold Region.wanted
      cases hg : o.guard with
      | none => rfl
      | some gw =>
        obtain ⟨g, want⟩ := gw
        have hy : yielded ops a.tmps g = yielded ops (puts a0 (look ops o) vs).tmps g := by
          unfold yielded
          cases ht : (ops[g]?).bind (·.dst) with
          | none => rfl
          | some t =>
            have := hagree t (by simp [Oper.looksAt, hg, ht])
            simp only [Option.bind_some, this]
        simp only [hy]
    have hil : i < listed.size := by rw [hl]; exact (Array.getElem?_eq_some_iff.1 ho).1
    have hcnt : ((listed.setIfInBounds i true).toList.countP fun b => !b) ≤ fuel := by
      have e1 : listed.toList[i]? = some false := by
        rw [Array.getElem?_toList, Array.getElem?_eq_getElem hil]
        simp only [Array.getD_eq_getD_getElem?, Array.getElem?_eq_getElem hil, Option.getD_some] at hf
        rw [hf]
      have : ∀ (l : List Bool) (k : Nat), l[k]? = some false → ((l.set k true).countP fun b => !b) + 1 = l.countP fun b => !b := by
        intro l
        induction l with
        | nil => intro k h; simp at h
        | cons b l ih2 =>
          intro k h
          cases k with
          | zero =>
            have : b = false := by simpa using h
            subst this
            simp
          | succ k =>
            have := ih2 k (by simpa using h)
            simp only [List.set_cons_succ, List.countP_cons]
            omega
      have h2 := this _ i e1
      rw [Array.toList_setIfInBounds]
      omega
    have hupd : (fun j => (listed.setIfInBounds i true).getD j true) = upd (fun j => listed.getD j true) i := funext fun j => by
      unfold upd
      by_cases e : j = i
      · subst e
        simp [Array.getD_eq_getD_getElem?, hil]
      · rw [if_neg e]
        simp only [Array.getD_eq_getD_getElem?, Array.getElem?_setIfInBounds_ne (fun h => e h.symm)]
    have hclo : CloS md ops (fun j => (listed.setIfInBounds i true).getD j true) := by
      rw [hupd]
      intro j o2 hj hl2 e he hb
      have hst : listed.getD e.on true = true := by
        by_cases ej : j = i
        · subst ej
          rw [ho] at hj
          injection hj with hj
          subst hj
          have := Array.all_eq_true_iff_forall_mem.1 haft e he
          simp only [hb, Bool.not_true, Bool.false_or] at this
          have h5 : e.on < listed.size := by have h6 := h3 e he hb; omega
          simp only [Array.getD_eq_getD_getElem?, Array.getElem?_eq_getElem h5, Option.getD_some] at this ⊢
          exact this
        · refine hI.clo j o2 hj ?_ e he hb
          unfold upd at hl2
          rwa [if_neg ej] at hl2
      unfold upd
      split
      · rfl
      · exact hst
    have hall2 : ∀ (L2 : List Tmp), (∀ s ∈ L, s ∈ L2) → (∀ d, o.dst = some d → d ∈ L2) → ∀ j o2 d2, ops[j]? = some o2 → (listed.setIfInBounds i true).getD j true = true → o2.dst = some d2 → d2 ∈ L2 := by
      intro L2 hs1 hs2 j o2 d2 hj hl2 hd2
      by_cases e : i = j
      · subst e
        rw [ho] at hj
        injection hj with hj
        subst hj
        exact hs2 _ hd2
      · refine hs1 _ (hI.all j o2 d2 hj ?_ hd2)
        simpa only [Array.getD_eq_getD_getElem?, Array.getElem?_setIfInBounds_ne e] using hl2
    have next : ∀ u w', (∀ d, o.dst = some d → T d u) → J (upd (fun j => listed.getD j true) i) (updv vs o.dst u) w' → wpAny P md ops Q fuel (listed.setIfInBounds i true) (a.put o.dst u) w' := by
      intro u w' ht hj
      cases hd : o.dst with
      | none =>
        rw [hd] at hj
        refine ih _ _ _ L vs (by simpa using hl) hcnt ⟨hI.act, hI.fact, by rw [hupd]; exact hj, hclo, hall2 L (fun _ h => h) (fun d h => by rw [hd] at h; cases h), hI.sub⟩
      | some d =>
        rw [hd] at hj
        have hdl : d < a0.tmps.size := hsz d (List.mem_filterMap.2 ⟨o, hmem i o ho, hd⟩)
        refine ih _ _ _ (d :: L) (fun t => if t = d then u else vs t) (by simpa using hl) hcnt ⟨?_, ?_, by rw [hupd]; exact hj, hclo, hall2 _ (fun _ h => List.mem_cons_of_mem _ h) (fun d' h => by rw [hd] at h; injection h with h; subst h; simp), ?_⟩
        · rw [hI.act]
          refine act_ext (fun t => ?_) (by rw [puts_defers]; exact puts_defers _ _ _)
          rw [puts_at]
          simp only [Act.put, Array.getElem?_setIfInBounds, puts_at, puts_size]
          by_cases e : t = d
          · subst e
            simp [hdl]
          · have e' : ¬ d = t := fun h => e h.symm
            simp [e, e']
        · intro s hs'
          rcases List.mem_cons.1 hs' with e | hs'
          · subst e; simpa using ht _ hd
          · by_cases e : s = d
            · subst e; simpa using ht _ hd
            · simp only [e, if_false]
              exact hI.fact s hs'
        · intro s hs'
          rcases List.mem_cons.1 hs' with e | hs'
          · subst e; exact List.mem_filterMap.2 ⟨o, hmem i o ho, hd⟩
          · exact hI.sub s hs'
    unfold wpOp
    rw [ho]
    simp only [hwt]
    rcases hst with ⟨hw, hwp⟩ | ⟨hw, hu, hj⟩
    · rw [if_pos hw]
      refine .inl ?_
      unfold Oper.wp at hwp ⊢
      rw [hex]
      refine upon_to (fun d' w' hk => ?_) (fun u w' hk => ?_) hwp
      · have := hk.1
        cases hd : o.dst <;> (rw [hd] at this; simp only [Act.put, puts_defers] at this; exact absurd (congrArg List.length this) (by simp))
      have hk2 := hk.2 u (fun d hd => by
        have hdl : d < a0.tmps.size := hsz d (List.mem_filterMap.2 ⟨o, hmem i o ho, hd⟩)
        rw [hd]
        simp only [Act.put, Array.getD_eq_getD_getElem?, Array.getElem?_setIfInBounds, puts_size]
        simp [hdl])
      exact next u w' hk2.1 hk2.2
    · rw [if_neg (by rw [hw]; simp)]
      exact next undef w hu hj

/-- For all values that the slots' words allow. -/
def forAll (T : Tmp → Value → Prop) : List Tmp → (Tmp → Value) → Act → ((Tmp → Value) → Act → Prop) → Prop
  | [], vs, a, G => G vs a
  | s :: ss, vs, a, G => T s (vs s) → forAll T ss vs (a.put (some s) (vs s)) G
theorem forAll.at_ {G : (Tmp → Value) → Act → Prop} : ∀ {ss : List Tmp} {vs : Tmp → Value} {a : Act}, forAll T ss vs a G → (∀ s ∈ ss, T s (vs s)) → G vs (puts a ss vs)
  | [], _, _, h, _ => h
  | s :: ss, vs, a, h, k => forAll.at_ (ss := ss) (h (k s (by simp))) fun t ht => k t (by simp [ht])
def StepV (P : Program) (ops : Array Oper) (T : Tmp → Value → Prop) (J : (Nat → Bool) → (Tmp → Value) → World → Prop) (a0 : Act) (i : Nat) (o : Oper) (L : Nat → Bool) (w : World) (vs : Tmp → Value) (a : Act) : Prop :=
    (Region.wanted o (yielded ops a.tmps) = true ∧ o.wp P a w (fun a' w' => a'.defers = a0.defers ∧ ∀ u, (∀ d, o.dst = some d → a'.tmps.getD d undef = u) → (∀ d, o.dst = some d → T d u) ∧ J (upd L i) (updv vs o.dst u) w') fun _ _ _ => False) ∨
    (Region.wanted o (yielded ops a.tmps) = false ∧ (∀ d, o.dst = some d → T d undef) ∧ J (upd L i) (updv vs o.dst undef) w)
theorem StepS.of {i : Nat} {o : Oper} (ss : List Tmp) (e : look ops o = ss)
    (h : ∀ (L : Nat → Bool) (vs : Tmp → Value) (w : World), L i = false → (∀ e ∈ o.after, Region.binds md e = true → L e.on = true) → CloS md ops L → J L vs w → forAll T ss vs a0 fun vs a => StepV P ops T J a0 i o L w vs a) : StepS P md ops T J a0 i o := by
  subst e
  intro L vs w h1 h2 h3 h4 h5
  exact (h L vs w h1 h2 h3 h4).at_ h5
/-- An operation that gives a value. -/
theorem StepV.val {i : Nat} {o : Oper} {L : Nat → Bool} {vs : Tmp → Value} {a : Act} {w w' : World} {v : Value} (d : Tmp) (hw : Region.wanted o (yielded ops a.tmps) = true) (hrun : (execOp a.eval o).run P w = .ok (.value v) w') (hd : o.dst = some d) (hs : d < a.tmps.size) (hf : a.defers = a0.defers)
    (ht : T d v) (hj : J (upd L i) (updv vs (some d) v) w') : StepV P ops T J a0 i o L w vs a := by
  refine .inl ⟨hw, ?_⟩
  unfold Oper.wp
  rw [hrun]
  refine ⟨by rw [hd]; exact hf, fun u hu => ?_⟩
  have e := hu d hd
  rw [hd, put_getD a v hs] at e
  subst e
  exact ⟨fun d' hd' => by rw [hd] at hd'; injection hd' with hd'; subst hd'; exact ht, by rw [hd]; exact hj⟩
/-- A store. -/
theorem StepV.put {i : Nat} {o : Oper} {L : Nat → Bool} {vs : Tmp → Value} {a : Act} {w w' : World} {v : Value} (hw : Region.wanted o (yielded ops a.tmps) = true) (hrun : (execOp a.eval o).run P w = .ok (.value v) w') (hd : o.dst = none) (hf : a.defers = a0.defers)
    (hj : J (upd L i) vs w') : StepV P ops T J a0 i o L w vs a := by
  refine .inl ⟨hw, ?_⟩
  unfold Oper.wp
  rw [hrun]
  refine ⟨by rw [hd]; exact hf, fun u hu => ⟨fun d' hd' => (by rw [hd] at hd'; cases hd'), by rw [hd]; exact hj⟩⟩
theorem StepV.skip {i : Nat} {o : Oper} {L : Nat → Bool} {vs : Tmp → Value} {a : Act} {w w' : World} (hw : Region.wanted o (yielded ops a.tmps) = true) (hrun : (execOp a.eval o).run P w = .ok .skip w') (hd : o.dst = none) (hf : a.defers = a0.defers)
    (hj : J (upd L i) vs w') : StepV P ops T J a0 i o L w vs a := by
  refine .inl ⟨hw, ?_⟩
  unfold Oper.wp
  rw [hrun]
  refine ⟨by rw [hd]; exact hf, fun u hu => ⟨fun d' hd' => (by rw [hd] at hd'; cases hd'), by rw [hd]; exact hj⟩⟩
theorem StepV.call {i : Nat} {o : Oper} {L : Nat → Bool} {vs : Tmp → Value} {a : Act} {w w1 : World} {f : FuncId} {args : Array Value} (d : Tmp) (hw : Region.wanted o (yielded ops a.tmps) = true) (hrun : (execOp a.eval o).run P w = .ok (.enter f args) w1) (hd : o.dst = some d) (hs : d < a.tmps.size) (hf : a.defers = a0.defers)
    (hc : Calls P f args w1 fun e w' => ∃ v, e = .returned v ∧ T d v ∧ J (upd L i) (updv vs (some d) v) w') : StepV P ops T J a0 i o L w vs a := by
  refine .inl ⟨hw, ?_⟩
  unfold Oper.wp
  rw [hrun]
  refine Calls.mono hc ?_
  rintro e w' ⟨v, rfl, ht, hj⟩
  refine ⟨by rw [hd]; exact hf, fun u hu => ?_⟩
  have e := hu d hd
  rw [hd, put_getD a v hs] at e
  subst e
  exact ⟨fun d' hd' => by rw [hd] at hd'; injection hd' with hd'; subst hd'; exact ht, by rw [hd]; exact hj⟩
/-- An append onto a row of the call's own. -/
theorem StepV.app {i : Nat} {o : Oper} {L : Nat → Bool} {vs : Tmp → Value} {a : Act} {w0 w : World} {ps : List Piece} (d : Tmp) (hgd : o.guard = none) (s x : Operand) (t : TypeId)
    (ho : o.op = .call { callee := .builtin .append, args := #[s, x], argTypes := #[t, t] }) (hd : o.dst = some d) (hsz : d < a.tmps.size) (hf : a.defers = a0.defers) {e : TypeId} {z : Value} {size bytes : Nat} (st : SlTy P t e z size bytes) (k : Nat) {v : Value} {n : Nat} {xs : List Value} (hO : Own w0 w ps) (hp : ps[k]? = some (row e size v n xs)) (hs : a.eval s = v)
    {A : Option Addr} {m c : Nat} (hx : a.eval x = .slice A m c) (N : Nat) (XS : List Value) (news : List Value)
    (hN : n + m = N) (hX : xs ++ news = XS) (hr : Rd w A news) (hm : news.length = m * size) (h1 : ∀ u ∈ news, u.oneCell' = true) (h63 : n + m ≤ maxLen) (hbytes : (n + m) * bytes ≤ 140737488355328)
    (h : ∀ A' c' w', Own w0 w' (ps.set k (row e size (.slice A' N c') N XS)) → T d (.slice A' N c') ∧ J (upd L i) (updv vs (some d) (.slice A' N c')) w') : StepV P ops T J a0 i o L w vs a := by
  obtain ⟨A', c', w', hrun, h2, _⟩ := run_appP (P := P) (ty := o.type) st k hO hp hr hm h1 h63 hbytes
  subst hN; subst hX
  obtain ⟨ht, hj⟩ := h A' c' w' h2
  refine .inl ⟨by simp [Region.wanted, hgd], wp_app w s x t ho v _ hs hx hrun ⟨by rw [hd]; exact hf, fun u hu => ?_⟩⟩
  have e := hu d hd
  rw [hd, put_getD a _ hsz] at e
  subst e
  exact ⟨fun d' hd' => by rw [hd] at hd'; injection hd' with hd'; subst hd'; exact ht, by rw [hd]; exact hj⟩
/-- The slots' words: a fixed value; the others hold anything. -/
def tabS (l : List (Tmp × Value)) (s : Tmp) (v : Value) : Prop := match l.lookup s with
  | none => True
  | some c => v = c
theorem wp_region_state {id : Nat} {w : World} {l : List Oper} (N : Nat) (tb : List (Tmp × Value)) (J : (Nat → Bool) → (Tmp → Value) → World → Prop) (hm : P.follows .mixedOrders = true) (hok : stOk .any l.toArray = true) (ss : List Tmp) (hss : slotsOf l.toArray = ss) (hN : a0.tmps.size = N) (hsz : (ss.all fun s => decide (s < N)) = true)
    (K : Nat) (hK : l.length = K) (h0 : ∀ L : Nat → Bool, (∀ j, j < K → L j = false) → J L (fun _ => undef) w.drew) (hs : StepsS P .any l.toArray (tabS tb) J a0 0 l)
    (hdone : ∀ vs w', J (fun _ => true) vs w' → forAll (tabS tb) ss vs a0 fun _ a => Q .normal a w') : (Code.region id l.toArray true).wp P Q a0 w := by
  refine wp_region_any hm ?_
  subst hss
  refine wpAny_state (md := .any) (J := J) (T := tabS tb) (a0 := a0) hok (fun s h => ?_) (fun i o ho => by have := hs.at_ i o (by simpa using ho); rwa [Nat.zero_add] at this)
    (fun vs w' hj hT => (hdone vs w' hj).at_ hT) _ _ a0 _ [] (fun _ => undef) (by simp) ?_ ⟨rfl, fun _ h => by simp at h, ?_, fun j o h1 h2 => ?_, fun j o d h1 h2 _ => ?_, fun _ h => by simp at h⟩
  · rw [hN]
    simpa using List.all_eq_true.1 hsz s h
  · refine Nat.le_trans List.countP_le_length ?_
    simp
  · have e : (fun j => (Array.replicate l.toArray.size false).getD j true) = fun j => decide (l.length ≤ j) := funext fun j => by
      by_cases hj : j < l.length
      · simp [Array.getD_eq_getD_getElem?, hj]
      · simp [Array.getD_eq_getD_getElem?, hj]
        omega
    rw [e]
    exact h0 _ fun j hj => by rw [hK]; simp; omega
  · have hj : j < l.length := by simpa using (Array.getElem?_eq_some_iff.1 h1).1
    simp [hj] at h2
  · have hj : j < l.length := by simpa using (Array.getElem?_eq_some_iff.1 h1).1
    simp [hj] at h2
end
end Go.Proofs.Ytmjbbihbcbhaoaa
