/- Rates: the scores of different persons by groups: a map of slices that the call makes. No condition. -/
import Derived.Test.YtnalbchggjepdaaGa
import Derived.Test.YtnalbchggjepdaaSt
import Derived.Maps.OwnRows
import Derived.Maps.Views
namespace Go.Proofs.Ytnalbchggjepdaa
open Go.RowKit Go.Maps Go.ChangeShapes
open Go.WideElems (Fit rd rg rd_val)
attribute [local go_sem] Oper.semAt_some

theorem keyedI : Keyed Try.prog 3 := int_keyed Try.underlying3
theorem grown_of_below' {w w' : World} (h : Below w.heap.size w w') : w.grownBy w' none := ⟨h.os, h.tape, h.output, h.size, fun i hi _ => h.block i hi⟩
/-- Such a map where memory has only grown. -/
theorem groups_keep {P : Program} {w w' : World} {k : TypeId} {base : Nat} {e : TypeId} {q : IntKind} {b n n' : Nat} {D : DataW Unit} (h : w.ownsGroups P k base e q b n D) (hg : w.grownBy w' none) (hn : n ≤ n') : w'.ownsGroups P k base e q b n' D := by
  obtain ⟨es, clock, hb, F, hs, rfl, hbb, hlen, hap⟩ := h
  have hblt : b < w.heap.size := (Array.getElem?_eq_some_iff.1 hb).1
  have owned : ∀ x ∈ es.toList, ∃ zs, w.ownsInts base e q x.val zs := fun x hx => by
    obtain ⟨y, hy⟩ := F.reads x hx
    obtain ⟨z, hz, _⟩ := rd_val hy
    obtain ⟨zs, ho, _⟩ := rowElem_inv hz
    exact ⟨zs, ho⟩
  have ne : ∀ v : Value, v.ownBlock = none ∨ v.ownBlock ≠ (none : Option Nat) := fun v => by
    cases v.ownBlock with
    | none => exact Or.inl rfl
    | some g => exact Or.inr (by simp)
  obtain ⟨F2, hmap2, _⟩ := F.stay (R' := rowElem (H := Unit) w' base e q) (fun x _ z hz => by
    obtain ⟨zs, ho, rfl⟩ := rowElem_inv hz
    exact rowElem_mk (ho.kept hg (ne _)))
  refine ⟨es, clock, (hg.block b hblt (by simp)).trans hb, F2, Nat.le_trans hs hn, by rw [hmap2], hbb, fun x hx zs ho => ?_, hap⟩
  obtain ⟨zs0, ho0⟩ := owned x hx
  rw [ho.unique (ho0.kept hg (ne _))]
  exact Nat.le_trans (hlen x hx zs0 ho0) hn
theorem zero36 (w : World) : (zeroValue 36).run Try.prog w = .ok (.slice none 0 0) w := by kernel_rfl
theorem StepV.appR {P : Program} {ops : Array Oper} {T : Tmp → Value → Prop} {J : (Nat → Bool) → (Tmp → Value) → World → Prop} {a0 : Act} {i : Nat} {o : Oper} {L : Nat → Bool} {vs : Tmp → Value} {a : Act} {w w' : World} {v u v' : Value} (d : Tmp) (hgd : o.guard = none) (s x : Operand) (t : TypeId)
    (ho : o.op = .call { callee := .builtin .append, args := #[s, x], argTypes := #[t, t] }) (hd : o.dst = some d) (hsz : d < a.tmps.size) (hf : a.defers = a0.defers) (hs : a.eval s = v) (hx : a.eval x = u)
    (hrun : (Builtin.append_ #[t, t] o.type #[v, u]).run P w = .ok v' w') (h : T d v' ∧ J (upd L i) (updv vs (some d) v') w') : StepV P ops T J a0 i o L w vs a := by
  obtain ⟨ht, hj⟩ := h
  refine .inl ⟨by simp [Region.wanted, hgd], wp_app w s x t ho v _ hs hx hrun ⟨by rw [hd]; exact hf, fun u hu => ?_⟩⟩
  have e := hu d hd
  rw [hd, put_getD a _ hsz] at e
  subst e
  exact ⟨fun d' hd' => by rw [hd] at hd'; injection hd' with hd'; subst hd'; exact ht, by rw [hd]; exact hj⟩
/-- What a group reads as: nil, or its scores. -/
def datD (zs : List Int) : DataW Unit := if zs = [] then .nil else .slice (lits .i64 zs) []
theorem lits_inj {a b : List Int} (h : lits (H := Unit) .i64 a = lits .i64 b) : a = b := by
  unfold lits at h
  exact (List.map_inj_right (fun x y e => by injection e with e; injection e)).1 h
theorem datD_inj {a b : List Int} (h : datD a = datD b) : a = b := by
  unfold datD at h
  by_cases ha : a = [] <;> by_cases hb : b = []
  · rw [ha, hb]
  · rw [if_pos ha, if_neg hb] at h; cases h
  · rw [if_neg ha, if_pos hb] at h; cases h
  · rw [if_neg ha, if_neg hb] at h
    injection h with h _
    exact lits_inj h
theorem rowDatum_is {w : World} {base : Nat} {e : TypeId} {v : Value} {zs : List Int} (h : w.ownsInts base e .i64 v zs) : rowDatum (H := Unit) .i64 v zs = datD zs ∨ (rowDatum (H := Unit) .i64 v zs = .slice [] [] ∧ zs = []) := by
  unfold datD
  rcases h.datum (H := Unit) with ⟨h1, h2⟩ | h1
  · left; rw [h1, if_pos h2]
  · by_cases hz : zs = []
    · right; rw [h1, hz]; exact ⟨rfl, rfl⟩
    · left; rw [h1, if_neg hz]
/-- The map reads as the groups of a list. -/
def GS (D : DataW Unit) (l : List Dbl) : Prop := (IsMap D ∧ ∀ g : Int, Maps.has D (.int .i64 g) = true → dif l g ≠ []) ∧ ∀ g : Int, (Lit.int .i64 g).wf = true → D.atKey (.int .i64 g) .nil = datD (dif l g)
theorem GS_start : GS (.map []) [] := ⟨⟨isMap_empty, fun g h => by cases h⟩, fun _ _ => rfl⟩
theorem GS_zs {D : DataW Unit} {l : List Dbl} (h : GS D l) {w : World} {base : Nat} {e : TypeId} {v : Value} {zs : List Int} {g : Int} (hg : (Lit.int .i64 g).wf = true) (ho : w.ownsInts base e .i64 v zs) (hat : D.atKey (.int .i64 g) .nil = rowDatum .i64 v zs) : zs = dif l g := by
  have h1 := h.2 g hg
  rw [hat] at h1
  rcases rowDatum_is ho with h2 | ⟨h2, h3⟩
  · rw [h2] at h1; exact datD_inj h1
  · rw [h2] at h1
    unfold datD at h1
    split at h1
    · cases h1
    · rename_i hne
      injection h1 with h1 _
      exact absurd (lits_inj (a := dif l g) (b := []) h1.symm) hne
theorem keyLit {g : Int} (hg : (Lit.int .i64 g).wf = true) : WideAt.IsKeyLit (.int .i64 g) := keyedI.key (keyOf_int_mk Try.underlying3 hg)
theorem GS_put {D : DataW Unit} {l : List Dbl} {k : Nat} (hk : k < l.length) (h : GS D (l.take k)) (hs : l[k].same = false) (hg : (Lit.int .i64 l[k].a).wf = true) {d : DataW Unit} (hd : d = datD (dif (l.take k) l[k].a ++ [l[k].b])) : GS (D.put (.int .i64 l[k].a) d) (l.take (k + 1)) := by
  refine ⟨⟨h.1.1.put _ _, fun g hh => ?_⟩, fun g hgw => ?_⟩
  · rw [dif_take hk]
    by_cases c : l[k].a = g
    · rw [if_pos (by simp [difB, hs, c])]; simp
    · rw [if_neg (by simp [difB, c])]
      exact h.1.2 g (by rwa [has_put_other (by intro e; exact c (Lit.int.inj e).2.symm)] at hh)
  rw [dif_take hk]
  by_cases c : l[k].a = g
  · subst c
    rw [if_pos (by simp [difB, hs]), atKey_put_same h.1.1 (keyLit hg), hd]
  · rw [if_neg (by simp [difB, c]), atKey_put_other (by intro e; exact c (Lit.int.inj e).2.symm)]
    exact h.2 g hgw
theorem GS_same {D : DataW Unit} {l : List Dbl} {k : Nat} (hk : k < l.length) (h : GS D (l.take k)) (hs : l[k].same = true) : GS D (l.take (k + 1)) :=
  ⟨⟨h.1.1, fun g hh => by rw [dif_take hk, if_neg (by simp [difB, hs])]; exact h.1.2 g hh⟩, fun g hgw => by rw [dif_take hk, if_neg (by simp [difB, hs])]; exact h.2 g hgw⟩
theorem wf_small {x : Int} (h : 0 ≤ x ∧ x ≤ 1000) : (Lit.int .i64 x).wf = true := WalkArith.wf_i64 (by omega)
/-- The state of the region: the look-up, the append, the store. -/
def GJ (w : World) (B B5 k : Nat) (D : DataW Unit) (xa xb : Int) (xs : Bool) (L : Nat → Bool) (vs : Tmp → Value) (w' : World) : Prop :=
  Below w.heap.size w w' ∧ B + 1 ≤ w'.heap.size ∧ w'.heap[B5]? = some (.cells #[.int .i64 xa, .int .i64 xb, .bool xs] 64 (0, 0)) ∧
  (L 9 = true → L 10 = false → ∃ b9, vs 25 = .slice (some ⟨b9, 0, none⟩) 1 1 ∧ w'.cell? ⟨b9, 0, none⟩ = some (.int .i64 xb)) ∧
  match L 6, L 10, L 11 with
  | false, _, _ => L 10 = false ∧ L 11 = false ∧ w'.ownsGroups Try.prog 3 (B + 1) 3 .i64 B k D
  | true, false, _ => L 11 = false ∧ ∃ (wl : World) (zs : List Int), wl.grownBy w' none ∧ w'.ownsInts (B + 1) 3 .i64 (vs 22) zs ∧ D.atKey (.int .i64 xa) .nil = rowDatum .i64 (vs 22) zs ∧ zs.length ≤ k ∧ wl.groupBack Try.prog 110 3 (B + 1) 3 .i64 B k D (.int .i64 xa) (.int .i64 xa) (vs 22)
  | true, true, false => ∃ (wl : World) (u : Value) (zs : List Int), wl.grownBy w' u.ownBlock ∧ w'.ownsInts (B + 1) 3 .i64 (vs 26) (zs ++ [xb]) ∧ D.atKey (.int .i64 xa) .nil = rowDatum .i64 u zs ∧ zs.length ≤ k ∧ wl.groupBack Try.prog 110 3 (B + 1) 3 .i64 B k D (.int .i64 xa) (.int .i64 xa) u ∧
      (rowDatum (H := Unit) .i64 u zs = datD zs ∨ (rowDatum (H := Unit) .i64 u zs = .slice [] [] ∧ zs = [])) ∧ ((vs 26).ownBlock = u.ownBlock ∨ ∃ g, (vs 26).ownBlock = some g ∧ wl.heap.size ≤ g)
  | true, true, true => ∃ (u : Value) (zs : List Int), D.atKey (.int .i64 xa) .nil = rowDatum .i64 u zs ∧ (rowDatum (H := Unit) .i64 u zs = datD zs ∨ (rowDatum (H := Unit) .i64 u zs = .slice [] [] ∧ zs = [])) ∧ w'.ownsGroups Try.prog 3 (B + 1) 3 .i64 B (k + 1) (D.put (.int .i64 xa) (.slice (lits .i64 (zs ++ [xb])) []))
set_option maxRecDepth 100000 in
set_option maxHeartbeats 8000000 in
theorem groups_any (A : Option Addr) (l : List Dbl) (n c : Nat) (w : World) (hr : Rd w A (flat encD l)) (hn : n = l.length) (hl : n ≤ 1000000) (hok : okT l = true) :
    Calls Try.prog 62 #[.slice A n c] w fun e w' => e = .returned (.map (some w.heap.size)) ∧ Below w.heap.size w w' ∧ ∃ D, GS D l ∧ w'.ownsGroups Try.prog 3 (w.heap.size + 1) 3 .i64 w.heap.size n D := by
  have HN := Lib.hid hn
  have HR := Lib.hid hr
  have HOK := Lib.hid hok
  have hmm := @run_makeMap Try.prog
  obtain ⟨B, hB⟩ : ∃ B, B = w.heap.size := ⟨_, rfl⟩
  have S0 := Lib.hid (World.ownsGroups_made (H := Unit) w Try.prog 3 3 .i64)
  have S1 := Lib.hid (below_alloc w (.map #[] 0))
  have S2 := Lib.hid (show B + 1 ≤ (w.alloc (.map #[] 0)).heap.size by simp [hB])
  rw [← hB] at S0 ⊢
  replace hB := Lib.hid hB
  clear hr hn hok
  go_enter Try.func62, Try.ntmps62
  go_wp2_with fail
  rw [← hB.out]
  generalize w.alloc _ = w1 at *
  clear hmm
  go_loopg [9] n (fun q u9 wr => ∃ k : Nat, k ≤ n ∧ u9 = .int .i64 (k : Nat) ∧ Hid (k + q = n ∧ Below w.heap.size w wr ∧ B + 1 ≤ wr.heap.size ∧ ∃ D, GS D (l.take k) ∧ wr.ownsGroups Try.prog 3 (B + 1) 3 .i64 B k D))
  case atStart => exact ⟨0, by omega, rfl, by omega, by rw [← hB.out]; exact hB.out ▸ S1.out, S2.out, _, GS_start, S0.out⟩
  case round =>
    obtain ⟨k, hk, rfl, hI⟩ := hrel
    have I1 := Lib.hid hI.out.1
    have I2 := Lib.hid hI.out.2.1
    have I3 := Lib.hid hI.out.2.2.1
    obtain ⟨D, hD1, hD2⟩ := hI.out.2.2.2
    have HD1 := Lib.hid hD1
    have HD2 := Lib.hid hD2
    clear hI S0 S1 S2 hD1 hD2
    by_cases hlt : k < n
    case neg => as_aux_lemma =>
      obtain rfl : n = k := by omega
      have hni : ¬ (n : Int) < (n : Int) := by omega
      have HT := Lib.hid (show l.take n = l by rw [List.take_of_length_le (by rw [← HN.out]; exact Nat.le_refl _)])
      rw [HT.out] at HD1
      go_wp2_with fail
      go_ret
      exact ⟨rfl, by rw [hB.out]; exact I2.out, D, HD1.out, HD2.out⟩
    have hil : k < l.length := by rw [← HN.out]; exact hlt
    have hix : (k : Int) < (n : Int) := by omega
    have z1 : IntKind.i64.wrap ((k : Int) + 1) = ((k + 1 : Nat) : Int) := by rw [show (k : Int) + 1 = ((k + 1 : Nat) : Int) by omega]; exact IntWalk.i64_in _ (by omega)
    obtain ⟨bb, off, rfl, hbs, c0, c1, c2⟩ := (HR.out.below I2.out).dbl hil
    have HWF := Lib.hid (show (0 ≤ l[k].a ∧ l[k].a ≤ 1000) ∧ 0 ≤ l[k].b ∧ l[k].b ≤ 1000 by
      have := List.all_eq_true.1 HOK.out l[k] (List.getElem_mem hil)
      simp only [trB, inB, Bool.and_eq_true, decide_eq_true_eq] at this
      omega)
    have HP := Lib.hid (fun (hs : l[k].same = false) zs (hz : zs = dif (l.take k) l[k].a) => GS_put hil HD1.out hs (wf_small HWF.out.1) (d := .slice (lits .i64 (zs ++ [l[k].b])) []) (by rw [hz]; unfold datD; rw [if_neg (by simp)]))
    have HS := Lib.hid (fun hs => GS_same hil HD1.out hs)
    generalize l[k] = x at *
    obtain ⟨xa, xb, xs⟩ := x
    simp only at c0 c1 c2 HWF HP HS
    clear hil
    obtain ⟨B5, hB5⟩ : ∃ B5, B5 = wr.heap.size := ⟨_, rfl⟩
    have HB5 := Lib.hid (show (wr.alloc (.cells #[.int .i64 xa, .int .i64 xb, .bool xs] 64)).heap[B5]? = some (.cells #[.int .i64 xa, .int .i64 xb, .bool xs] 64 (0, 0)) by rw [hB5]; exact heap_alloc_new _ _)
    have HBX := Lib.hid (show Box (wr.alloc (.cells #[.int .i64 xa, .int .i64 xb, .bool xs] 64)) B5 [.int .i64 xa, .int .i64 xb, .bool xs] by rw [hB5]; exact Box.new wr 64 #[.int .i64 xa, .int .i64 xb, .bool xs])
    have J2 := Lib.hid (I2.out.alloc I2.out.size (.cells #[.int .i64 xa, .int .i64 xb, .bool xs] 64))
    have J3 := Lib.hid (show B + 1 ≤ (wr.alloc (.cells #[.int .i64 xa, .int .i64 xb, .bool xs] 64)).heap.size by have := I3.out; simp; omega)
    have J4 := Lib.hid (groups_keep HD2.out (World.grownBy_alloc wr (.cells #[.int .i64 xa, .int .i64 xb, .bool xs] 64) none) (Nat.le_refl _))
    have HBB := Lib.hid (show B < B5 by have := I3.out; omega)
    have HBW := Lib.hid (show w.heap.size ≤ B by rw [hB.out]; exact Nat.le_refl _)
    go_upto_region 5 with (fail)
    rw [← hB5]
    clear c0 c1 c2 hbs hB5 HD2 I2 I3
    generalize wr.alloc _ = w2 at *
    obtain ⟨d0, d1, d2, df⟩ := HBX.out.c3
    have dl := HBX.out.2.2
    rcases xs with _ | _
    case true => as_aux_lemma =>
      have HG := Lib.hid (HS.out rfl)
      go_wp2_with fail
      go_roundg (gk - 1)
      case measure => have := I1.out; omega
      case rel => exact ⟨k + 1, by omega, rfl, by have := I1.out; omega, J2.out, J3.out, D, HG.out, groups_keep J4.out (World.grownBy.refl _ _) (Nat.le_succ k)⟩
    · as_aux_lemma =>
      have HG := Lib.hid (HP.out rfl)
      clear HP HS
      go_upto_region 6 with (fail)
      refine wp_region_state 29 [(16, .map (some B)), (17, .pointer (some ⟨B5, 0, none⟩)), (18, .int .i64 xa), (19, .map (some B)), (20, .pointer (some ⟨B5, 0, none⟩)), (21, .int .i64 xa), (23, .pointer (some ⟨B5, 1, none⟩)), (24, .int .i64 xb)] (GJ w B B5 k D xa xb false) (by kernel_rfl) (by kernel_rfl) [16, 17, 18, 19, 20, 21, 22, 23, 24, 25, 26] (by kernel_rfl) rfl (by kernel_rfl) 12 rfl ?_ ?_ ?_
      · exact fun L hL => ⟨J2.out.drew, J3.out, HB5.out, fun h => (by rw [hL 9 (by decide)] at h; cases h), by rw [hL 6 (by decide)]; exact ⟨hL 10 (by decide), hL 11 (by decide), groups_keep J4.out (grown_of_below' (Below.refl _ _).drew) (Nat.le_refl _)⟩⟩
      · refine ⟨StepS.of [] (by kernel_rfl) ?_, ?_⟩
        · intro L vs wq hL hA hC hJ
          unfold forAll
          exact StepV.val 16 (by kernel_rfl) (by kernel_rfl) rfl (by simp) rfl rfl hJ
        refine ⟨StepS.of [] (by kernel_rfl) ?_, ?_⟩
        · intro L vs wq hL hA hC hJ
          unfold forAll
          exact StepV.val 17 (by kernel_rfl) (by go_simp) rfl (by simp) rfl rfl hJ
        refine ⟨StepS.of [17] (by kernel_rfl) ?_, ?_⟩
        · intro L vs wq hL hA hC hJ h17
          rw [(show vs 17 = .pointer (some ⟨B5, 0, none⟩) from h17)]
          unfold forAll
          have t0 : wq.cell? ⟨B5, 0, none⟩ = some (.int .i64 xa) := by simp [World.cell?, hJ.2.2.1]
          have t1 : wq.cell? ⟨B5, 1, none⟩ = some (.int .i64 xb) := by simp [World.cell?, hJ.2.2.1]
          have tl : B5 < wq.heap.size := (Array.getElem?_eq_some_iff.1 hJ.2.2.1).1
          exact StepV.val 18 (by kernel_rfl) (by go_simp) rfl (by simp [Act.put]) rfl rfl hJ
        refine ⟨StepS.of [] (by kernel_rfl) ?_, ?_⟩
        · intro L vs wq hL hA hC hJ
          unfold forAll
          exact StepV.val 19 (by kernel_rfl) (by kernel_rfl) rfl (by simp) rfl rfl hJ
        refine ⟨StepS.of [] (by kernel_rfl) ?_, ?_⟩
        · intro L vs wq hL hA hC hJ
          unfold forAll
          exact StepV.val 20 (by kernel_rfl) (by go_simp) rfl (by simp) rfl rfl hJ
        refine ⟨StepS.of [20] (by kernel_rfl) ?_, ?_⟩
        · intro L vs wq hL hA hC hJ h20
          rw [(show vs 20 = .pointer (some ⟨B5, 0, none⟩) from h20)]
          unfold forAll
          have t0 : wq.cell? ⟨B5, 0, none⟩ = some (.int .i64 xa) := by simp [World.cell?, hJ.2.2.1]
          have t1 : wq.cell? ⟨B5, 1, none⟩ = some (.int .i64 xb) := by simp [World.cell?, hJ.2.2.1]
          have tl : B5 < wq.heap.size := (Array.getElem?_eq_some_iff.1 hJ.2.2.1).1
          exact StepV.val 21 (by kernel_rfl) (by go_simp) rfl (by simp [Act.put]) rfl rfl hJ
        refine ⟨StepS.of [19, 21] (by kernel_rfl) ?_, ?_⟩
        · intro L vs wq hL hA hC hJ h19 h21
          rw [(show vs 19 = .map (some B) from h19), (show vs 21 = .int .i64 xa from h21)]
          unfold forAll
          have h10 := hC.no (j := 10) (i := 6) (by kernel_rfl) hL
          have h11 := hC.no (j := 11) (i := 10) (by kernel_rfl) h10
          obtain ⟨k1, k2, k3, k4, k5⟩ := hJ
          rw [hL] at k5
          obtain ⟨_, _, k5⟩ := k5
          obtain ⟨v, zs, hrun, hat, hoi, hzl, hback⟩ := k5.at keyedI Try.underlying110 (zero36 wq) (by unfold maxLen; omega) (keyOf_int_mk Try.underlying3 (wf_small HWF.out.1))
          refine StepV.val 22 (v := v) (w' := wq) (by kernel_rfl) (by simp [execOp, Act.eval, Act.put, hrun, Result.andThen]) rfl (by simp [Act.put]) rfl trivial ?_
          refine ⟨k1, k2, k3, ?_, ?_⟩
          · intro h9 _; exact k4 (by simpa [upd] using h9) h10
          · have e10 : upd L 6 10 = false := by simp [upd, h10]
            have e6 : upd L 6 6 = true := by simp [upd]
            have e11 : upd L 6 11 = false := by simp [upd, h11]
            rw [e6, e10, e11]
            exact ⟨rfl, wq, zs, World.grownBy.refl wq _, by simpa [updv] using hoi, by simpa [updv] using hat, hzl, by simpa [updv] using hback⟩
        refine ⟨StepS.of [] (by kernel_rfl) ?_, ?_⟩
        · intro L vs wq hL hA hC hJ
          unfold forAll
          exact StepV.val 23 (by kernel_rfl) (by go_simp) rfl (by simp) rfl rfl hJ
        refine ⟨StepS.of [23] (by kernel_rfl) ?_, ?_⟩
        · intro L vs wq hL hA hC hJ h23
          rw [(show vs 23 = .pointer (some ⟨B5, 1, none⟩) from h23)]
          unfold forAll
          have t0 : wq.cell? ⟨B5, 0, none⟩ = some (.int .i64 xa) := by simp [World.cell?, hJ.2.2.1]
          have t1 : wq.cell? ⟨B5, 1, none⟩ = some (.int .i64 xb) := by simp [World.cell?, hJ.2.2.1]
          have tl : B5 < wq.heap.size := (Array.getElem?_eq_some_iff.1 hJ.2.2.1).1
          exact StepV.val 24 (by kernel_rfl) (by go_simp) rfl (by simp [Act.put]) rfl rfl hJ
        refine ⟨StepS.of [24] (by kernel_rfl) ?_, ?_⟩
        · intro L vs wq hL hA hC hJ h24
          rw [(show vs 24 = .int .i64 xb from h24)]
          unfold forAll
          have h10 := hC.no (j := 10) (i := 9) (by kernel_rfl) hL
          have h11 := hC.no (j := 11) (i := 10) (by kernel_rfl) h10
          obtain ⟨k1, k2, k3, k4, k5⟩ := hJ
          have hg9 := World.grownBy_alloc wq (.cells #[.int .i64 xb] 3) none
          have tl : B5 < wq.heap.size := (Array.getElem?_eq_some_iff.1 k3).1
          refine StepV.val 25 (v := .slice (some ⟨wq.heap.size, 0, none⟩) 1 1) (w' := wq.alloc (.cells #[.int .i64 xb] 3)) (by kernel_rfl) (by go_simp) rfl (by simp [Act.put]) rfl trivial ?_
          refine ⟨k1.alloc k1.size _, by simp; omega, (hg9.block B5 tl (by simp)).trans k3, fun _ _ => ⟨wq.heap.size, by simp [updv], by rw [World.cell?_alloc_new]; rfl⟩, ?_⟩
          have e10 : upd L 9 10 = false := by simp [upd, h10]
          have e6 : upd L 9 6 = L 6 := by simp [upd]
          have e11 : upd L 9 11 = false := by simp [upd, h11]
          rw [e6, e10, e11]
          rw [h10, h11] at k5
          cases h6 : L 6
          · rw [h6] at k5
            obtain ⟨_, _, k5⟩ := k5
            exact ⟨rfl, rfl, groups_keep k5 hg9 (Nat.le_refl _)⟩
          · rw [h6] at k5
            obtain ⟨_, wl, zs, q1, q2, q3, q4, q5⟩ := k5
            exact ⟨rfl, wl, zs, q1.andThen hg9 (by simp), by simpa [updv] using q2.alloc _, by simpa [updv] using q3, q4, by simpa [updv] using q5⟩
        refine ⟨StepS.of [22, 25] (by kernel_rfl) ?_, ?_⟩
        · intro L vs wq hL hA hC hJ h22 h25
          unfold forAll
          have h6 := afterS hA (i := 6) (by kernel_rfl)
          have h9 := afterS hA (i := 9) (by kernel_rfl)
          have h11 := hC.no (j := 11) (i := 10) (by kernel_rfl) hL
          obtain ⟨k1, k2, k3, k4, k5⟩ := hJ
          obtain ⟨b9, e25, c9⟩ := k4 h9 hL
          rw [h6, hL, h11] at k5
          obtain ⟨_, wl, zs, q1, q2, q3, q4, q5⟩ := k5
          have tl : B5 < wq.heap.size := (Array.getElem?_eq_some_iff.1 k3).1
          rw [e25]
          obtain ⟨i0, hi, hz0, hz1, hz2⟩ := info_parts info3
          obtain ⟨v', w8, hrun, o1, o2, o3⟩ := run_app_own (P := Try.prog) wq (B + 1) 36 36 3 i0 (.int .i64 0) 1 8 Try.underlying36 hi hz0 hz1 hz2 rfl (by decide) (vs 22) zs.length (zs.map (Value.int .i64)) q2.1 (some ⟨b9, 0, none⟩) 1 1 [.int .i64 xb] (Rd.one c9) rfl (by simp [Value.oneCell']) (by unfold maxLen; omega) (by omega) k2
          have hne : some B5 ≠ (vs 22).ownBlock := by
            intro e
            rcases q2.1.2 with ⟨e0, _⟩ | ⟨g, cap, cur, e0, _, hh, _⟩
            · rw [e0] at e; cases e
            · rw [e0] at e
              injection e with e
              subst e
              rw [k3] at hh
              injection hh with hh
              injection hh with _ hh
              cases hh
          refine StepV.appR 26 rfl (.tmp 22) (.tmp 25) 36 rfl rfl (by simp [Act.put]) rfl (v := vs 22) (u := .slice (some ⟨b9, 0, none⟩) 1 1) (by simp [Act.eval, Act.put]) (by simp [Act.eval, Act.put]) hrun ⟨trivial, ?_⟩
          have hbel : Below w.heap.size w w8 := k1.grown o2 k1.size fun j hj => by have := (q2.1.lt j hj).1; have := HBW.out; omega
          refine ⟨hbel, Nat.le_trans k2 o2.size, (o2.block B5 tl hne).trans k3, fun _ h => by simp [upd] at h, ?_⟩
          have e10 : upd L 10 10 = true := by simp [upd]
          have e6 : upd L 10 6 = true := by simp [upd, h6]
          have e11 : upd L 10 11 = false := by simp [upd, h11]
          rw [e6, e10, e11]
          refine ⟨wl, vs 22, zs, (q1.but _).andThen o2 (fun j hj => .inr hj), by simpa [updv] using q2.appended o1 (wf_small HWF.out.2), q3, q4, q5, rowDatum_is q2, ?_⟩
          rcases o3 with o3 | o3
          · left; simpa [updv] using o3
          · right; exact ⟨wq.heap.size, by simpa [updv] using o3, q1.size⟩
        refine ⟨StepS.of [16, 18, 26] (by kernel_rfl) ?_, ?_⟩
        · intro L vs wq hL hA hC hJ h16 h18 h26
          rw [(show vs 16 = .map (some B) from h16), (show vs 18 = .int .i64 xa from h18)]
          unfold forAll
          have h10 := afterS hA (i := 10) (by kernel_rfl)
          have h6 := hC.yes (j := 10) (i := 6) (by kernel_rfl) h10
          obtain ⟨k1, k2, k3, k4, k5⟩ := hJ
          rw [h6, h10, hL] at k5
          obtain ⟨wl, u, zs, q1, q2, q3, q4, q5, q6, q7⟩ := k5
          obtain ⟨w8, hrun, o1, o2⟩ := q5 wq (vs 26) (zs ++ [xb]) q1 q2 (by simp; omega) q7
          rw [q2.datum_pos (by simp)] at o1
          refine StepV.skip (w' := w8) (by kernel_rfl) (by simp [execOp, Act.eval, Act.put, hrun, Result.andThen]) rfl rfl ?_
          have hbel : Below w.heap.size w w8 := k1.grown o2 k1.size fun j hj => by injection hj with hj; subst hj; exact HBW.out
          refine ⟨hbel, Nat.le_trans k2 o2.size, (o2.block B5 (Array.getElem?_eq_some_iff.1 k3).1 (by have := HBB.out; intro e; injection e with e; omega)).trans k3, fun h h' => by simp [upd, h10] at h', ?_⟩
          have e10 : upd L 11 10 = true := by simp [upd, h10]
          have e6 : upd L 11 6 = true := by simp [upd, h6]
          have e11 : upd L 11 11 = true := by simp [upd]
          rw [e6, e10, e11]
          exact ⟨u, zs, q3, q6, o1⟩
        exact trivial
      · intro vs w9 hJ h16 h17 h18 h19 h20 h21 h22 h23 h24 h25 h26
        rw [(show vs 16 = .map (some B) from h16), (show vs 17 = .pointer (some ⟨B5, 0, none⟩) from h17), (show vs 18 = .int .i64 xa from h18), (show vs 19 = .map (some B) from h19), (show vs 20 = .pointer (some ⟨B5, 0, none⟩) from h20), (show vs 21 = .int .i64 xa from h21), (show vs 23 = .pointer (some ⟨B5, 1, none⟩) from h23), (show vs 24 = .int .i64 xb from h24)]
        clear h16 h17 h18 h19 h20 h21 h22 h23 h24 h25 h26
        have HJ := Lib.hid hJ
        clear hJ
        unfold forAll
        simp only [Act.put, List.setIfInBounds_toArray, List.set_cons_zero, List.set_cons_succ]
        go_wp2_with fail
        go_roundg (gk - 1)
        case measure => have := I1.out; omega
        case rel =>
          obtain ⟨h1, h2, h3, h4, u, zs, h5, h6, h7⟩ := HJ.out
          have hz : zs = dif (l.take k) xa := by
            have h8 := HD1.out.2 xa (wf_small HWF.out.1)
            rw [h5] at h8
            rcases h6 with h6 | ⟨h6, h9⟩
            · rw [h6] at h8; exact datD_inj h8
            · rw [h6] at h8
              unfold datD at h8
              split at h8
              · cases h8
              · rename_i hne
                injection h8 with h8 _
                exact absurd (lits_inj (a := dif (l.take k) xa) (b := []) h8.symm) hne
          exact ⟨k + 1, by omega, rfl, by have := I1.out; omega, h1, h2, _, HG.out zs hz, h7⟩
end Go.Proofs.Ytnalbchggjepdaa
