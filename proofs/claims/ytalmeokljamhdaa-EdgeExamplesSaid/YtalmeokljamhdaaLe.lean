/- Changes: a set after changes, the list at a time and the decision online. -/
import Derived.Test.YtalmeokljamhdaaLd
namespace Go.Proofs.Ytalmeokljamhdaa
open Go.RowKit Go.Shelf
attribute [local go_sem] Oper.semAt_some

theorem box_own {β : Type} (B : Nat) (f : β → Value) (g : β → List Value) : Own (fun (x : β) W => Box W B (f x :: g x)) := by
  intro s W W' row h hg hr
  exact ⟨fun i u hu => cell_kept (h.1 i u hu) hg hr, fun o => by
    have h0 := h.1 0 (f s) rfl
    obtain ⟨o', ho, hc⟩ := cells_of_cell h0
    have hk := grownBy_keeps_cells hg hr ho hc
    rw [World.frozen?_of_block (a := ⟨B, o, none⟩) (w := W) (by rw [hk, ho])]
    exact h.2.1 o, by have := hg.size; have := h.2.2; omega⟩

theorem stepC_eq (s : BitVec 64) (c : Chg) (h : c.on = true) : (s &&& ~~~bitC c) ||| bitC c = stepC s c := by
  unfold stepC
  rw [if_pos h]
  apply BitVec.eq_of_getLsbD_eq
  intro i hi
  simp only [BitVec.getLsbD_or, BitVec.getLsbD_and, BitVec.getLsbD_not]
  cases s.getLsbD i <;> cases (bitC c).getLsbD i <;> simp [hi]

set_option maxRecDepth 100000 in
set_option maxHeartbeats 4000000 in
theorem after_any (s : BitVec 64) (gf : Nat) (lb : Array Value) (L : List Chg) (N : Nat) (w : World) (eg : ∀ args w, (callFunc gf args).run Try.prog w = .ok (.enter gf args) w)
    (hseq : SeqStopsK Fence.wide 9 Try.prog gf lb encP (Below w.heap.size) (fun ys => ys.map (·.1) = L) (fun _ => True) N w) :
    Calls Try.prog 58 #[.int .u64 s.toNat, .func (.func gf) #[] lb] w fun e w' => e = .returned (.int .u64 (aftF s L).toNat) ∧ Below w.heap.size w w' := by
  have HS := Lib.hid hseq
  have HE := Lib.hid eg
  clear hseq eg
  refine (callsIn_wide (n := 10)).1 ?_
  refine callsIn_of_wp_marks Try.func58 rfl trivial ?_ rfl
  simp only [Try.ntmps58, List.size_toArray, List.length_cons, List.length_nil, Nat.reduceAdd, Nat.reduceSub, Array.replicate_succ, Array.replicate_zero, List.push_toArray, List.append_toArray, List.nil_append, List.cons_append]
  gi_wp2
  refine wpIn_rangeFunc_ownH rfl (by omega) (gf := gf) (lb := lb) rfl trivial HE.out HS.out belowK_t (belowK_b (by simp)) (below_alloc w (.cells #[.int .u64 s.toNat] 43)) (fun _ => rfl)
    (fun pre W => Box W w.heap.size [.int .u64 (aftF s (pre.map (·.1))).toNat] ∧ Below w.heap.size w W)
    (fun _ _ _ => False)
    (OwnFrom.and (Own.from (box_own w.heap.size (fun pre : List PChg => .int .u64 (aftF s (pre.map (·.1))).toNat) (fun _ => [])) _) (ownFrom_below (Nat.le_refl _) (by simp)))
    (fun _ _ _ _ _ hs _ _ => hs)
    ⟨Box.new w 43 #[.int .u64 s.toNat], below_alloc w _⟩
    (fun x a' W => ∃ Bx, w.heap.size < Bx ∧ Box W Bx [.int .i64 x.1.time, .int .i64 x.1.person, .bool x.1.on] ∧ a' = { tmps := #[.int .u64 s.toNat, .func (.func gf) #[] lb, .pointer (some ⟨w.heap.size, 0, none⟩), undef, .int .u64 0, .pointer (some ⟨Bx, 0, none⟩), .func (.func gf) #[] lb, .agg #[.int .i64 x.1.time, .int .i64 x.1.person, .bool x.1.on], undef, undef, undef, undef, undef, undef, undef, undef, undef, undef, undef, undef, undef], defers := [] })
    ?ax ?assign ?body ?done ?stop
  case ax =>
    rintro x a' _ X Y row ⟨Bx, h1, h2, h3⟩ hg hr
    exact ⟨Bx, h1, (Own.from (box_own (β := Unit) Bx (fun _ => _) (fun _ => _)) _) () X Y row h2 hg hr, h3⟩
  case assign =>
    rintro l pre x W K ⟨hx, hB⟩ hK
    simp only [encP]
    gi_wp2
    exact hK _ _ ((KeepsOthers.alloc _ _).from _) ((Below.refl _ W).alloc hB.size _) ⟨hx.alloc _, hB.alloc hB.size _⟩ ⟨W.heap.size, hx.2.2, Box.new W 62 _, rfl⟩
  case body =>
    rintro l pre x a' W hl ⟨r, hr⟩ ⟨hx, hB⟩ ⟨Bx, hBx, hX, rfl⟩ hlt
    have hmx : Try.prog.follows .mixedOrders = true := by kernel_rfl
    obtain ⟨⟨gt, gp, go⟩, hp⟩ := x
    simp only at hp hX ⊢
    obtain ⟨p0, pf⟩ := hx.c1
    obtain ⟨q0, q1, q2, qf⟩ := hX.c3
    have hne : w.heap.size ≠ Bx := by omega
    have HV := Lib.hid (aftF_snoc s (pre.map (·.1)) ⟨gt, gp, go⟩)
    generalize aftF s (pre.map (·.1)) = S at HV p0 hx
    have hw1 : Hid (bits .andNot .u64 (S.toNat : Int) (IntKind.u64.wrap (2 ^ gp.toNat)) = ((S &&& ~~~bit64 gp.toNat).toNat : Int)) := by
      unfold Hid; rw [wrap_bit64 (by omega), bits_andNot64]
    cases go
    · have hw2 : Hid (bits .andNot .u64 (S.toNat : Int) (IntKind.u64.wrap (2 ^ gp.toNat)) = ((aftF s ((pre ++ [(⟨⟨gt, gp, false⟩, hp⟩ : PChg)]).map (·.1))).toNat : Int)) := by
        unfold Hid; rw [hw1.out, List.map_append]; simp only [List.map_cons, List.map_nil]; rw [HV.out]; rfl
      gi_wp2
      gi_region_with_o (fail)
      all_goals gi_wp2
      all_goals
        refine ⟨((KeepsOthers.setCell _ _ _).trans (KeepsOthers.drew _)).from _, ((Below.refl _ W).setCell (by simp) _).drew, ?_, (hB.setCell (by simp) _).drew⟩
        rw [← hw2.out]
        exact hx.set (i := 0) _ (by simp)
    · have hw3 : Hid (bits .or .u64 (bits .andNot .u64 (S.toNat : Int) (IntKind.u64.wrap (2 ^ gp.toNat))) (IntKind.u64.wrap (2 ^ gp.toNat)) = ((aftF s ((pre ++ [(⟨⟨gt, gp, true⟩, hp⟩ : PChg)]).map (·.1))).toNat : Int)) := by
        unfold Hid; rw [hw1.out, wrap_bit64 (by omega), bits_or64, List.map_append]; simp only [List.map_cons, List.map_nil]; rw [HV.out, ← stepC_eq _ _ rfl]; rfl
      gi_wp2
      gi_region_with_o (fail)
      all_goals gi_wp2
      all_goals gi_region_with_o (fail)
      all_goals gi_wp2
      all_goals
        refine ⟨(((KeepsOthers.setCell _ _ _).trans (KeepsOthers.setCell _ _ _)).trans ((KeepsOthers.drew _).trans (KeepsOthers.drew _))).from _, ((((Below.refl _ W).setCell (by simp) _).setCell (by simp) _).drew).drew, ?_, (((hB.setCell (by simp) _).setCell (by simp) _).drew).drew⟩
        rw [← hw3.out]
        exact (hx.set (i := 0) _ (by simp)).set (i := 0) _ (by simp)
  case done =>
    rintro D ys W hD hS ⟨hx, hB⟩ hK
    obtain ⟨p0, pf⟩ := hx.c1
    gi_wp2
    refine ⟨by simp, .inl ⟨_, _, rfl, run_takeDeferred hK, ?_⟩⟩
    refine ⟨_, results_tmp rfl _ _ _, ?_, ?_⟩
    · rw [← hS]; rfl
    · exact hB.trans (belowK_b (w := w) (Nat.le_refl _) W D _ _ (by simp at hD; omega) hK rfl rfl)
  case stop =>
    rintro D c pre W hD _ h _
    exact h.elim
end Go.Proofs.Ytalmeokljamhdaa
