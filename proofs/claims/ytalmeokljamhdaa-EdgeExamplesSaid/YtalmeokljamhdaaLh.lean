/- Changes: collecting an iterator's changes. -/
import Derived.Test.YtalmeokljamhdaaLg
namespace Go.Proofs.Ytalmeokljamhdaa
open Go.RowKit Go.Shelf
attribute [local go_sem] Oper.semAt_some

theorem own_kept {W W' : World} {row : Option Nat} {base : Nat} {e : TypeId} {size n : Nat} {v : Value} {xs : List Value} (h : W.ownsRow base e size v n xs) (hg : W.grownBy W' row)
    (hr : ∀ r, row = some r → ∃ o : Obj, W.heap[r]? = some o ∧ o.isCells = false) : W'.ownsRow base e size v n xs := by
  refine ⟨h.1, ?_⟩
  rcases h.2 with h2 | ⟨g, cap, cur, hv, hb, hh, r⟩
  · exact .inl h2
  · refine .inr ⟨g, cap, cur, hv, hb, (hg.block g (Array.getElem?_eq_some_iff.1 hh).1 (fun e => ?_)).trans hh, r⟩
    obtain ⟨o, ho, hc⟩ := hr g e.symm
    rw [hh] at ho
    injection ho with ho
    subst ho
    cases hc

theorem wpListIn_app_own {F : Fence} {nf : Nat} {P : Program} (w : World) {ops : Array Oper} {rest : List Oper} {o : Oper} {a : Act} {Q : Exit → Act → World → Prop} (hgd : o.guard = none) (s x : Operand) (t : TypeId)
    (ho : o.op = .call { callee := .builtin .append, args := #[s, x], argTypes := #[t, t] })
    (base : Nat) (e : TypeId) (i : TypeInfo) (z : Value) (size bytes : Nat) (ht : P.underlying t = some (.slice e)) (hi : P.info? e = some i) (hz : i.zero = some z)
    (hsize : i.size = size) (hby : i.bytes = bytes) (hzs : z.cells.size = size) (hsz : 0 < size)
    (v : Value) (n : Nat) (xs : List Value) (hs : a.eval s = v)
    (ad : Addr) (m c : Nat) (news : List Value) (hx : a.eval x = .slice (some ad) m c) (N : Nat) (XS : List Value)
    (h : ∀ A' c' w', w'.ownsRow base e size (.slice A' N c') N XS → Below base w w' → KeepsOthers w w' → wpListIn F nf P ops Q rest (a.put o.dst (.slice A' N c')) w')
    (hN : n + m = N) (hX : xs ++ news = XS) (hown : w.ownsRow base e size v n xs) (hr : Rd w (some ad) news) (hm : news.length = m * size) (h1 : ∀ u ∈ news, u.oneCell' = true)
    (h63 : n + m ≤ maxLen) (hbytes : (n + m) * bytes ≤ 140737488355328) (hbase : base ≤ w.heap.size) : wpListIn F nf P ops Q (o :: rest) a w := by
  refine wpListIn_append_own w hgd s x t ho base e i z size bytes ht hi hz hsize hby hzs hsz v n xs hs hown ad m c news hx hm (rd_news hr rfl) h1 h63 hbytes hbase ?_
  intro v' w' h2 h3 _
  subst hN; subst hX
  obtain ⟨A', c', rfl, _⟩ := rd_of_own h2
  refine h A' c' w' h2 (below_of_own hown h3 hbase) (KeepsOthers.of_grownBy h3 fun j o' hj ho' => ?_)
  rcases hown.2 with ⟨rfl, _⟩ | ⟨g, cap, cur, rfl, _, hh, _⟩
  · simp [Value.ownBlock] at hj
  · simp [Value.ownBlock] at hj
    subst hj
    rw [hh] at ho'
    injection ho' with ho'
    subst ho'
    rfl

def Held (w : World) (L : List Chg) (W : World) : Prop :=
  ∃ A1 c1, Box W w.heap.size [.slice A1 L.length c1] ∧ W.ownsRow (w.heap.size + 1) 62 3 (.slice A1 L.length c1) L.length (flat cenc L)

set_option maxRecDepth 100000 in
set_option maxHeartbeats 4000000 in
theorem appendSeq_any (gf : Nat) (lb : Array Value) (L : List Chg) (N : Nat) (w : World) (hN : N ≤ 1000) (eg : ∀ args w, (callFunc gf args).run Try.prog w = .ok (.enter gf args) w)
    (hseq : SeqStopsK Fence.wide 9 Try.prog gf lb encP (Below w.heap.size) (fun ys => ys.map (·.1) = L) (fun _ => True) N w) :
    Calls Try.prog 82 #[.slice none 0 0, .func (.func gf) #[] lb] w (RowC L w) := by
  have HS := Lib.hid hseq
  have HE := Lib.hid eg
  clear hseq eg
  obtain ⟨i0, hi0, hz0, hz1, hz2⟩ := info_parts info62
  have HI := Lib.hid hi0
  have HZ0 := Lib.hid hz0
  have HZ1 := Lib.hid hz1
  have HZ2 := Lib.hid hz2
  clear hi0 hz0 hz1 hz2
  refine (callsIn_wide (n := 10)).1 ?_
  refine callsIn_of_wp_marks Try.func82 rfl trivial ?_ rfl
  simp only [Try.ntmps82, List.size_toArray, List.length_cons, List.length_nil, Nat.reduceAdd, Nat.reduceSub, Array.replicate_succ, Array.replicate_zero, List.push_toArray, List.append_toArray, List.nil_append, List.cons_append]
  gi_wp2
  refine wpIn_rangeFunc_ownH rfl (by omega) (gf := gf) (lb := lb) rfl trivial HE.out HS.out belowK_t (belowK_b (by simp)) (below_alloc w (.cells #[.slice none 0 0] 44)) (fun _ => rfl)
    (fun pre W => Held w (pre.map (·.1)) W ∧ Below w.heap.size w W)
    (fun _ _ _ => False)
    (OwnFrom.and (Own.from (fun pre X Y row hs hg hr => ?own) _) (ownFrom_below (Nat.le_refl _) (by simp)))
    (fun _ _ _ _ _ hs _ _ => hs)
    ⟨⟨none, 0, Box.new w 44 #[.slice none 0 0], World.ownsRow_nil _ _ _ _⟩, below_alloc w _⟩
    (fun x a' W => ∃ Bx, w.heap.size < Bx ∧ Box W Bx [.int .i64 x.1.time, .int .i64 x.1.person, .bool x.1.on] ∧ a' = { tmps := #[.slice none 0 0, .func (.func gf) #[] lb, .pointer (some ⟨w.heap.size, 0, none⟩), undef, .slice none 0 0, .pointer (some ⟨Bx, 0, none⟩), .func (.func gf) #[] lb, .agg #[.int .i64 x.1.time, .int .i64 x.1.person, .bool x.1.on], undef, undef, undef, undef, undef], defers := [] })
    ?ax ?assign ?body ?done ?stop
  case own =>
    obtain ⟨A1, c1, h1, h2⟩ := hs
    exact ⟨A1, c1, box_own (β := Unit) _ (fun _ => _) (fun _ => _) () X Y row h1 hg hr, own_kept h2 hg hr⟩
  case ax =>
    rintro x a' _ X Y row ⟨Bx, h1, h2, h3⟩ hg hr
    exact ⟨Bx, h1, (Own.from (box_own (β := Unit) Bx (fun _ => _) (fun _ => _)) _) () X Y row h2 hg hr, h3⟩
  case assign =>
    rintro l pre x W K ⟨⟨A1, c1, h1, h2⟩, hB⟩ hK
    simp only [encP]
    gi_wp2
    exact hK _ _ ((KeepsOthers.alloc _ _).from _) ((Below.refl _ W).alloc hB.size _) ⟨⟨A1, c1, h1.alloc _, own_ext h2 (below_alloc _ _)⟩, hB.alloc hB.size _⟩ ⟨W.heap.size, h1.2.2, Box.new W 62 _, rfl⟩
  case body =>
    rintro l pre x a' W hl ⟨r, hr⟩ ⟨⟨A1, c1, hx, ho⟩, hB⟩ ⟨Bx, hBx, hX, rfl⟩ hlt
    obtain ⟨⟨gt, gp, go⟩, hp⟩ := x
    simp only at hX ⊢
    have hlen : (pre.map (·.1)).length = pre.length := List.length_map _
    obtain ⟨p0, pf⟩ := hx.c1
    obtain ⟨q0, q1, q2, qf⟩ := hX.c3
    have HX := Lib.hid hx
    have HO := Lib.hid ho
    have hBW : w.heap.size < W.heap.size := hx.2.2
    have hBX := hX.2.2
    have HM : Hid ((pre ++ [(⟨⟨gt, gp, go⟩, hp⟩ : PChg)]).map (·.1) = pre.map (·.1) ++ [⟨gt, gp, go⟩]) := by unfold Hid; simp
    clear hx ho hX
    generalize pre.map (·.1) = P0 at *
    have hm : P0.length ≤ 1000 := by omega
    clear hlen
    gi_wp2_with (gi_at_builtin; refine wpListIn_app_own _ rfl (.tmp 8) (.tmp 10) _ rfl (w.heap.size + 1) 62 i0 _ 3 24 Try.underlying44 HI.out HZ0.out HZ1.out HZ2.out rfl (by omega) (.slice A1 P0.length c1) P0.length (flat cenc P0) rfl _ 1 1 (cenc ⟨gt, gp, go⟩) rfl (P0.length + 1) (flat cenc (P0 ++ [⟨gt, gp, go⟩])) ?_ rfl ?h0 ?h1 ?h3 rfl ?h4 ?h5 ?h6 ?h7; intro A4 c4 w4 hown4 hb4 hk4; have HO4 := Lib.hid hown4; have HB4 := Lib.hid hb4; have HK4 := Lib.hid hk4; have hx4 := (HX.out.alloc (.cells #[.int .i64 gt, .int .i64 gp, .bool go] 62)).below hb4 (by omega); obtain ⟨r0, rf⟩ := hx4.c1; have HX4 := Lib.hid hx4; clear hown4 hb4 hk4 hx4 p0 pf)
    case h0 => rw [flat_append, flat_cons, flat_nil, List.append_nil]
    case h1 => exact own_ext HO.out (below_alloc _ _)
    case h3 => exact rd_newC _ _ _ _ rfl
    case h4 => intro u hu; exact cenc_one [⟨gt, gp, go⟩] u (by simpa [flat] using hu)
    case h5 => simp only [maxLen]; omega
    case h6 => omega
    case h7 => simp only [World.size_alloc]; omega
    refine ⟨(((KeepsOthers.alloc _ _).trans HK4.out).trans (KeepsOthers.setCell _ _ _)).from _, ?_, ⟨A4, c4, ?_, ?_⟩, ?_⟩
    · exact (((Below.refl _ W).alloc (by omega) _).trans (HB4.out.mono (by omega))).setCell (by simp) _
    · rw [HM.out, List.length_append]
      exact HX4.out.set (i := 0) _ (by simp)
    · rw [HM.out, List.length_append]
      exact own_set HO4.out (by omega) _
    · exact ((hB.alloc hB.size _).trans (HB4.out.mono (by omega))).setCell (by simp) _
  case done =>
    rintro D ys W hD hS ⟨⟨A1, c1, hx, ho⟩, hB⟩ hK
    rw [hS] at hx ho
    obtain ⟨p0, pf⟩ := hx.c1
    gi_wp2
    refine ⟨by simp, .inl ⟨_, _, rfl, run_takeDeferred hK, ?_⟩⟩
    refine ⟨_, results_tmp rfl _ _ _, A1, c1, rfl, ?_, ?_⟩
    · exact own_mono (own_kept ho (grownBy_putObj' _ D (.deferred none)) (fun r e => by cases e; exact ⟨_, hK, rfl⟩)) (by omega)
    · exact hB.trans (belowK_b (w := w) (Nat.le_refl _) W D _ _ (by simp at hD; omega) hK rfl rfl)
  case stop =>
    rintro D c pre W hD _ h _
    exact h.elim

set_option maxHeartbeats 400000 in
theorem collect_any (gf : Nat) (lb : Array Value) (L : List Chg) (N : Nat) (w : World) (hN : N ≤ 1000) (eg : ∀ args w, (callFunc gf args).run Try.prog w = .ok (.enter gf args) w)
    (hseq : SeqStopsK Fence.wide 9 Try.prog gf lb encP (Below w.heap.size) (fun ys => ys.map (·.1) = L) (fun _ => True) N w) :
    Calls Try.prog 67 #[.func (.func gf) #[] lb] w (RowC L w) := by
  have HS := Lib.hid hseq
  have HE := Lib.hid eg
  clear hseq eg
  go_enter Try.func67, Try.ntmps67
  go_wp2_with fail
  refine (appendSeq_any gf lb L N _ hN HE.out HS.out).mono ?_
  rintro e w1 ⟨A1, c1, rfl, ho, hb⟩
  have HO := Lib.hid ho
  clear ho
  go_wp2
  go_ret
  exact ⟨A1, c1, rfl, HO.out, hb⟩

def deltaF (l : List Chg) (a z : Int) : List Chg × Int := if chkC l = false then ([], 8) else if inB 0 1099511627776 a = false ∨ inB 0 1099511627776 z = false ∨ z < a then ([], 2) else (betF l a z, 0)
theorem deltaF_bad {l : List Chg} {a z : Int} (h : chkC l = false) : deltaF l a z = ([], 8) := by unfold deltaF; rw [if_pos h]
theorem deltaF_arg {l : List Chg} {a z : Int} (h : chkC l = true) (h2 : inB 0 1099511627776 a = false ∨ inB 0 1099511627776 z = false ∨ z < a) : deltaF l a z = ([], 2) := by unfold deltaF; rw [if_neg (by rw [h]; simp), if_pos h2]
theorem deltaF_ok {l : List Chg} {a z : Int} (h : chkC l = true) (h2 : inB 0 1099511627776 a = true) (h3 : inB 0 1099511627776 z = true) (h4 : a ≤ z) : deltaF l a z = (betF l a z, 0) := by
  unfold deltaF; rw [if_neg (by rw [h]; simp), if_neg (by rw [h2, h3]; simp; omega)]
/-- A list of changes in new memory, and an error. -/
def CPost (r : List Chg × Int) (w : World) (e : Ending) (w' : World) : Prop :=
  ∃ A c, e = .returned (.tuple #[.slice A r.1.length c, .int .i64 r.2]) ∧ Ow w' w.heap.size A (flat cenc r.1) ∧ Below w.heap.size w w'
theorem CPost.nil {w w' : World} (k : Int) (r : List Chg × Int) (hr : r = ([], k)) (hb : Below w.heap.size w w') : CPost r w (.returned (.tuple #[.slice none 0 0, .int .i64 k])) w' := by
  subst hr
  exact ⟨none, 0, rfl, Ow.nil _ _ _, hb⟩

set_option maxHeartbeats 1000000 in
theorem delta_any (A : Option Addr) (l : List Chg) (n c : Nat) (a z : Int) (w : World) (hr : Rd w A (flat cenc l)) (hn : n = l.length) (hl : n ≤ 1000) :
    Calls Try.prog 31 #[.slice A n c, .int .i64 a, .int .i64 z] w (CPost (deltaF l a z) w) := by
  have HR := Lib.hid hr
  have HN := Lib.hid hn
  clear hr hn
  cases hv : chkC l
  · have HF := Lib.hid (deltaF_bad (a := a) (z := z) hv)
    have HV := Lib.hid hv
    clear hv
    go_enter Try.func31, Try.ntmps31
    go_wp2_with fail
    refine (checkChanges_any _ l _ _ _ HR.out HN.out hl).mono ?_
    rintro e w1 ⟨rfl, hb1⟩
    rw [HV.out]
    simp only [errB, Bool.false_eq_true, if_false]
    go_wp2
    go_ret2
    exact CPost.nil 8 _ HF.out hb1
  · have HV := Lib.hid hv
    clear hv
    by_cases harg : inB 0 1099511627776 a = false ∨ inB 0 1099511627776 z = false ∨ z < a
    · have HF := Lib.hid (deltaF_arg HV.out harg)
      have hcs : inB 0 1099511627776 a = false ∨ (inB 0 1099511627776 a = true ∧ inB 0 1099511627776 z = false) ∨ (inB 0 1099511627776 a = true ∧ inB 0 1099511627776 z = true ∧ decide (z < a) = true) := by
        cases h1 : inB 0 1099511627776 a <;> cases h2 : inB 0 1099511627776 z <;> simp_all
      clear harg
      rcases hcs with h1 | ⟨h1, h2⟩ | ⟨h1, h2, h3⟩
      all_goals
        go_enter Try.func31, Try.ntmps31
        go_wp2_with fail
        refine (checkChanges_any _ l _ _ _ HR.out HN.out hl).mono ?_
        rintro e w1 ⟨rfl, hb1⟩
        rw [HV.out]
        simp only [errB, if_true]
        go_wp2_with (go_at_call 57; refine (isTime_any _ _).mono ?_; rintro e w' ⟨rfl, rfl⟩)
        go_ret2
        exact CPost.nil 2 _ HF.out hb1
    · have h1 : inB 0 1099511627776 a = true := by cases h : inB 0 1099511627776 a; exact absurd (.inl h) harg; rfl
      have h2 : inB 0 1099511627776 z = true := by cases h : inB 0 1099511627776 z; exact absurd (.inr (.inl h)) harg; rfl
      have h3 : a ≤ z := by rcases Int.lt_or_le z a with h | h; exact absurd (.inr (.inr h)) harg; exact h
      have h3' : decide (z < a) = false := by simp; omega
      clear harg
      have HF := Lib.hid (deltaF_ok HV.out h1 h2 h3)
      go_enter Try.func31, Try.ntmps31
      go_wp2_with fail
      refine (checkChanges_any _ l _ _ _ HR.out HN.out hl).mono ?_
      rintro e w1 ⟨rfl, hb1⟩
      rw [HV.out]
      simp only [errB, if_true]
      have HB1 := Lib.hid hb1
      clear hb1
      go_wp2_with (first | (go_at_call 57; refine (isTime_any _ _).mono ?_; rintro e w' ⟨rfl, rfl⟩) | (go_at_call 59; refine (between_any _ _ _ _ _ _).mono ?_; rintro e w' ⟨rfl, rfl⟩))
      refine (collect_any 81 _ (betW a z l) l.length _ (by rw [← HN.out]; exact hl) (enters_of Try.func81 (by kernel_rfl) rfl) (betw_stops 9 (by omega) w1.heap.size (w1.heap.size + 2) (w1.heap.size + 1) A l n c a z _ ((HR.out.below HB1.out).below (below_more (below_more (below_alloc _ _) _) _)) HN.out hl (chkC_p HV.out) ?h1 ?h2 ?h3 ?c1 ?c2 ?c3)).mono ?_
      case h1 => simp only [World.size_alloc]; omega
      case h2 => simp only [World.size_alloc]; omega
      case h3 => simp only [World.size_alloc]; omega
      case c1 => simp [go_sem]
      case c2 => simp [go_sem]
      case c3 => simp [go_sem]
      rintro e w2 ⟨A2, c2, rfl, ho, hb2⟩
      obtain ⟨A3, c3, he, how⟩ := rd_of_own ho
      injection he with he1 _ _
      subst he1
      have HO := Lib.hid how
      clear ho how
      go_wp2
      go_ret2
      have hfin := below_step HB1.out (below_step (below_more (below_more (below_alloc w1 (.cells #[.slice A n c] 44)) (.cells #[.int .i64 a] 3)) (.cells #[.int .i64 z] 3)) hb2)
      unfold CPost
      rw [HF.out]
      have hw := HO.out
      rw [betW_eq _ _ l 0 (chkC_v HV.out)] at hw ⊢
      exact ⟨A2, _, rfl, hw.mono (by have := HB1.out.size; simp only [World.size_alloc]; omega), hfin⟩

set_option maxHeartbeats 1000000 in
theorem refDelta_any (A : Option Addr) (l : List Chg) (n c : Nat) (a z : Int) (w : World) (hr : Rd w A (flat cenc l)) (hn : n = l.length) (hl : n ≤ 1000) :
    Calls Try.prog 32 #[.slice A n c, .int .i64 a, .int .i64 z] w (CPost (deltaF l a z) w) := by
  have HR := Lib.hid hr
  have HN := Lib.hid hn
  clear hr hn
  cases hv : chkC l
  · have HF := Lib.hid (deltaF_bad (a := a) (z := z) hv)
    have HV := Lib.hid hv
    clear hv
    go_enter Try.func32, Try.ntmps32
    go_wp2_with fail
    refine (validChanges_any _ l _ _ _ HR.out HN.out hl).mono ?_
    rintro e w1 ⟨rfl, hb1⟩
    rw [HV.out]
    go_wp2
    go_ret2
    exact CPost.nil 8 _ HF.out hb1
  · have HV := Lib.hid hv
    clear hv
    by_cases harg : inB 0 1099511627776 a = false ∨ inB 0 1099511627776 z = false ∨ z < a
    · have HF := Lib.hid (deltaF_arg HV.out harg)
      have hcs : inB 0 1099511627776 a = false ∨ (inB 0 1099511627776 a = true ∧ inB 0 1099511627776 z = false) ∨ (inB 0 1099511627776 a = true ∧ inB 0 1099511627776 z = true ∧ decide (z < a) = true) := by
        cases h1 : inB 0 1099511627776 a <;> cases h2 : inB 0 1099511627776 z <;> simp_all
      clear harg
      rcases hcs with h1 | ⟨h1, h2⟩ | ⟨h1, h2, h3⟩
      all_goals
        go_enter Try.func32, Try.ntmps32
        go_wp2_with fail
        refine (validChanges_any _ l _ _ _ HR.out HN.out hl).mono ?_
        rintro e w1 ⟨rfl, hb1⟩
        rw [HV.out]
        go_wp2_with (go_at_call 61; refine (when_any _ _).mono ?_; rintro e w' ⟨rfl, rfl⟩)
        go_ret2
        exact CPost.nil 2 _ HF.out hb1
    · have h1 : inB 0 1099511627776 a = true := by cases h : inB 0 1099511627776 a; exact absurd (.inl h) harg; rfl
      have h2 : inB 0 1099511627776 z = true := by cases h : inB 0 1099511627776 z; exact absurd (.inr (.inl h)) harg; rfl
      have h3 : a ≤ z := by rcases Int.lt_or_le z a with h | h; exact absurd (.inr (.inr h)) harg; exact h
      have h3' : decide (z < a) = false := by simp; omega
      clear harg
      have HF := Lib.hid (deltaF_ok HV.out h1 h2 h3)
      go_enter Try.func32, Try.ntmps32
      go_wp2_with fail
      refine (validChanges_any _ l _ _ _ HR.out HN.out hl).mono ?_
      rintro e w1 ⟨rfl, hb1⟩
      rw [HV.out]
      have HB1 := Lib.hid hb1
      clear hb1
      go_wp2_with (go_at_call 61; refine (when_any _ _).mono ?_; rintro e w' ⟨rfl, rfl⟩)
      refine (refBetween_any _ l _ _ _ _ _ (HR.out.below HB1.out) HN.out hl).mono ?_
      rintro e w2 ⟨A2, c2, rfl, ho, hb2⟩
      obtain ⟨A3, c3, he, how⟩ := rd_of_own ho
      injection he with he1 _ _
      subst he1
      have HO := Lib.hid how
      clear ho how
      go_wp2
      go_ret2
      unfold CPost
      rw [HF.out]
      exact ⟨A2, _, rfl, HO.out.mono HB1.out.size, below_step HB1.out hb2⟩

def mixI (a b : Int) : Int :=
  bits BinOp.xor IntKind.u64
    (IntKind.u64.wrap (bits BinOp.xor IntKind.u64 (IntKind.u64.wrap (bits BinOp.xor IntKind.u64 a b * 11400714819323198485)) (IntKind.u64.wrap (bits BinOp.xor IntKind.u64 a b * 11400714819323198485) / 536870912) * 13787848793156543929))
    (IntKind.u64.wrap (bits BinOp.xor IntKind.u64 (IntKind.u64.wrap (bits BinOp.xor IntKind.u64 a b * 11400714819323198485)) (IntKind.u64.wrap (bits BinOp.xor IntKind.u64 a b * 11400714819323198485) / 536870912) * 13787848793156543929) / 4294967296)
theorem mix_any (a b : Int) (w : World) : Calls Try.prog 33 #[.int .u64 a, .int .u64 b] w fun e w' => e = .returned (.int .u64 (mixI a b)) ∧ w = w' := by
  go_enter Try.func33, Try.ntmps33
  go_wp2
  go_ret
  exact ⟨rfl, rfl⟩
theorem refMix_any (a b : Int) (w : World) : Calls Try.prog 34 #[.int .u64 a, .int .u64 b] w fun e w' => e = .returned (.int .u64 (mixI a b)) ∧ w = w' := by
  go_enter Try.func34, Try.ntmps34
  go_wp2
  go_ret
  exact ⟨rfl, rfl⟩
end Go.Proofs.Ytalmeokljamhdaa
