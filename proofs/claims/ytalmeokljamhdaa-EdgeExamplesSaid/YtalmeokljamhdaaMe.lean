/- Copies: the changes that a copy has missed, in the program. -/
import Derived.Test.YtalmeokljamhdaaMd
namespace Go.Proofs.Ytalmeokljamhdaa
open Go.RowKit Go.Shelf
attribute [local go_sem] Oper.semAt_some

/-- Below a number nothing has changed but one block. -/
structure BelX (B X : Nat) (w w' : World) : Prop where
  os : w'.os = w.os
  tape : w'.tape = w.tape
  output : w'.output = w.output
  size : w.heap.size ≤ w'.heap.size
  block : ∀ k, k < B → k ≠ X → w'.heap[k]? = w.heap[k]?
theorem belX_of {B : Nat} {w w' : World} (h : Below B w w') (X : Nat) : BelX B X w w' := ⟨h.os, h.tape, h.output, h.size, fun k hk _ => h.block k hk⟩
theorem BelX.trans {B X : Nat} {a b c : World} (h : BelX B X a b) (k : BelX B X b c) : BelX B X a c :=
  ⟨k.os.trans h.os, k.tape.trans h.tape, k.output.trans h.output, Nat.le_trans h.size k.size, fun i hi hx => (k.block i hi hx).trans (h.block i hi hx)⟩
theorem BelX.set {B X : Nat} {a w : World} (h : BelX B X a w) (o : Nat) (u : Value) : BelX B X a (w.setCell ⟨X, o, none⟩ u) :=
  ⟨h.os, h.tape, h.output, by simpa using h.size, fun k hk hx => (Below.heap_setCell w ⟨X, o, none⟩ u k hx).trans (h.block k hk hx)⟩
theorem BelX.cell {B X : Nat} {w w' : World} (h : BelX B X w w') {p : Addr} (hp : p.block < B) (hx : p.block ≠ X) : w'.cell? p = w.cell? p := World.cell?_of_block (w := w) (h.block p.block hp hx)

set_option maxRecDepth 100000 in
set_option maxHeartbeats 2000000 in
theorem betw1_gen (n : Nat) (hn : 1 ≤ n) (lp Bl Bz Ba : Nat) (A : Option Addr) (l : List Chg) (nn c : Nat) (a z : Int) (W : World) (J Jx : List Chg → World → Prop)
    (St : World → Prop) (Kp : World → World → Prop) (hnn : nn = l.length) (hl : nn ≤ 1000)
    (hSt : ∀ X, St X → Rd X A (flat cenc l) ∧ X.cell? ⟨Bl, 0, none⟩ = some (.slice A nn c) ∧ X.cell? ⟨Bz, 0, none⟩ = some (.int .i64 z) ∧ X.cell? ⟨Ba, 0, none⟩ = some (.int .i64 a) ∧ Bz < X.heap.size ∧ Ba < X.heap.size)
    (hStK : ∀ X Y, St X → Kp X Y → St Y) (hStA : ∀ X o, St X → St (X.alloc o)) (hst0 : St W) (hJ : AbidesFrom W.heap.size J)
    (hY : ∀ pre (x : Chg) W1, x ∈ l → J pre W1 → pre.length < l.length → YieldAt Fence.wide (n - 1) Try.prog lp #[.agg #[.int .i64 x.time, .int .i64 x.person, .bool x.on]] W1 fun e W' =>
      (e = .returned (.bool true) ∧ J (pre ++ [x]) W' ∧ Kp W1 W') ∨ (e = .returned (.bool false) ∧ Jx (pre ++ [x]) W')) (h0 : J [] W) :
    CallsIn Fence.wide n Try.prog 81 #[.func (.yield lp) #[] #[], .pointer (some ⟨Bl, 0, none⟩), .pointer (some ⟨Bz, 0, none⟩), .pointer (some ⟨Ba, 0, none⟩)] W fun e W' => (∃ v, e = .returned v) ∧
      ((∃ ys, ys = betW a z l ∧ J ys W') ∨ (∃ pre, True ∧ Jx pre W')) := by
  have HST := Lib.hid hSt
  have HSK := Lib.hid hStK
  have HSA := Lib.hid hStA
  have HS0 := Lib.hid hst0
  have HN := Lib.hid hnn
  have HY := Lib.hid hY
  have HJ := Lib.hid hJ
  have HJ0 := Lib.hid h0
  clear hSt hStK hStA hst0 hnn hY hJ h0
  obtain ⟨_, cl', _⟩ := HST.out W HS0.out
  refine callsIn_of_wp Try.func81 rfl trivial ?_ rfl
  simp only [Try.ntmps81, List.size_toArray, List.length_cons, List.length_nil, Nat.reduceAdd, Nat.reduceSub, Array.replicate_succ, Array.replicate_zero, List.push_toArray, List.append_toArray, List.nil_append, List.cons_append]
  gi_wp2
  gi_loopw [9] (fun i wr => ∃ (k : Nat) (pre : List Chg), k ≤ nn ∧ i = .int .i64 k ∧ Hid (J pre wr) ∧ Hid (St wr) ∧ Hid (betW a z l = pre ++ betW a z (l.drop k)) ∧ Hid (pre.length ≤ k)) (fun i _ => nn - (intOf i).toNat)
  case atStart => exact ⟨0, [], Nat.zero_le _, rfl, HJ0.out, HS0.out, rfl, Nat.le_refl _⟩
  case round =>
    obtain ⟨k, pre, hk, rfl, hj, hb, hq, hpl⟩ := hrel
    obtain ⟨hrd, _, cz', ca', hBz', hBa'⟩ := HST.out wr hb.out
    have HRD := Lib.hid hrd
    clear hrd
    by_cases hlt : k < nn
    · have hlt' : k < l.length := by rw [← HN.out]; exact hlt
      obtain ⟨b, off, rfl, hbs, hc0, hc1, hc2⟩ := chg_at HRD.out (Below.refl _ _) hlt'
      have HD := Lib.hid (List.drop_eq_getElem_cons hlt')
      have HM := Lib.hid (List.getElem_mem hlt')
      generalize l[k] = g at hc0 hc1 hc2 HD HM
      rcases g with ⟨gt, gp, go⟩
      simp only at hc0 hc1 hc2
      have HA := Lib.hid (abide_alloc HJ.out (.cells #[.int .i64 gt, .int .i64 gp, .bool go] 62) hj.out)
      by_cases h1 : z < gt
      · have hst := Lib.hid (betW_stop (a := a) HD.out h1)
        have hd1 : decide (z < gt) = true := by simpa using h1
        gi_wp2
        all_goals first
          | (exact absurd ‹some undef = some (Value.bool _)› (by simp [undef]))
          | (refine ⟨fun _ h => (by cases h), ?_⟩
             gi_wp2
             refine bodyPost_ret (results_none rfl _ _ _) rfl ?_
             exact ⟨⟨_, rfl⟩, .inl ⟨pre, by rw [hq.out, hst.out, List.append_nil], HA.out⟩⟩)
      · have hd1 : decide (z < gt) = false := by simpa using h1
        by_cases h2 : a < gt
        · have hd2 : decide (a < gt) = true := by simpa using h2
          have hst := Lib.hid (betW_yes HD.out h1 h2)
          obtain ⟨fn, tmps, assign, body, hy, hR⟩ := HY.out pre ⟨gt, gp, go⟩ _ HM.out HA.out (by have := hpl.out; omega)
          dsimp only at hy
          gi_wp2
          refine hR.mono ?_
          rintro e W3 (⟨rfl, hJ3, hk3⟩ | ⟨rfl, hJx3⟩)
          · have HJ3 := Lib.hid hJ3
            clear hJ3
            gi_wp2
            go_roundw
            case rel => exact ⟨k + 1, pre ++ [(⟨gt, gp, go⟩ : Chg)], by omega, by go_num, HJ3.out, HSK.out _ _ (HSA.out _ _ hb.out) hk3, (by unfold Hid; rw [hq.out, hst.out, List.append_assoc]; rfl), (by unfold Hid; have := hpl.out; simp; omega)⟩
            case measure => simp [intOf]; omega
          · have HJ3 := Lib.hid hJx3
            clear hJx3
            gi_wp2
            refine bodyPost_ret (results_none rfl _ _ _) rfl ?_
            exact ⟨⟨_, rfl⟩, .inr ⟨_, trivial, HJ3.out⟩⟩
        · have hd2 : decide (a < gt) = false := by simpa using h2
          have hst := Lib.hid (betW_no HD.out h1 h2)
          gi_wp2
          refine ⟨fun _ h => (by cases h), ?_⟩
          gi_wp2
          go_roundw
          case rel => exact ⟨k + 1, pre, by omega, by go_num, HA.out, HSA.out _ _ hb.out, (by unfold Hid; rw [hq.out, hst.out]), (by unfold Hid; have := hpl.out; omega)⟩
          case measure => simp [intOf]; omega
    · have hfin : Hid (betW a z (l.drop k) = []) := by
        unfold Hid; rw [List.drop_eq_nil_of_le (by rw [← HN.out]; omega)]; rfl
      gi_wp2
      go_end0
      exact ⟨⟨_, rfl⟩, .inl ⟨pre, by rw [hq.out, hfin.out, List.append_nil], hj.out⟩⟩

theorem betw_stopsX (n : Nat) (hn : 1 ≤ n) (X Bl Bz Ba : Nat) (A : Option Addr) (l : List Chg) (nn c : Nat) (a z : Int) (w0 : World)
    (hr : Rd w0 A (flat cenc l)) (hA : ∀ b off, A = some ⟨b, off, none⟩ → flat cenc l = [] ∨ b ≠ X) (hnn : nn = l.length) (hl : nn ≤ 1000) (hok : ∀ c ∈ l, 0 ≤ c.person ∧ c.person ≤ 63) (hBl : Bl < w0.heap.size) (hBz : Bz < w0.heap.size) (hBa : Ba < w0.heap.size)
    (hXl : Bl ≠ X) (hXz : Bz ≠ X) (hXa : Ba ≠ X)
    (cl : w0.cell? ⟨Bl, 0, none⟩ = some (.slice A nn c)) (cz : w0.cell? ⟨Bz, 0, none⟩ = some (.int .i64 z)) (ca : w0.cell? ⟨Ba, 0, none⟩ = some (.int .i64 a)) :
    SeqStopsK Fence.wide n Try.prog 81 #[.pointer (some ⟨Bl, 0, none⟩), .pointer (some ⟨Bz, 0, none⟩), .pointer (some ⟨Ba, 0, none⟩)] encP (BelX w0.heap.size X) (fun ys => ys.map (·.1) = betW a z l) (fun _ => True) l.length w0 := by
  intro lp J Jx W hW hJ _ hY h0
  refine (betw1_gen n hn lp Bl Bz Ba A l nn c a z W (fun pre W => ∃ q : List PChg, q.map (·.1) = pre ∧ J q W) (fun pre W => ∃ q : List PChg, q.map (·.1) = pre ∧ Jx q W) (BelX w0.heap.size X w0) (BelX w0.heap.size X) hnn hl ?_ (fun _ _ h1 h2 => h1.trans h2) (fun Y o h => h.trans (belX_of ((Below.refl _ Y).alloc h.size o) X)) (belX_of hW X) ?_ ?_ ⟨[], rfl, h0⟩).mono ?_
  · intro Y hY
    refine ⟨?_, (hY.cell (p := ⟨Bl, 0, none⟩) hBl hXl).trans cl, (hY.cell (p := ⟨Bz, 0, none⟩) hBz hXz).trans cz, (hY.cell (p := ⟨Ba, 0, none⟩) hBa hXa).trans ca, Nat.lt_of_lt_of_le hBz hY.size, Nat.lt_of_lt_of_le hBa hY.size⟩
    rcases hr with h | ⟨b, off, h1, h3, h4⟩
    · exact .inl h
    · rcases hA b off h1 with h | h
      · exact .inl h
      · exact .inr ⟨b, off, h1, Nat.lt_of_lt_of_le h3 hY.size, fun j u hu => (hY.cell (p := ⟨b, off + j, none⟩) h3 h).trans (h4 j u hu)⟩
  · rintro s X Y row ⟨q, hq, hj⟩ hg hrow
    exact ⟨q, hq, hJ q X Y row hj hg hrow⟩
  · rintro pre x W1 hx ⟨q, rfl, hj⟩ hlen
    obtain ⟨fn, tmps, assign, body, hy, hR⟩ := hY q ⟨x, hok x hx⟩ W1 hj (by simpa using hlen)
    refine ⟨fn, tmps, assign, body, hy, hR.mono ?_⟩
    rintro e W' (⟨he, h1, h2⟩ | ⟨he, h1⟩)
    · exact .inl ⟨he, ⟨q ++ [⟨x, hok x hx⟩], by simp, h1⟩, h2⟩
    · exact .inr ⟨he, q ++ [⟨x, hok x hx⟩], by simp, h1⟩
  · rintro e W' ⟨he, ⟨ys, rfl, q, hq, hj⟩ | ⟨pre, _, q, hq, hj⟩⟩
    · exact ⟨he, .inl ⟨q, hq, hj⟩⟩
    · exact ⟨he, .inr ⟨q, trivial, hj⟩⟩

def selP (p : Int) (l : List Chg) : List Chg := l.filter fun c => c.person == p
theorem selP_snoc (p : Int) (l : List Chg) (c : Chg) : selP p (l ++ [c]) = selP p l ++ if c.person == p then [c] else [] := by
  unfold selP
  rw [List.filter_append, List.filter_cons, List.filter_nil]
theorem selP_len (p : Int) (l : List Chg) : (selP p l).length ≤ l.length := List.length_filter_le _ _
def lateF (l : List Chg) (a p now : Int) : List Chg × Int :=
  if chkC l = false then ([], 8) else if inB 0 63 p = false ∨ inB 0 1099511627776 now = false ∨ inB 0 1099511627776 a = false then ([], 2)
  else if now < a then ([], 101) else (selP p (betF l a now), 0)

def HeldP (N Bo Bp : Nat) (p : Int) (L : List Chg) (W : World) : Prop :=
  ∃ A1 c1, Box W Bo [.slice A1 (selP p L).length c1] ∧ W.ownsRow N 62 3 (.slice A1 (selP p L).length c1) (selP p L).length (flat cenc (selP p L)) ∧ Box W Bp [.int .i64 p] ∧ N ≤ W.heap.size

set_option maxRecDepth 100000 in
set_option maxHeartbeats 4000000 in
theorem late_ok (A : Option Addr) (l : List Chg) (n c : Nat) (a m s se p now : Int) (w : World) (hr : Rd w A (flat cenc l)) (hn : n = l.length) (hl : n ≤ 1000) (hv : chkC l = true) (hp : inB 0 63 p = true) (hno : inB 0 1099511627776 now = true) (ha : inB 0 1099511627776 a = true) (hna : a ≤ now) :
    Calls Try.prog 40 #[.slice A n c, .agg #[.int .i64 a, .int .i64 m, .int .u64 s, .int .u64 se], .int .i64 p, .int .i64 now] w (CPost (selP p (betF l a now), 0) w) := by
  have HR := Lib.hid hr
  have HN := Lib.hid hn
  have HV := Lib.hid hv
  have hask : Hid ((if inB 0 63 p = false ∨ inB 0 1099511627776 now = false ∨ inB 0 1099511627776 a = false then (2 : Int) else if now < a then 101 else 0) = 0) := by
    unfold Hid; rw [if_neg (by simp [hp, hno, ha]), if_neg (by omega)]
  clear hr hn hv hp hno ha
  obtain ⟨i0, hi0, hz0, hz1, hz2⟩ := info_parts info62
  have HI := Lib.hid hi0
  have HZ0 := Lib.hid hz0
  have HZ1 := Lib.hid hz1
  have HZ2 := Lib.hid hz2
  clear hi0 hz0 hz1 hz2
  refine (callsIn_wide (n := 10)).1 ?_
  refine callsIn_of_wp_marks Try.func40 rfl trivial ?_ rfl
  simp only [Try.ntmps40, List.size_toArray, List.length_cons, List.length_nil, Nat.reduceAdd, Nat.reduceSub, Array.replicate_succ, Array.replicate_zero, List.push_toArray, List.append_toArray, List.nil_append, List.cons_append]
  gi_wp2_with fail
  refine ⟨trivial, ((callsIn_wide (n := 9)).2 (checkChanges_any _ l _ _ _ (HR.out.below (below_more (below_alloc _ _) _)) HN.out hl)).mono ?_⟩
  rintro e w1 ⟨rfl, hb1⟩
  rw [HV.out]
  simp only [errB, if_true]
  have HB1 := Lib.hid (below_step (below_more (below_alloc w _) _) hb1)
  have hbk := ((Box.new w 65 _).alloc _).ext hb1
  have hbp := (Box.new _ 3 _).ext hb1
  obtain ⟨p0, p1, p2, p3, pf⟩ := hbk.c4
  obtain ⟨q0, qf⟩ := hbp.c1
  simp only [World.size_alloc] at q0 qf hbp
  have hsz : w.heap.size + 1 < w1.heap.size := by have := hb1.size; simp only [World.size_alloc] at this; omega
  have hsz0 : w.heap.size < w1.heap.size := by omega
  have HBP := Lib.hid hbp
  clear hb1 hbk hbp
  gi_wp2_with fail
  refine ⟨trivial, ((callsIn_wide (n := 9)).2 (asked_any _ _ _ _)).mono ?_⟩
  rintro e w2 ⟨rfl, rfl⟩
  rw [hask.out]
  gi_wp2_with fail
  refine ⟨trivial, ((callsIn_wide (n := 9)).2 (between_any _ _ _ _ _ _)).mono ?_⟩
  rintro e w2 ⟨rfl, hw2⟩
  simp only [World.size_alloc] at hw2 ⊢
  have hAX : ∀ b off, A = some ⟨b, off, none⟩ → flat cenc l = [] ∨ b ≠ w1.heap.size := by
    intro b off h
    rcases HR.out with h' | ⟨b', off', h1, h2, _⟩
    · exact .inl h'
    · rw [h] at h1
      injection h1 with h1
      injection h1 with h1 _
      exact .inr (by omega)
  have HAX := Lib.hid hAX
  clear hAX
  have hstop := betw_stopsX 9 (by omega) w1.heap.size (w1.heap.size + 1) (w1.heap.size + 3) (w1.heap.size + 2) A l n c a now w2 (by rw [← hw2]; exact (HR.out.below HB1.out).below (below_more (below_more (below_more (below_alloc _ _) _) _) _)) HAX.out HN.out hl (chkC_p HV.out) (by rw [← hw2]; simp only [World.size_alloc]; omega) (by rw [← hw2]; simp only [World.size_alloc]; omega) (by rw [← hw2]; simp only [World.size_alloc]; omega) (by omega) (by omega) (by omega) (by rw [← hw2]; simp [go_sem]) (by rw [← hw2]; simp [go_sem]) (by rw [← hw2]; simp [go_sem])
  have HST := Lib.hid hstop
  have hbo : Box w2 w1.heap.size [.slice none 0 0] := by rw [← hw2]; exact (((Box.new w1 44 #[.slice none 0 0]).alloc _).alloc _).alloc _
  have hbp2 : Box w2 (w.heap.size + 1) [.int .i64 p] := by rw [← hw2]; exact (((HBP.out.alloc _).alloc _).alloc _).alloc _
  have hB2 : Below w.heap.size w w2 := by rw [← hw2]; exact below_step HB1.out (below_more (below_more (below_more (below_alloc _ _) _) _) _)
  have hsz2 : w1.heap.size + 3 < w2.heap.size := by rw [← hw2]; simp only [World.size_alloc]; omega
  have hwl : w1.heap.size ≤ w2.heap.size := by omega
  have HBO := Lib.hid hbo
  have HBP2 := Lib.hid hbp2
  have HB2 := Lib.hid hB2
  clear hstop hbo hbp2 hB2 hw2 q0 qf p0 p1 p2 p3 pf
  gi_wp2
  refine wpIn_rangeFunc_ownH rfl (by omega) (gf := 81) (lb := #[.pointer (some ⟨w1.heap.size + 1, 0, none⟩), .pointer (some ⟨w1.heap.size + 3, 0, none⟩), .pointer (some ⟨w1.heap.size + 2, 0, none⟩)]) rfl trivial (enters_of Try.func81 (by kernel_rfl) rfl) HST.out BelX.trans (fun W l o o' hl h h1 h2 => belX_of (belowK_b (Nat.le_refl _) W l o o' hl h h1 h2) _) (Below.refl _ _) (fun _ => rfl)
    (fun pre W => HeldP w2.heap.size w1.heap.size (w.heap.size + 1) p (pre.map (·.1)) W ∧ Below w.heap.size w W)
    (fun _ _ _ => False)
    (OwnFrom.and (Own.from (fun pre X Y row hs hg hr => ?own) _) (ownFrom_below (Nat.le_refl _) HB2.out.size))
    (fun _ _ _ _ _ hs _ _ => hs)
    ⟨⟨none, 0, HBO.out, World.ownsRow_nil _ _ _ _, HBP2.out, Nat.le_refl _⟩, HB2.out⟩
    (fun x a' W => ∃ Bx, w2.heap.size ≤ Bx ∧ Box W Bx [.int .i64 x.1.time, .int .i64 x.1.person, 
      .bool x.1.on] ∧ a' = { tmps := #[.slice A n c, .agg #[.int .i64 a, .int .i64 m, .int .u64 s, .int .u64 se], .int .i64 p, .int .i64 now, undef, .pointer (some ⟨w.heap.size, 0, none⟩), .pointer (some ⟨w.heap.size + 1, 0, none⟩), undef, .slice none 0 0, .int .i64 0, .int .i64 0, .pointer (some ⟨w1.heap.size, 0, none⟩), .pointer (some ⟨Bx, 0, none⟩), .slice A n c, .int .i64 0, .int .i64 0, .bool true, .int .i64 p, .int .i64 now, .pointer (some ⟨w.heap.size, 0, none⟩), .int .i64 a, .int .i64 0, .int .i64 0, .bool false, undef, .slice A n c, .pointer (some ⟨w.heap.size, 0, none⟩), .int .i64 a, .int .i64 now, .func (.func 81) #[] #[.pointer (some ⟨w1.heap.size + 1, 0, none⟩), .pointer (some ⟨w1.heap.size + 1 + 2, 0, none⟩), .pointer (some ⟨w1.heap.size + 1 + 1, 0, none⟩)], .agg #[.int .i64 x.1.time, .int .i64 x.1.person, .bool x.1.on], undef, undef, undef, undef, undef, undef, undef, undef, undef], defers := [] })
    ?ax ?assign ?body ?done ?stop
  case own =>
    obtain ⟨A1, c1, h1, h2, h3, h4⟩ := hs
    exact ⟨A1, c1, box_own (β := Unit) _ (fun _ => _) (fun _ => _) () X Y row h1 hg hr, own_kept h2 hg hr, box_own (β := Unit) _ (fun _ => _) (fun _ => _) () X Y row h3 hg hr, Nat.le_trans h4 hg.size⟩
  case ax =>
    rintro x a' _ X Y row ⟨Bx, h1, h2, h3⟩ hg hr
    exact ⟨Bx, h1, (Own.from (box_own (β := Unit) Bx (fun _ => _) (fun _ => _)) _) () X Y row h2 hg hr, h3⟩
  case assign =>
    rintro lp pre x W K ⟨⟨A1, c1, h1, h2, h3, hWs⟩, hB⟩ hK
    simp only [encP]
    gi_wp2
    exact hK _ _ ((KeepsOthers.alloc _ _).from _) (belX_of ((Below.refl _ W).alloc hWs _) _) ⟨⟨A1, c1, h1.alloc _, own_ext h2 (below_alloc _ _), h3.alloc _, by simp only [World.size_alloc]; omega⟩, hB.alloc hB.size _⟩ ⟨W.heap.size, hWs, Box.new W 62 _, rfl⟩
  case body =>
    rintro lp pre x a' W hlp ⟨r, hr⟩ ⟨⟨A1, c1, hx, ho, hpx, hWs⟩, hB⟩ ⟨Bx, hBx, hX, rfl⟩ hlt
    obtain ⟨⟨gt, gp, go⟩, hgp⟩ := x
    simp only at hX ⊢
    have hlen : (selP p (pre.map (·.1))).length ≤ pre.length := by have := selP_len p (pre.map (·.1)); simpa using this
    obtain ⟨p0, pf⟩ := hx.c1
    obtain ⟨q0, q1, q2, qf⟩ := hX.c3
    obtain ⟨r0, rf⟩ := hpx.c1
    have HX := Lib.hid hx
    have HO := Lib.hid ho
    have HPX := Lib.hid hpx
    have hBW : w1.heap.size < W.heap.size := hx.2.2
    have hBX := hX.2.2
    have hPX := hpx.2.2
    have HM : Hid (selP p ((pre ++ [(⟨⟨gt, gp, go⟩, hgp⟩ : PChg)]).map (·.1)) = selP p (pre.map (·.1)) ++ if gp == p then [⟨gt, gp, go⟩] else []) := by
      unfold Hid; rw [List.map_append]; exact selP_snoc _ _ _
    clear hx ho hX hpx
    have HS : Hid (selP p ((pre ++ [(⟨⟨gt, gp, go⟩, hgp⟩ : PChg)]).map (·.1)) = selP p ((pre ++ [(⟨⟨gt, gp, go⟩, hgp⟩ : PChg)]).map (·.1))) := rfl
    generalize selP p (pre.map (·.1)) = P0 at *
    have hm : P0.length ≤ 1000 := by have := HN.out; omega
    clear hlen
    cases hq : (gp == p)
    · rw [hq] at HM
      gi_wp2
      refine ⟨(KeepsOthers.refl _).from _, belX_of (Below.refl _ _) _, ⟨A1, c1, ?_, ?_, HPX.out, hWs⟩, hB⟩
      · show Box W w1.heap.size [.slice A1 (selP p ((pre ++ [(⟨⟨gt, gp, go⟩, hgp⟩ : PChg)]).map (·.1))).length c1]
        rw [HM.out]; simpa using HX.out
      · show W.ownsRow _ 62 3 (.slice A1 (selP p ((pre ++ [(⟨⟨gt, gp, go⟩, hgp⟩ : PChg)]).map (·.1))).length c1) (selP p ((pre ++ [(⟨⟨gt, gp, go⟩, hgp⟩ : PChg)]).map (·.1))).length (flat cenc (selP p ((pre ++ [(⟨⟨gt, gp, go⟩, hgp⟩ : PChg)]).map (·.1))))
        rw [HM.out]; simpa using HO.out
    · rw [hq] at HM
      gi_wp2_with (gi_at_builtin; refine wpListIn_app_own _ rfl (.tmp 35) (.tmp 37) _ rfl w2.heap.size 62 i0 _ 3 24 Try.underlying44 HI.out HZ0.out HZ1.out HZ2.out rfl (by omega) (.slice A1 P0.length c1) P0.length (flat cenc P0) rfl _ 1 1 (cenc ⟨gt, gp, go⟩) rfl (P0.length + 1) (flat cenc (P0 ++ [⟨gt, gp, go⟩])) ?_ rfl ?h0 ?h1 ?h3 rfl ?h4 ?h5 ?h6 ?h7; intro A4 c4 w4 hown4 hb4 hk4; have HO4 := Lib.hid hown4; have HB4 := Lib.hid hb4; have HK4 := Lib.hid hk4; have hx4 := (HX.out.alloc (.cells #[.int .i64 gt, .int .i64 gp, .bool go] 62)).below hb4 (by omega); have HPX4 := Lib.hid ((HPX.out.alloc (.cells #[.int .i64 gt, .int .i64 gp, .bool go] 62)).below hb4 (by omega)); obtain ⟨s0, sf⟩ := hx4.c1; have HX4 := Lib.hid hx4; clear hown4 hb4 hk4 hx4 p0 pf)
      case h0 => rw [flat_append, flat_cons, flat_nil, List.append_nil]
      case h1 => exact own_ext HO.out (below_alloc _ _)
      case h3 => exact rd_newC _ _ _ _ rfl
      case h4 => intro u hu; exact cenc_one [⟨gt, gp, go⟩] u (by simpa [flat] using hu)
      case h5 => simp only [maxLen]; omega
      case h6 => omega
      case h7 => first | omega | (simp only [World.size_alloc]; omega)
      refine ⟨(((KeepsOthers.alloc _ _).trans HK4.out).trans (KeepsOthers.setCell _ _ _)).from _, ?_, ⟨A4, c4, ?_, ?_, ?_, ?_⟩, ?_⟩
      · exact ((belX_of ((Below.refl _ W).alloc hWs _) _).trans (belX_of HB4.out _)).set 0 _
      · show Box _ w1.heap.size [.slice A4 (selP p ((pre ++ [(⟨⟨gt, gp, go⟩, hgp⟩ : PChg)]).map (·.1))).length c4]
        rw [HM.out, if_pos trivial, List.length_append]
        exact HX4.out.set (i := 0) _ (by simp)
      · show World.ownsRow _ _ 62 3 (.slice A4 (selP p ((pre ++ [(⟨⟨gt, gp, go⟩, hgp⟩ : PChg)]).map (·.1))).length c4) (selP p ((pre ++ [(⟨⟨gt, gp, go⟩, hgp⟩ : PChg)]).map (·.1))).length (flat cenc (selP p ((pre ++ [(⟨⟨gt, gp, go⟩, hgp⟩ : PChg)]).map (·.1))))
        rw [HM.out, if_pos trivial, List.length_append]
        exact own_set HO4.out (by omega) _
      · exact HPX4.out.far _ (by omega)
      · have := HB4.out.size
        simp only [World.size_alloc] at this
        simp only [World.size_setCell]
        omega
      · exact ((hB.alloc hB.size _).trans (HB4.out.mono (by omega))).setCell (by simp; omega) _
  case done =>
    rintro D ys W hD hS ⟨⟨A1, c1, hx, ho, hpx, hWs⟩, hB⟩ hK
    rw [hS, betW_eq _ _ l 0 (chkC_v HV.out)] at hx ho
    obtain ⟨p0, pf⟩ := hx.c1
    gi_wp2
    refine ⟨by simp, .inl ⟨_, _, rfl, run_takeDeferred hK, ?_⟩⟩
    obtain ⟨A3, c3, he, how⟩ := rd_of_own (own_mono (base' := w.heap.size) (own_kept ho (grownBy_putObj' _ D (.deferred none)) (fun r e => by cases e; exact ⟨_, hK, rfl⟩)) (by omega))
    injection he with he1 _ _
    subst he1
    refine ⟨_, results_tmp2 rfl _ _ _, A1, c1, rfl, how, ?_⟩
    exact hB.trans (belowK_b (w := w) (Nat.le_refl _) W D _ _ (by omega) hK rfl rfl)
  case stop =>
    rintro D c pre W hD _ h _
    exact h.elim
end Go.Proofs.Ytalmeokljamhdaa
