/- Sketch: the value of a secret at a place, and at how many places it agrees with a vault. No condition. -/
import Derived.Test.YtnienfgaidccpaaDoorLa
namespace Go.Proofs.YtnienfgaidccpaaDoor
open Go.RowKit Go.Shelf
attribute [local go_sem] Oper.semAt_some

set_option maxRecDepth 100000 in
set_option maxHeartbeats 2000000 in
theorem back_gen (n : Nat) (hn : 1 ≤ n) (lp Bt : Nat) (A : Option Addr) (l : List Int) (nn c : Nat) (Wd : World) (J Jx : List (Int × Int) → World → Prop)
    (St : World → Prop) (Kp : World → World → Prop) (hnn : nn = l.length) (hnb : nn ≤ 1000) (hl : In31 l)
    (hSt : ∀ X, St X → Rd X A (i64s l) ∧ X.cell? ⟨Bt, 0, none⟩ = some (.slice A nn c) ∧ Bt < X.heap.size)
    (hStK : ∀ X Y, St X → Kp X Y → St Y) (hst0 : St Wd)
    (hY : ∀ pre (x : Int × Int) W1, (0 ≤ x.2 ∧ x.2 < 31) → J pre W1 → pre.length < l.length → YieldAt Fence.wide (n - 1) Tryd.prog lp #[.int .i64 x.1, .int .i64 x.2] W1 fun e W' =>
      (e = .returned (.bool true) ∧ J (pre ++ [x]) W' ∧ Kp W1 W') ∨ (e = .returned (.bool false) ∧ Jx (pre ++ [x]) W')) (h0 : J [] Wd) :
    CallsIn Fence.wide n Tryd.prog 104 #[.func (.yield lp) #[] #[], .pointer (some ⟨Bt, 0, none⟩)] Wd fun e W' => (∃ v, e = .returned v) ∧
      ((∃ ys, ys.map Prod.snd = l.reverse ∧ J ys W') ∨ (∃ pre, True ∧ Jx pre W')) := by
  have HST := Lib.hid hSt
  have HSK := Lib.hid hStK
  have HS0 := Lib.hid hst0
  have HN := Lib.hid hnn
  have HL := Lib.hid hl
  have HY := Lib.hid hY
  have HJ0 := Lib.hid h0
  clear hSt hStK hst0 hnn hY h0 hl
  obtain ⟨_, c0, cl⟩ := HST.out Wd HS0.out
  refine callsIn_of_wp Tryd.func104 rfl trivial ?_ rfl
  simp only [Tryd.ntmps104, List.size_toArray, List.length_cons, List.length_nil, Nat.reduceAdd, Nat.reduceSub, Array.replicate_succ, Array.replicate_zero, List.push_toArray, List.append_toArray, List.nil_append, List.cons_append]
  gi_wp2
  gi_loopw [3] (fun i wr => ∃ (k : Nat), k ≤ nn ∧ i = .int .i64 ((nn : Int) - 1 - k) ∧ Hid (∃ pre, pre.length = k ∧ pre.map Prod.snd = l.reverse.take k ∧ J pre wr) ∧ Hid (St wr)) (fun i _ => (intOf i + 1).toNat)
  case atStart => exact ⟨0, Nat.zero_le _, by go_num, ⟨[], rfl, rfl, HJ0.out⟩, HS0.out⟩
  case round =>
    obtain ⟨k, hk, rfl, hj, hb⟩ := hrel
    clear c0 cl
    obtain ⟨hrd, c0, cl⟩ := HST.out wr hb.out
    have HRD := Lib.hid hrd
    clear hrd
    obtain ⟨pre, q1, q2, q3⟩ := hj.out
    have Q1 := Lib.hid q1
    have Q2 := Lib.hid q2
    have Q3 := Lib.hid q3
    clear hj q1 q2 q3
    by_cases hlt : k < nn
    · obtain ⟨j, hjn⟩ : ∃ j, nn = j + 1 + k := ⟨nn - 1 - k, by omega⟩
      have hj' : j < l.length := by rw [← HN.out]; omega
      have hji : (nn : Int) - 1 - k = (j : Int) := by omega
      have HJI := Lib.hid (show (j : Int) - 1 = (nn : Int) - 1 - ((k + 1 : Nat) : Int) by omega)
      rw [hji]
      obtain ⟨b, off, rfl, hc1, hbs⟩ := HRD.out.i64 hj'
      have HT := Lib.hid (show l.reverse.take (k + 1) = l.reverse.take k ++ [l[j]] by
        rw [List.take_add_one, List.getElem?_reverse (by rw [← HN.out]; omega), show l.length - 1 - k = j by rw [← HN.out]; omega, List.getElem?_eq_getElem hj']
        rfl)
      have hx := HL.out _ (List.getElem_mem hj')
      generalize l[j] = v at *
      obtain ⟨fn, tmps, assign, body, hy, hR⟩ := HY.out pre ((j : Int), v) wr hx Q3.out (by rw [Q1.out, ← HN.out]; exact hlt)
      dsimp only at hy
      have hjj : (j : Int) < (nn : Int) := by omega
      have hj0 : 0 ≤ (j : Int) := by omega
      clear hji hjn
      gi_wp2
      refine hR.mono ?_
      rintro e W3 (⟨rfl, hJ3, hk3⟩ | ⟨rfl, hJx3⟩)
      · have HJ3 := Lib.hid hJ3
        clear hJ3
        have HS3 := Lib.hid (HSK.out _ _ hb.out hk3)
        clear hk3
        gi_wp2
        go_roundw
        case rel => exact ⟨k + 1, by omega, by rw [← HJI.out], ⟨_, by rw [List.length_append, Q1.out]; rfl, by rw [List.map_append, Q2.out, HT.out]; rfl, HJ3.out⟩, HS3.out⟩
        case measure => simp [intOf]
      · have HJ3 := Lib.hid hJx3
        clear hJx3
        gi_wp2
        refine bodyPost_ret (results_none rfl _ _ _) rfl ?_
        exact ⟨⟨_, rfl⟩, .inr ⟨_, trivial, HJ3.out⟩⟩
    · have hfin : Hid (pre.map Prod.snd = l.reverse) := by unfold Hid; rw [Q2.out, List.take_of_length_le (by rw [List.length_reverse, ← HN.out]; omega)]
      have hneg : ¬ 0 ≤ (nn : Int) - 1 - k := by omega
      gi_wp2
      go_end0
      exact ⟨⟨_, rfl⟩, .inl ⟨pre, hfin.out, Q3.out⟩⟩

abbrev PV := { x : Int × Int // 0 ≤ x.2 ∧ x.2 < 31 }
def encPV (x : PV) : Array Value := #[.int .i64 x.1.1, .int .i64 x.1.2]
def Keep2 (b b' : Nat) (w w' : World) : Prop := w'.heap[b]? = w.heap[b]? ∧ w'.heap[b']? = w.heap[b']? ∧ w.heap.size ≤ w'.heap.size
theorem Keep2.trans {b b' : Nat} {x y z : World} (h : Keep2 b b' x y) (k : Keep2 b b' y z) : Keep2 b b' x z := ⟨k.1.trans h.1, k.2.1.trans h.2.1, Nat.le_trans h.2.2 k.2.2⟩
theorem back_stops (n : Nat) (hn : 1 ≤ n) (Bt Bd : Nat) (A : Option Addr) (l : List Int) (nn c : Nat) (w0 : World) (hnn : nn = l.length) (hnb : nn ≤ 1000) (hl : In31 l)
    (hr : Rd w0 A (i64s l)) (hA : ∀ b off, A = some ⟨b, off, none⟩ → i64s l = [] ∨ b = Bd) (hBt : Bt < w0.heap.size)
    (c0 : w0.cell? ⟨Bt, 0, none⟩ = some (.slice A nn c)) :
    SeqStopsK Fence.wide n Tryd.prog 104 #[.pointer (some ⟨Bt, 0, none⟩)] encPV (Keep2 Bt Bd) (fun ys => ys.map (·.1.2) = l.reverse) (fun _ => True) l.length w0 := by
  intro lp J Jx Wd hW hJ _ hY h0
  refine (back_gen n hn lp Bt A l nn c Wd (fun pre W1 => ∃ q : List PV, q.map (·.1) = pre ∧ J q W1) (fun pre W1 => ∃ q : List PV, q.map (·.1) = pre ∧ Jx q W1)
    (fun X => w0.heap.size ≤ X.heap.size ∧ X.heap[Bt]? = w0.heap[Bt]? ∧ ∀ b off, A = some ⟨b, off, none⟩ → i64s l = [] ∨ X.heap[b]? = w0.heap[b]?) (Keep2 Bt Bd) hnn hnb hl ?_ ?_ ?_ ?_ ⟨[], rfl, h0⟩).mono ?_
  · rintro X ⟨h1, h2, h3⟩
    refine ⟨?_, (World.cell?_of_block (w := w0) (a := ⟨Bt, 0, none⟩) h2).trans c0, by omega⟩
    rcases hr with h | ⟨b, off, e1, e2, e3⟩
    · exact .inl h
    · rcases h3 b off e1 with h | h
      · exact .inl h
      · exact .inr ⟨b, off, e1, by omega, fun j u hu => (World.cell?_of_block (w := w0) (a := ⟨b, off + j, none⟩) h).trans (e3 j u hu)⟩
  · rintro X Y ⟨h1, h2, h3⟩ ⟨k1, k2, k3⟩
    refine ⟨by omega, k1.trans h2, fun b off e => ?_⟩
    rcases h3 b off e with h | h
    · exact .inl h
    · rcases hA b off e with h' | h'
      · exact .inl h'
      · subst h'; exact .inr (k2.trans h)
  · refine ⟨hW.size, hW.block Bt hBt, fun b off e => ?_⟩
    rcases hr with h | ⟨b', off', e1, e2, _⟩
    · exact .inl h
    · rw [e] at e1
      injection e1 with e1
      injection e1 with e1 _
      subst e1
      exact .inr (hW.block b e2)
  · rintro pre x W1 hx ⟨q, rfl, hj⟩ hlen
    obtain ⟨fn, tmps, assign, body, hy, hR⟩ := hY q ⟨x, hx⟩ W1 hj (by simpa using hlen)
    refine ⟨fn, tmps, assign, body, hy, hR.mono ?_⟩
    rintro e W' (⟨he, h1, h2⟩ | ⟨he, h1⟩)
    · exact .inl ⟨he, ⟨q ++ [⟨x, hx⟩], by simp, h1⟩, h2⟩
    · exact .inr ⟨he, q ++ [⟨x, hx⟩], by simp, h1⟩
  · rintro e W' ⟨he, ⟨ys, hys, q, hq, hj⟩ | ⟨pre, _, q, hq, hj⟩⟩
    · exact ⟨he, .inl ⟨q, by rw [← hys, ← hq, List.map_map]; rfl, hj⟩⟩
    · exact ⟨he, .inr ⟨q, trivial, hj⟩⟩
/-- slices.Backward: a function value with its own copy of the slice. -/
theorem backward_any (A : Option Addr) (n c : Nat) (w : World) :
    Calls Tryd.prog 94 #[.slice A n c] w fun e w' => e = .returned (.func (.func 104) #[] #[.pointer (some ⟨w.heap.size, 0, none⟩)]) ∧ w.alloc (.cells #[.slice A n c] 61) = w' := by
  go_enter Tryd.func94, Tryd.ntmps94
  go_wp2_with fail
  go_ret
  exact ⟨rfl, rfl⟩
theorem valF_fold (x : Int) (l : List Int) : l.reverse.foldl (fun o s => (o * x + s) % 31) 0 = valF l x := by
  rw [List.foldl_reverse]
  induction l with
  | nil => rfl
  | cons s l ih => rw [List.foldr_cons, ih, valF, Int.mul_comm, Int.add_comm]
theorem fold_in (x : Int) : ∀ (l : List Int) (o : Int), (0 ≤ o ∧ o < 31) → 0 ≤ l.foldl (fun o s => (o * x + s) % 31) o ∧ l.foldl (fun o s => (o * x + s) % 31) o < 31
  | [], _, h => h
  | s :: l, o, _ => fold_in x l ((o * x + s) % 31) (by omega)
set_option maxRecDepth 100000 in
set_option maxHeartbeats 2000000 in
theorem at_any (l : List Int) (A : Option Addr) (n c : Nat) (x : Int) (w : World) (hr : Rd w A (i64s l)) (hn : n = l.length) (h1 : 1 ≤ n) (hnb : n ≤ 1000) (hl : In31 l) (hx : 0 ≤ x ∧ x < 31) :
    Calls Tryd.prog 74 #[.slice A n c, .int .i64 x] w fun e w' => e = .returned (.int .i64 (valF l x)) ∧ Below w.heap.size w w' := by
  obtain ⟨x0, x1⟩ := hx
  obtain ⟨b0, off, rfl, hb0, hc0⟩ := hr.at_ (i64s_get (show 0 < l.length by omega))
  have HRD := Lib.hid (fun W1 (h : Below w.heap.size w W1) => hr.below h)
  have HB0 := Lib.hid hb0
  have HN := Lib.hid hn
  have HL := Lib.hid hl
  have HM := Lib.hid (fun m W1 => mod_any m W1)
  have HFIN := Lib.hid (valF_fold x l)
  have S0 := Lib.hid (((Own.start w).new 3 #[.int .i64 x]).new' 108 #[.int .i64 0] (B := w.heap.size + 1) (by simp))
  clear hr hn hc0 hb0 hl
  refine calls_of_wp_marks Tryd.func74 rfl ?_
  simp only [Tryd.ntmps74, List.size_toArray, List.length_cons, List.length_nil, Nat.reduceAdd, Nat.reduceSub, Array.replicate_succ, Array.replicate_zero, List.push_toArray, List.append_toArray, List.nil_append, List.cons_append]
  go_wp2_with fail
  refine (backward_any _ _ _ _).mono ?_
  rintro e w4 ⟨rfl, hw4⟩
  have L4 := Lib.hid (S0.out.new' 61 #[.slice (some ⟨b0, off, none⟩) n c] (B := w.heap.size + 2) (by simp))
  have hX : ((w.alloc (.cells #[.int .i64 x] 3)).alloc (.cells #[.int .i64 0] 108)).heap.size = w.heap.size + 2 := by simp
  generalize (w.alloc (.cells #[.int .i64 x] 3)).alloc (.cells #[.int .i64 0] 108) = w3 at *
  rw [hw4] at L4
  have HX := Lib.hid hX
  rw [hX]
  clear hw4 S0 hX
  go_wp2_with fail
  have lb := (L4.out.bx 0 rfl).2.2
  have b1 := (L4.out.bx 0 rfl).1 0 _ rfl
  refine wp_range_own (w0 := w) (gf := 104) (lb := #[.pointer (some ⟨w.heap.size + 2, 0, none⟩)]) rfl (enters_of Tryd.func104 (by kernel_rfl) rfl)
    (back_stops 9 (by omega) (w.heap.size + 2) b0 (some ⟨b0, off, none⟩) l n c w4 HN.out hnb HL.out (HRD.out _ L4.out.bel) (fun b o e => .inr (by injection e with e; injection e with e _; exact e.symm)) lb b1)
    Keep2.trans (fun W1 lq o o' hl _ _ _ => ⟨World.putObj_heap_other (by omega), World.putObj_heap_other (by have := HB0.out; have := L4.out.bel.size; omega), by simp⟩) (fun W1 => ⟨rfl, rfl, Nat.le_refl _⟩) (fun _ => rfl)
    (fun pre s => s = (pre.map (·.1.2)).foldl (fun o s => (o * x + s) % 31) 0)
    (fun s : Int => [box (w.heap.size + 2) 61 [.slice (some ⟨b0, off, none⟩) n c], box (w.heap.size + 1) 108 [.int .i64 s], box w.heap.size 3 [.int .i64 x]])
    ?hcel 0 rfl L4.out
    (fun y => { tmps := #[.slice (some ⟨b0, off, none⟩) n c, .int .i64 x, undef, .pointer (some ⟨w.heap.size, 0, none⟩), .int .i64 0, .pointer (some ⟨w.heap.size + 1, 0, none⟩), undef, .int .i64 y.1.2, .slice (some ⟨b0, off, none⟩) n c, .func (.func 104) #[] #[.pointer (some ⟨w.heap.size + 2, 0, none⟩)], .int .i64 y.1.1, .int .i64 y.1.2, undef, undef, undef, undef, undef, undef, undef], defers := [] }) ?hassign ?hbody ?hdone
  case hcel =>
    intro s p hp
    simp only [List.mem_cons, List.not_mem_nil, or_false] at hp
    rcases hp with rfl | rfl | rfl
    all_goals exact .inl (box_cel _ _ _)
  case hassign =>
    intro y lq K W1 hK
    simp only [encPV]
    gi_wp2
    exact hK
  case hdone =>
    rintro Dn xs s W5 hS hR hO
    have HM2 := Lib.hid (show s = valF l x by rw [hR, hS]; exact HFIN.out)
    have HO := Lib.hid (hO.perm (List.Perm.trans (List.Perm.refl _) (List.perm_middle (l₁ := [box (w.heap.size + 2) 61 [.slice (some ⟨b0, off, none⟩) n c], box (w.heap.size + 1) 108 [.int .i64 s], box w.heap.size 3 [.int .i64 x]]) (l₂ := []) (a := mk Dn)).symm))
    clear hO hS hR
    have k0 := (HO.out.bx 1 rfl).1 0 _ rfl
    go_wp2_with fail
    refine leaves_marks (ps := [box (w.heap.size + 2) 61 [.slice (some ⟨b0, off, none⟩) n c], box (w.heap.size + 1) 108 [.int .i64 s], box w.heap.size 3 [.int .i64 x]]) (fun w' h => ?_) [Dn] _ HO.out
    exact ⟨.int .i64 s, by simp [results, Tryd.results74, go_sem], by rw [HM2.out], h.bel⟩
  case hbody =>
    intro lq pre y s W1 hpl hR hO
    obtain ⟨⟨i, v⟩, hv0, hv1⟩ := y
    dsimp only at hv0 hv1
    have HO := Lib.hid (hO.cast (qs := [box (w.heap.size + 2) 61 [.slice (some ⟨b0, off, none⟩) n c], box (w.heap.size + 1) 108 [.int .i64 s], box w.heap.size 3 [.int .i64 x]]) rfl)
    have hs : 0 ≤ s ∧ s < 31 := by rw [hR]; exact fold_in x _ 0 (by omega)
    have HRR := Lib.hid (show (s * x + v) % 31 = ((pre ++ [(⟨(i, v), hv0, hv1⟩ : PV)]).map (·.1.2)).foldl (fun o s => (o * x + s) % 31) 0 by
      rw [List.map_append, List.foldl_append, ← hR]; rfl)
    obtain ⟨s0, s1⟩ := hs
    have hpa : 0 ≤ s * x ∧ s * x ≤ 900 := ⟨Int.mul_nonneg s0 x0, by have := Int.mul_le_mul (show s ≤ 30 by omega) (show x ≤ 30 by omega) x0 (by omega); omega⟩
    have z1 : IntKind.i64.wrap (s * x) = s * x := IntWalk.i64_in _ (by omega)
    have z2 : IntKind.i64.wrap (s * x + v) = s * x + v := IntWalk.i64_in _ (by omega)
    clear hR hO hpl
    have k0 := (HO.out.bx 1 rfl).1 0 _ rfl
    have k1 := (HO.out.bx 2 rfl).1 0 _ rfl
    have l0 := (HO.out.bx 1 rfl).2.2
    have f0 := (HO.out.bx 1 rfl).2.1
    dsimp only
    gi_wp2_with fail
    refine ⟨trivial, ?_⟩
    refine (CallsIn.inRound lq (callsIn_wide.2 (HM.out _ _))).mono ?_
    rintro e W2 ⟨rfl, rfl⟩
    gi_wp2_with fail
    have O2 := Lib.hid (HO.out.set 1 rfl 0 (.int .i64 ((s * x + v) % 31)))
    exact ⟨KeepsOthers.setCell _ _ _, ⟨(show _ = _ from O2.out.get 0 rfl).trans (show _ = _ from HO.out.get 0 rfl).symm, (O2.out.bel.block b0 HB0.out).trans (HO.out.bel.block b0 HB0.out).symm, by simp⟩, (s * x + v) % 31, HRR.out, O2.out⟩
/-- A vault's value at a place. -/
def vaV (v : List Int) (x : Int) : Int := v.getD x.toNat 0
theorem vaV_at {v : List Int} {k : Nat} (h : k < v.length) : vaV v (k : Int) = v[k] := by simp [vaV, List.getD, List.getElem?_eq_getElem h]
theorem agr_snoc (V : Int → Int) (f : List Int) (l : List Int) (x : Int) : agr V f (l ++ [x]) = agr V f l + if valF f x = V x then 1 else 0 := by
  unfold agr
  rw [List.filter_append, List.length_append]
  by_cases h : valF f x = V x <;> simp [h]
theorem agr_le (V : Int → Int) (f l : List Int) : agr V f l ≤ l.length := List.length_filter_le _ _
set_option maxRecDepth 100000 in
set_option maxHeartbeats 2000000 in
theorem agree_any (f v s : List Int) (A A' A2 : Option Addr) (n n' n2 c c' c2 : Nat) (w : World) (hf : Rd w A (i64s f)) (hv : Rd w A' (i64s v)) (hs : Rd w A2 (i64s s)) (hn : n = f.length) (hn' : n' = v.length) (hn2 : n2 = s.length)
    (h1 : 1 ≤ n) (hb : n ≤ 1000) (h31 : n' = 31) (hb2 : n2 ≤ 1000) (fi : In31 f) (si : In31 s) :
    Calls Tryd.prog 80 #[.slice A n c, .slice A' n' c', .slice A2 n2 c2] w fun e w' => e = .returned (.int .i64 (agr (vaV v) f s : Nat)) ∧ Below w.heap.size w w' := by
  have HV := Lib.hid (fun W (h : Below w.heap.size w W) => hv.below h)
  have HS := Lib.hid (fun W (h : Below w.heap.size w W) => hs.below h)
  have HN' := Lib.hid hn'
  have HN2 := Lib.hid hn2
  have HSI := Lib.hid si
  have HAT := Lib.hid (fun x W (h : Below w.heap.size w W) hx => at_any f A n c x W (hf.below h) hn h1 hb fi hx)
  have H31 := Lib.hid h31
  clear hf hv hs hn hn' hn2 fi si h31
  go_enter Tryd.func80, Tryd.ntmps80
  go_wp2_with fail
  go_loopg [7, 12] n2 (fun q u7 u12 wr => ∃ i k : Nat, i ≤ n2 ∧ k ≤ i ∧ u7 = .int .i64 (k : Nat) ∧ u12 = .int .i64 (i : Nat) ∧ Hid (k = agr (vaV v) f (s.take i) ∧ i + q = n2 ∧ Own w wr []))
  case atStart => exact ⟨0, 0, by omega, by omega, rfl, rfl, by rw [List.take_zero]; rfl, by omega, Own.start w⟩
  case round =>
    obtain ⟨i, k, hi, hki, rfl, rfl, hI⟩ := hrel
    have I0 := Lib.hid hI.out.1
    have I1 := Lib.hid hI.out.2.1
    have I2 := Lib.hid hI.out.2.2
    clear hI
    by_cases hlt : i < n2
    case neg => as_aux_lemma =>
      have HE := Lib.hid (show k = agr (vaV v) f s by rw [I0.out, List.take_of_length_le (by have := HN2.out; omega)])
      have hni : ¬ (i : Int) < (n2 : Int) := by omega
      go_wp2_with fail
      go_ret
      exact ⟨by rw [← HE.out]; rfl, I2.out.bel⟩
    have hil : i < s.length := by rw [← HN2.out]; exact hlt
    have hix : (i : Int) < (n2 : Int) := by omega
    obtain ⟨b0, off, rfl, k0, l0⟩ := (HS.out _ I2.out.bel).i64 hil
    have hx := HSI.out _ (List.getElem_mem hil)
    have HT := Lib.hid (show agr (vaV v) f (s.take (i + 1)) = k + if valF f s[i] = vaV v s[i] then 1 else 0 by
      rw [List.take_add_one, List.getElem?_eq_getElem hil, Option.toList_some, agr_snoc, ← I0.out])
    generalize s[i] = x at *
    obtain ⟨xn, rfl⟩ : ∃ xn : Nat, x = xn := ⟨x.toNat, by omega⟩
    have hxl : xn < v.length := by have := HN'.out; have := H31.out; omega
    have hxn : (xn : Int) < (n' : Int) := by have := H31.out; omega
    rw [vaV_at hxl] at HT
    have HCV := Lib.hid (fun W (h : Below w.heap.size w W) => (HV.out W h).i64 hxl)
    have HA1 := Lib.hid (fun W (h : Below w.heap.size w W) => HAT.out (xn : Int) W h hx)
    obtain ⟨b1, off1, rfl, k1, l1⟩ := HCV.out _ I2.out.bel
    have K1 := Lib.hid (fun z : OwnOf w [] => (show z.wld.cell? ⟨b1, off1 + xn, none⟩ = some (.int .i64 v[xn]) by obtain ⟨b, o, e, h, _⟩ := HCV.out z.wld z.own.bel; simp only [Option.some.injEq, Addr.mk.injEq] at e; obtain ⟨rfl, rfl, _⟩ := e; exact h))
    generalize v[xn] = y at *
    generalize valF f (xn : Int) = a at *
    clear hx hxl k1 l1 HCV
    by_cases hay : a = y
    · as_aux_lemma =>
      have HG := Lib.hid (show agr (vaV v) f (s.take (i + 1)) = k + 1 by rw [HT.out, if_pos hay])
      subst hay
      clear HT
      go_upto_region 5 with fail
      have fx0 := fun z : OwnOf w [] => K1.out z
      have hne : Nonempty (OwnOf w []) := ⟨⟨_, I2.out⟩⟩
      refine wp_region_own I2.out (by kernel_rfl) (by kernel_rfl) ?_
      iterate 2 (go_big_quiet_step (fail))
      go_big_quiet_step ((go_at_call 74; exact own_of (HA1.out _ (OwnOf.own _).bel)))
      iterate 5 (go_big_quiet_step (fail))
      refine wpQuiet_nil ?_
      rintro w3 ⟨z, hz⟩
      have S3 := Lib.hid (show Own w w3 [] by rw [hz]; exact z.own)
      clear hz z hne fx0 K1
      go_wp2_with fail
      go_roundg (gk - 1)
      case measure => have := I1.out; omega
      case rel => exact ⟨i + 1, k + 1, by omega, by omega, by go_num, by go_num, HG.out.symm, by have := I1.out; omega, S3.out⟩
    · as_aux_lemma =>
      have HG := Lib.hid (show agr (vaV v) f (s.take (i + 1)) = k by rw [HT.out, if_neg hay]; rfl)
      clear HT
      go_upto_region 5 with fail
      have fx0 := fun z : OwnOf w [] => K1.out z
      have hne : Nonempty (OwnOf w []) := ⟨⟨_, I2.out⟩⟩
      refine wp_region_own I2.out (by kernel_rfl) (by kernel_rfl) ?_
      iterate 2 (go_big_quiet_step (fail))
      go_big_quiet_step ((go_at_call 74; exact own_of (HA1.out _ (OwnOf.own _).bel)))
      iterate 5 (go_big_quiet_step (fail))
      refine wpQuiet_nil ?_
      rintro w3 ⟨z, hz⟩
      have S3 := Lib.hid (show Own w w3 [] by rw [hz]; exact z.own)
      clear hz z hne fx0 K1
      go_wp2_with fail
      go_roundg (gk - 1)
      case measure => have := I1.out; omega
      case rel => exact ⟨i + 1, k, by omega, by omega, rfl, by go_num, HG.out.symm, by have := I1.out; omega, S3.out⟩
end Go.Proofs.YtnienfgaidccpaaDoor
