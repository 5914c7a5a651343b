/- Rates: the numbers of a slice, one after another; a new slice of them. No condition. -/
import Derived.Test.YtnalbchggjepdaaTa
import Derived.Deep.CutRange
namespace Go.Proofs.Ytnalbchggjepdaa
open Go.RowKit Go.Shelf
attribute [local go_sem] Oper.semAt_some

set_option maxRecDepth 100000 in
set_option maxHeartbeats 2000000 in
theorem val_gen (n : Nat) (hn : 1 ≤ n) (lp Bt : Nat) (A : Option Addr) (l : List Int) (nn c : Nat) (Wd : World) (J Jx : List Int → World → Prop)
    (St : World → Prop) (Kp : World → World → Prop) (hnn : nn = l.length) (hnb : nn ≤ 1000000)
    (hSt : ∀ X, St X → Rd X A (ints l) ∧ X.cell? ⟨Bt, 0, none⟩ = some (.slice A nn c) ∧ Bt < X.heap.size)
    (hStK : ∀ X Y, St X → Kp X Y → St Y) (hst0 : St Wd)
    (hY : ∀ pre (x : Int) W1, J pre W1 → pre.length < l.length → YieldAt Fence.wide (n - 1) Try.prog lp #[.int .i64 x] W1 fun e W' =>
      (e = .returned (.bool true) ∧ J (pre ++ [x]) W' ∧ Kp W1 W') ∨ (e = .returned (.bool false) ∧ Jx (pre ++ [x]) W')) (h0 : J [] Wd) :
    CallsIn Fence.wide n Try.prog 89 #[.func (.yield lp) #[] #[], .pointer (some ⟨Bt, 0, none⟩)] Wd fun e W' => (∃ v, e = .returned v) ∧
      (J l W' ∨ (∃ pre, True ∧ Jx pre W')) := by
  have HST := Lib.hid hSt
  have HSK := Lib.hid hStK
  have HS0 := Lib.hid hst0
  have HN := Lib.hid hnn
  have HY := Lib.hid hY
  have HJ0 := Lib.hid h0
  clear hSt hStK hst0 hnn hY h0
  obtain ⟨_, c0, cl⟩ := HST.out Wd HS0.out
  refine callsIn_of_wp Try.func89 rfl trivial ?_ rfl
  simp only [Try.ntmps89, List.size_toArray, List.length_cons, List.length_nil, Nat.reduceAdd, Nat.reduceSub, Array.replicate_succ, Array.replicate_zero, List.push_toArray, List.append_toArray, List.nil_append, List.cons_append]
  gi_wp2
  gi_loopw [7] (fun i wr => ∃ (k : Nat), k ≤ nn ∧ i = .int .i64 (k : Nat) ∧ Hid (J (l.take k) wr) ∧ Hid (St wr)) (fun i _ => nn - (intOf i).toNat)
  case atStart => exact ⟨0, Nat.zero_le _, by go_num, HJ0.out, HS0.out⟩
  case round =>
    obtain ⟨k, hk, rfl, hj, hb⟩ := hrel
    clear c0 cl
    obtain ⟨hrd, c0, cl⟩ := HST.out wr hb.out
    have HRD := Lib.hid hrd
    clear hrd
    by_cases hlt : k < nn
    · have hlt' : k < l.length := by rw [← HN.out]; exact hlt
      obtain ⟨b, off, rfl, hbs, hc⟩ := HRD.out.at_ (ints_get hlt')
      have hc0 := hc k _ (ints_get hlt')
      clear hc
      have HT := Lib.hid (show l.take (k + 1) = l.take k ++ [l[k]] from List.take_succ_eq_append_getElem hlt')
      have HL := Lib.hid (show (l.take k).length < l.length by rw [List.length_take]; omega)
      generalize l[k] = v at *
      clear hlt'
      obtain ⟨fn, tmps, assign, body, hy, hR⟩ := HY.out (l.take k) v wr hj.out HL.out
      have hki : (k : Int) < (nn : Int) := by omega
      gi_wp2
      refine hR.mono ?_
      rintro e W3 (⟨rfl, hJ3, hk3⟩ | ⟨rfl, hJx3⟩)
      · have HJ3 := Lib.hid hJ3
        clear hJ3
        have HS3 := Lib.hid (HSK.out _ _ hb.out hk3)
        clear hk3
        gi_wp2
        go_roundw
        case rel => exact ⟨k + 1, by omega, by go_num, (by unfold Hid; rw [HT.out]; exact HJ3.out), HS3.out⟩
        case measure => simp [intOf]; omega
      · have HJ3 := Lib.hid hJx3
        clear hJx3
        gi_wp2
        refine bodyPost_ret (results_none rfl _ _ _) rfl ?_
        exact ⟨⟨_, rfl⟩, .inr ⟨_, trivial, HJ3.out⟩⟩
    · have hfin : Hid (l.take k = l) := by unfold Hid; rw [List.take_of_length_le (by rw [← HN.out]; omega)]
      have hneg : ¬ (k : Int) < (nn : Int) := by omega
      gi_wp2
      go_end0
      exact ⟨⟨_, rfl⟩, .inl (by have := hj.out; rw [hfin.out] at this; exact this)⟩

/-- Two blocks stay as they are. -/
def Keep2 (b b' : Nat) (w w' : World) : Prop := w'.heap[b]? = w.heap[b]? ∧ w'.heap[b']? = w.heap[b']? ∧ w.heap.size ≤ w'.heap.size
theorem Keep2.trans {b b' : Nat} {x y z : World} (h : Keep2 b b' x y) (k : Keep2 b b' y z) : Keep2 b b' x z := ⟨k.1.trans h.1, k.2.1.trans h.2.1, Nat.le_trans h.2.2 k.2.2⟩
theorem Keep2.below {b b' B : Nat} {x y : World} (h : Below B x y) (hb : b < B) (hb' : b' < B) : Keep2 b b' x y := ⟨h.block _ hb, h.block _ hb', h.size⟩
theorem Keep2.below2 {b b' B : Nat} {w x y : World} (h : Below B w x) (k : Below B w y) (hs : x.heap.size ≤ y.heap.size) (hb : b < B) (hb' : b' < B) : Keep2 b b' x y := ⟨(k.block _ hb).trans (h.block _ hb).symm, (k.block _ hb').trans (h.block _ hb').symm, hs⟩
def encIn (x : Int) : Array Value := #[.int .i64 x]
theorem val_stops (n : Nat) (hn : 1 ≤ n) (Bt Bd : Nat) (A : Option Addr) (l : List Int) (nn c : Nat) (w0 : World) (hnn : nn = l.length) (hnb : nn ≤ 1000000)
    (hr : Rd w0 A (ints l)) (hA : ∀ b off, A = some ⟨b, off, none⟩ → ints l = [] ∨ b = Bd) (hBt : Bt < w0.heap.size)
    (c0 : w0.cell? ⟨Bt, 0, none⟩ = some (.slice A nn c)) :
    SeqStopsK Fence.wide n Try.prog 89 #[.pointer (some ⟨Bt, 0, none⟩)] encIn (Keep2 Bt Bd) (fun ys => ys = l) (fun _ => True) l.length w0 := by
  intro lp J Jx Wd hW hJ _ hY h0
  refine (val_gen n hn lp Bt A l nn c Wd J Jx
    (fun X => w0.heap.size ≤ X.heap.size ∧ X.heap[Bt]? = w0.heap[Bt]? ∧ ∀ b off, A = some ⟨b, off, none⟩ → ints l = [] ∨ X.heap[b]? = w0.heap[b]?) (Keep2 Bt Bd) hnn hnb ?_ ?_ ?_ ?_ h0).mono ?_
  · rintro X ⟨h1, h2, h3⟩
    refine ⟨?_, (World.cell?_of_block (w := w0) (a := ⟨Bt, 0, none⟩) h2).trans c0, by omega⟩
    rcases hr with h | ⟨b, off, e1, e2, e3⟩
    · exact .inl h
    · rcases h3 b off e1 with h | h
      · exact .inl h
      · exact .inr ⟨b, off, e1, by omega, fun j u hu => (World.cell?_of_block (w := w0) (a := ⟨b, off + j, none⟩) h).trans (e3 j u hu)⟩
  · rintro X Y ⟨h1, h2, h3⟩ ⟨k1, k2, k3⟩
    refine ⟨by omega, k1.trans h2, fun b off e => ?_⟩
    rcases h3 b off e with h | h
    · exact .inl h
    · rcases hA b off e with h' | h'
      · exact .inl h'
      · subst h'; exact .inr (k2.trans h)
  · refine ⟨hW.size, hW.block Bt hBt, fun b off e => ?_⟩
    rcases hr with h | ⟨b', off', e1, e2, _⟩
    · exact .inl h
    · rw [e] at e1
      injection e1 with e1
      injection e1 with e1 _
      subst e1
      exact .inr (hW.block b e2)
  · intro pre x W1 hj hlen
    exact hY pre x W1 hj hlen
  · rintro e W' ⟨he, hj | ⟨pre, _, hj⟩⟩
    · exact ⟨he, .inl ⟨l, rfl, hj⟩⟩
    · exact ⟨he, .inr ⟨pre, trivial, hj⟩⟩
/-- slices.Values: a function value with its own copy of the slice. -/
theorem values_any (A : Option Addr) (n c : Nat) (w : World) :
    Calls Try.prog 79 #[.slice A n c] w fun e w' => e = .returned (.func (.func 89) #[] #[.pointer (some ⟨w.heap.size, 0, none⟩)]) ∧ w.alloc (.cells #[.slice A n c] 36) = w' := by
  go_enter Try.func79, Try.ntmps79
  go_wp2_with fail
  go_ret
  exact ⟨rfl, rfl⟩
theorem st36 : SlTy Try.prog 36 3 (.int .i64 0) 1 8 := ⟨Try.underlying36, by kernel_rfl, rfl, by decide⟩
theorem ints_one (l : List Int) : ∀ u ∈ ints l, u.oneCell' = true := by
  intro u hu
  simp only [ints, List.mem_map] at hu
  obtain ⟨x, _, rfl⟩ := hu
  rfl
theorem ints_app (l : List Int) (x : Int) : ints (l ++ [x]) = ints l ++ [.int .i64 x] := by simp [ints]
theorem ints_len (l : List Int) : (ints l).length = l.length := by simp [ints]

set_option maxRecDepth 100000 in
set_option maxHeartbeats 4000000 in
/-- slices.AppendSeq to nothing: the numbers in new memory. -/
theorem appendSeq_any (Bt Bd : Nat) (A : Option Addr) (l : List Int) (nn c : Nat) (w : World) (hnn : nn = l.length) (hnb : nn ≤ 1000000)
    (hr : Rd w A (ints l)) (hA : ∀ b off, A = some ⟨b, off, none⟩ → ints l = [] ∨ b = Bd) (hBt : Bt < w.heap.size) (hBd : Bd < w.heap.size)
    (c0 : w.cell? ⟨Bt, 0, none⟩ = some (.slice A nn c)) :
    Calls Try.prog 96 #[.slice none 0 0, .func (.func 89) #[] #[.pointer (some ⟨Bt, 0, none⟩)]] w fun e w' => ∃ A' c', e = .returned (.slice A' nn c') ∧ Own w w' [row 3 1 (.slice A' nn c') nn (ints l)] := by
  have S0 := Lib.hid (((Own.start w).new' 36 #[.slice none 0 0] (B := w.heap.size) rfl).nil 3 1)
  have HS := Lib.hid (fun W1 (h : Below w.heap.size w W1) => val_stops 9 (by omega) Bt Bd A l nn c W1 hnn hnb (hr.below h) hA (Nat.lt_of_lt_of_le hBt h.size) ((h.cell (p := ⟨Bt, 0, none⟩) hBt).trans c0))
  have HN := Lib.hid hnn
  have HB := Lib.hid (show Bt < w.heap.size ∧ Bd < w.heap.size from ⟨hBt, hBd⟩)
  clear hr hnn hA hBt hBd c0
  refine calls_of_wp_marks Try.func96 rfl ?_
  simp only [Try.ntmps96, List.size_toArray, List.length_cons, List.length_nil, Nat.reduceAdd, Nat.reduceSub, Array.replicate_succ, Array.replicate_zero, List.push_toArray, List.append_toArray, List.nil_append, List.cons_append]
  go_wp2_with fail
  generalize w.alloc (.cells #[.slice none 0 0] 36) = w4 at *
  refine wp_range_own (w0 := w) (gf := 89) (lb := #[.pointer (some ⟨Bt, 0, none⟩)]) rfl (enters_of Try.func89 (by kernel_rfl) rfl)
    (HS.out _ S0.out.bel) Keep2.trans (fun W1 lq o o' hl _ _ _ => ⟨World.putObj_heap_other (by have := HB.out.1; have := S0.out.bel.size; omega), World.putObj_heap_other (by have := HB.out.2; have := S0.out.bel.size; omega), by simp⟩) (fun W1 => ⟨rfl, rfl, Nat.le_refl _⟩) (fun _ => rfl)
    (fun pre s => s.2.2 = pre)
    (fun s : Option Addr × Nat × List Int => row 3 1 (.slice s.1 s.2.2.length s.2.1) s.2.2.length (ints s.2.2) :: box w.heap.size 36 [.slice s.1 s.2.2.length s.2.1] :: [])
    ?hcel (none, 0, []) rfl S0.out
    (fun x => { tmps := #[.slice none 0 0, .func (.func 89) #[] #[.pointer (some ⟨Bt, 0, none⟩)], .pointer (some ⟨w.heap.size, 0, none⟩), undef, .slice none 0 0, .int .i64 x, .func (.func 89) #[] #[.pointer (some ⟨Bt, 0, none⟩)], .int .i64 x, undef, undef, undef, undef, undef], defers := [] }) ?hassign ?hbody ?hdone
  case hcel =>
    intro s p hp
    simp only [List.mem_cons, List.not_mem_nil, or_false] at hp
    rcases hp with rfl | rfl
    · exact .inl (row_cel _ _ _ _ _)
    · exact .inl (box_cel _ _ _)
  case hassign =>
    intro x lq K W1 hK
    simp only [encIn]
    gi_wp2
    exact hK
  case hbody =>
    rintro lq pre x ⟨A2, c2, m⟩ W1 hpl hR hO
    simp only at hR
    subst hR
    have HO := Lib.hid (hO.cast (qs := row 3 1 (.slice A2 m.length c2) m.length (ints m) :: box w.heap.size 36 [.slice A2 m.length c2] :: []) rfl)
    have hml : m.length ≤ 1000000 := by have := HN.out; omega
    clear hO hpl S0
    have HO3 := Lib.hid (HO.out.ext (below_alloc W1 (.cells #[.int .i64 x] 3)))
    have k0 := (HO.out.bx 1 rfl).c1.1
    have lk := (HO.out.bx 1 rfl).2.2
    gi_wp2_with (gi_at_builtin; refine wpListIn_appP rfl (.tmp 8) (.tmp 10) 36 rfl st36 0 HO3.out rfl rfl rfl (m.length + 1) (ints (m ++ [x])) ?_ (ints [x]) rfl (by simp [ints]) (Rd.new W1 #[.int .i64 x] 3) rfl (ints_one [x]) (by unfold maxLen; omega) (by omega); intro A3 c3 W4 hO4 hk4; have HO4 := Lib.hid (hO4.cast (qs := row 3 1 (.slice A3 (m.length + 1) c3) (m.length + 1) (ints (m ++ [x])) :: box w.heap.size 36 [.slice A2 m.length c2] :: []) rfl); have HK4 := Lib.hid hk4; clear hO4 hk4 k0 lk; have k0 := (HO4.out.bx 1 rfl).c1.1; have kf := (HO4.out.bx 1 rfl).2.1; have lk := (HO4.out.bx 1 rfl).2.2)
    have HO5 := Lib.hid ((HO4.out.set 1 rfl 0 (.slice A3 (m.length + 1) c3)).cast (qs := row 3 1 (.slice A3 (m ++ [x]).length c3) (m ++ [x]).length (ints (m ++ [x])) :: box w.heap.size 36 [.slice A3 (m ++ [x]).length c3] :: []) (by simp))
    exact ⟨((KeepsOthers.alloc _ _).trans HK4.out).trans (KeepsOthers.setCell _ _ _),
      Keep2.below2 HO.out.bel HO5.out.bel (((KeepsOthers.alloc _ _).trans HK4.out).trans (KeepsOthers.setCell _ _ _)).size HB.out.1 HB.out.2,
      (A3, c3, m ++ [x]), rfl, HO5.out⟩
  case hdone =>
    rintro Dn xs ⟨A2, c2, m⟩ W5 hS hR hO
    simp only at hR
    subst hR hS
    have HO := Lib.hid (hO.cast (qs := obj Dn (.deferred (some [])) :: row 3 1 (.slice A2 m.length c2) m.length (ints m) :: box w.heap.size 36 [.slice A2 m.length c2] :: []) rfl)
    clear hO S0
    have k0 := (HO.out.bx 2 rfl).c1.1
    have lk := (HO.out.bx 2 rfl).2.2
    go_wp2_with fail
    refine leaves_marks (ps := row 3 1 (.slice A2 m.length c2) m.length (ints m) :: box w.heap.size 36 [.slice A2 m.length c2] :: []) (fun w' h => ?_) [Dn] _ (HO.out.sub [1, 2, 0] (by decide) rfl)
    refine ⟨.slice A2 m.length c2, ?_, A2, c2, ?_, ?_⟩
    · simp [results, Try.results96, go_sem]
    · rw [HN.out]
    · rw [HN.out]; exact h.sub [0] (by decide) rfl
end Go.Proofs.Ytnalbchggjepdaa
