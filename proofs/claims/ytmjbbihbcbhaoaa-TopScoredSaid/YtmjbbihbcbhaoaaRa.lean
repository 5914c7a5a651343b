/- Top: lists of scores, thresholds; their plain laws. No condition. -/
import Derived.Test.YtmjbbihbcbhaoaaRows
import Derived.Test.YtmjbbihbcbhaoaaBase
import Derived.Test.YtmjbbihbcbhaoaaSl
import Derived.Deep.CutRange
import Derived.Sort.OwnSortedInts
namespace Go.Proofs.Ytmjbbihbcbhaoaa
open Go.RowKit Go.Shelf
attribute [local go_sem] Oper.semAt_some

def inB (lo hi n : Int) : Bool := decide (lo ≤ n ∧ n ≤ hi)
def ints (l : List Int) : List Value := l.map (Value.int .i64)
theorem ints_get {l : List Int} {k : Nat} (h : k < l.length) : (ints l)[k]? = some (.int .i64 l[k]) := by simp [ints, h]
/-- The number of the first element that is not in a range, or -1. -/
def outI (lo hi : Int) : List Int → Nat → Int
  | [], _ => -1
  | x :: l, k => if inB lo hi x then outI lo hi l (k + 1) else k
def frB (lo hi : Int) (l : List Int) : Bool := l.all (inB lo hi)
theorem outI_neg (lo hi : Int) : ∀ (l : List Int) (k : Nat), decide (0 ≤ outI lo hi l k) = !frB lo hi l := by
  intro l
  induction l with
  | nil => intro k; simp [outI, frB]
  | cons x l ih =>
    intro k
    rw [outI]
    cases h : inB lo hi x
    · simp [frB, h]
    · rw [if_pos rfl, ih]; simp [frB, h]
theorem outI_drop {lo hi : Int} {l : List Int} {k : Nat} (h : k < l.length) (hx : inB lo hi l[k] = true) : outI lo hi (l.drop k) k = outI lo hi (l.drop (k + 1)) (k + 1) := by
  rw [List.drop_eq_getElem_cons h, outI, if_pos hx]
theorem outI_here {lo hi : Int} {l : List Int} {k : Nat} (h : k < l.length) (hx : inB lo hi l[k] = false) : outI lo hi (l.drop k) k = k := by
  rw [List.drop_eq_getElem_cons h, outI, if_neg (by simp [hx])]

theorem fromC_any (lo hi n : Int) (B0 B1 : Nat) (w : World) (h0 : w.cell? ⟨B0, 0, none⟩ = some (.int .i64 lo)) (h1 : w.cell? ⟨B1, 0, none⟩ = some (.int .i64 hi)) :
    Calls Try.prog 25 #[.int .i64 n, .pointer (some ⟨B0, 0, none⟩), .pointer (some ⟨B1, 0, none⟩)] w fun e w' => e = .returned (.bool (!inB lo hi n)) ∧ w = w' := by
  go_enter Try.func25, Try.ntmps25
  go_wp2
  all_goals go_ret
  · refine ⟨?_, rfl⟩
    show Ending.returned (.bool (decide (n < lo) || decide (hi < n))) = _
    congr 2
    rw [Bool.eq_iff_iff]
    simp [inB]
  · refine ⟨?_, rfl⟩
    show Ending.returned (.bool true) = _
    congr 2
    rw [Bool.eq_iff_iff]
    simp [inB]
    omega
set_option maxHeartbeats 400000 in
theorem indexFrom_any (lo hi : Int) (A : Option Addr) (l : List Int) (n c : Nat) (B0 B1 : Nat) (w : World) (hr : Rd w A (ints l)) (hn : n = l.length) (hl : n ≤ 4611686018427387904)
    (h0 : w.cell? ⟨B0, 0, none⟩ = some (.int .i64 lo)) (h1 : w.cell? ⟨B1, 0, none⟩ = some (.int .i64 hi)) :
    Calls Try.prog 32 #[.slice A n c, .func (.func 25) #[] #[.pointer (some ⟨B0, 0, none⟩), .pointer (some ⟨B1, 0, none⟩)]] w fun e w' => e = .returned (.int .i64 (outI lo hi l 0)) ∧ w = w' := by
  have HR := Lib.hid hr
  have HN := Lib.hid hn
  clear hr hn
  have H0 := Lib.hid h0
  have H1 := Lib.hid h1
  clear h0 h1
  go_enter Try.func32, Try.ntmps32
  go_wp2_with fail
  go_loop [5, 8] (fun _ u8 => ∃ k : Nat, k ≤ n ∧ u8 = .int .i64 k ∧ Hid (outI lo hi l 0 = outI lo hi (l.drop k) k)) (fun _ u8 => n - (intOf u8).toNat)
  case atStart => exact ⟨0, Nat.zero_le _, rfl, rfl⟩
  case round =>
    obtain ⟨k, hk, rfl, hq⟩ := hrel
    by_cases hlt : k < n
    · have hlt' : k < l.length := by rw [← HN.out]; exact hlt
      obtain ⟨b, off, rfl, hbs, hc⟩ := HR.out.at_ (ints_get hlt')
      have hc0 := hc k _ (ints_get hlt')
      clear hc
      cases hb : inB lo hi l[k]
      · have he := Lib.hid (hq.out.trans (outI_here hlt' hb))
        have HB := Lib.hid hb
        clear hb
        generalize l[k] = x at *
        go_wp2_with (go_at_call 25; refine (fromC_any lo hi _ _ _ _ H0.out H1.out).mono ?_; rintro e w' ⟨rfl, rfl⟩; rw [HB.out])
        go_ret
        exact ⟨by rw [he.out]; rfl, rfl⟩
      · have he := Lib.hid (hq.out.trans (outI_drop hlt' hb))
        have HB := Lib.hid hb
        clear hb
        generalize l[k] = x at *
        go_wp2_with (go_at_call 25; refine (fromC_any lo hi _ _ _ _ H0.out H1.out).mono ?_; rintro e w' ⟨rfl, rfl⟩; rw [HB.out])
        go_round
        case rel => exact ⟨k + 1, by omega, by go_num, he⟩
        case measure => simp [intOf]; omega
    · go_wp2_with fail
      go_ret
      refine ⟨?_, rfl⟩
      rw [hq.out, List.drop_of_length_le (by rw [← HN.out]; omega)]
      rfl
theorem containsFrom_any (lo hi : Int) (A : Option Addr) (l : List Int) (n c : Nat) (B0 B1 : Nat) (w : World) (hr : Rd w A (ints l)) (hn : n = l.length) (hl : n ≤ 4611686018427387904)
    (h0 : w.cell? ⟨B0, 0, none⟩ = some (.int .i64 lo)) (h1 : w.cell? ⟨B1, 0, none⟩ = some (.int .i64 hi)) :
    Calls Try.prog 24 #[.slice A n c, .func (.func 25) #[] #[.pointer (some ⟨B0, 0, none⟩), .pointer (some ⟨B1, 0, none⟩)]] w fun e w' => e = .returned (.bool (!frB lo hi l)) ∧ w = w' := by
  have HC := Lib.hid (indexFrom_any lo hi A l n c B0 B1 w hr hn hl h0 h1)
  have HN := Lib.hid (outI_neg lo hi l 0)
  clear hr hn h0 h1
  go_enter Try.func24, Try.ntmps24
  go_wp2_with fail
  refine HC.out.mono ?_
  rintro e w' ⟨rfl, rfl⟩
  go_wp2_with fail
  go_ret
  exact ⟨by rw [← HN.out]; rfl, rfl⟩
theorem from_any (lo hi : Int) (A : Option Addr) (l : List Int) (n c : Nat) (w : World) (hr : Rd w A (ints l)) (hn : n = l.length) (hl : n ≤ 4611686018427387904) :
    Calls Try.prog 17 #[.int .i64 lo, .int .i64 hi, .slice A n c] w fun e w' => e = .returned (.bool (frB lo hi l)) ∧ Below w.heap.size w w' := by
  have HR := Lib.hid hr
  have HN := Lib.hid hn
  clear hr hn
  go_enter Try.func17, Try.ntmps17
  go_wp2_with fail
  refine (containsFrom_any lo hi A l n c _ _ _ (HR.out.below (below_more (below_alloc _ _) _)) HN.out hl (by simp [go_sem]) (by simp [go_sem])).mono ?_
  rintro e w' ⟨rfl, rfl⟩
  go_wp2_with fail
  go_ret
  exact ⟨by simp, below_more (below_alloc _ _) _⟩
theorem rd_new1 (w : World) (x : Int) (t : TypeId) : Rd (w.alloc (.cells #[.int .i64 x] t)) (some ⟨w.heap.size, 0, none⟩) (ints [x]) :=
  .inr ⟨_, _, rfl, by simp, fun j u hu => by rw [World.cell?_alloc_new]; simpa [ints] using hu⟩
theorem rd_new2 (w : World) (x y : Int) (t : TypeId) : Rd (w.alloc (.cells #[.int .i64 x, .int .i64 y] t)) (some ⟨w.heap.size, 0, none⟩) (ints [x, y]) :=
  .inr ⟨_, _, rfl, by simp, fun j u hu => by rw [World.cell?_alloc_new]; simpa [ints] using hu⟩
theorem fr1 (lo hi x : Int) : frB lo hi [x] = inB lo hi x := by simp [frB]
theorem fr2 (lo hi x y : Int) : frB lo hi [x, y] = (inB lo hi x && inB lo hi y) := by simp [frB]
/-- from, of one number in a new block. -/
theorem from1 (lo hi x : Int) (w : World) (b : Bool) (h : inB lo hi x = b) {B : Nat} (hB : B = w.heap.size) :
    Calls Try.prog 17 #[.int .i64 lo, .int .i64 hi, .slice (some ⟨B, 0, none⟩) 1 1] (w.alloc (.cells #[.int .i64 x] 3)) fun e w' => e = .returned (.bool b) ∧ Below w.heap.size w w' := by
  subst hB
  exact (from_any lo hi _ [x] 1 1 _ (rd_new1 w x 3) rfl (by omega)).mono fun e w' ⟨he, hb⟩ => ⟨by rw [he, fr1, h], below_step (below_alloc _ _) hb⟩
theorem from2 (lo hi x y : Int) (w : World) (b : Bool) (h : (inB lo hi x && inB lo hi y) = b) {B : Nat} (hB : B = w.heap.size) :
    Calls Try.prog 17 #[.int .i64 lo, .int .i64 hi, .slice (some ⟨B, 0, none⟩) 2 2] (w.alloc (.cells #[.int .i64 x, .int .i64 y] 3)) fun e w' => e = .returned (.bool b) ∧ Below w.heap.size w w' := by
  subst hB
  exact (from_any lo hi _ [x, y] 2 2 _ (rd_new2 w x y 3) rfl (by omega)).mono fun e w' ⟨he, hb⟩ => ⟨by rw [he, fr2, h], below_step (below_alloc _ _) hb⟩

/-- Whether a share is valid. -/
def shareB (num den : Int) : Bool := inB 1 1000 den && inB 0 den num
def errA (b : Bool) : Int := if b then 0 else 2
set_option maxHeartbeats 400000 in
theorem checkShare_any (num den : Int) (w : World) : Calls Try.prog 12 #[.agg #[.int .i64 num, .int .i64 den]] w fun e w' => e = .returned (.int .i64 (errA (shareB num den))) ∧ Below w.heap.size w w' := by
  cases h1 : inB 1 1000 den
  · have HP := Lib.hid (show errA (shareB num den) = 2 by simp [errA, shareB, h1])
    have H1 := Lib.hid h1
    clear h1
    go_enter Try.func12, Try.ntmps12
    go_wp2_with fail
    refine (from1 1 1000 den _ _ H1.out (by simp)).mono ?_
    rintro e w1 ⟨rfl, hb1⟩
    go_wp2_with fail
    go_ret
    exact ⟨by rw [HP.out]; rfl, below_step (below_alloc _ _) hb1⟩
  cases h2 : inB 0 den num
  · have HP := Lib.hid (show errA (shareB num den) = 2 by simp [errA, shareB, h2])
    have H1 := Lib.hid h1
    have H2 := Lib.hid h2
    clear h1 h2
    go_enter Try.func12, Try.ntmps12
    go_wp2_with fail
    refine (from1 1 1000 den _ _ H1.out (by simp)).mono ?_
    rintro e w1 ⟨rfl, hb1⟩
    obtain ⟨c0, c1, _⟩ := ((Box.new w 27 #[.int .i64 num, .int .i64 den]).ext hb1).c2
    go_wp2_with fail
    refine (from1 0 den num _ _ H2.out (by simp)).mono ?_
    rintro e w2 ⟨rfl, hb2⟩
    go_wp2_with fail
    go_ret
    exact ⟨by rw [HP.out]; rfl, below_step (below_step (below_alloc _ _) hb1) hb2⟩
  · have HP := Lib.hid (show errA (shareB num den) = 0 by simp [errA, shareB, h1, h2])
    have H1 := Lib.hid h1
    have H2 := Lib.hid h2
    clear h1 h2
    go_enter Try.func12, Try.ntmps12
    go_wp2_with fail
    refine (from1 1 1000 den _ _ H1.out (by simp)).mono ?_
    rintro e w1 ⟨rfl, hb1⟩
    obtain ⟨c0, c1, _⟩ := ((Box.new w 27 #[.int .i64 num, .int .i64 den]).ext hb1).c2
    go_wp2_with fail
    refine (from1 0 den num _ _ H2.out (by simp)).mono ?_
    rintro e w2 ⟨rfl, hb2⟩
    go_wp2_with fail
    go_ret
    exact ⟨by rw [HP.out]; rfl, below_step (below_step (below_alloc _ _) hb1) hb2⟩

theorem within_any (lo hi n : Int) (w : World) : Calls Try.prog 9 #[.int .i64 n, .int .i64 lo, .int .i64 hi] w fun e w' => e = .returned (.bool (inB lo hi n)) ∧ w = w' := by
  go_enter Try.func9, Try.ntmps9
  go_wp2
  all_goals go_ret
  all_goals simp [inB, *]
  omega
set_option maxHeartbeats 400000 in
theorem validShare_any (num den : Int) (w : World) : Calls Try.prog 5 #[.agg #[.int .i64 num, .int .i64 den]] w fun e w' => e = .returned (.bool (shareB num den)) ∧ Below w.heap.size w w' := by
  cases h1 : inB 1 1000 den
  all_goals
    have HP := Lib.hid (show shareB num den = (inB 1 1000 den && inB 0 den num) from rfl)
    go_enter Try.func5, Try.ntmps5
    go_wp2_with (go_at_call 9; refine (within_any _ _ _ _).mono ?_; rintro e w' ⟨rfl, rfl⟩)
    go_ret
    exact ⟨by rw [HP.out, h1]; rfl, below_alloc _ _⟩

set_option maxRecDepth 100000 in
set_option maxHeartbeats 2000000 in
theorem val_gen (n : Nat) (hn : 1 ≤ n) (lp Bt : Nat) (A : Option Addr) (l : List Int) (nn c : Nat) (Wd : World) (J Jx : List Int → World → Prop)
    (St : World → Prop) (Kp : World → World → Prop) (hnn : nn = l.length) (hnb : nn ≤ 1000000)
    (hSt : ∀ X, St X → Rd X A (ints l) ∧ X.cell? ⟨Bt, 0, none⟩ = some (.slice A nn c) ∧ Bt < X.heap.size)
    (hStK : ∀ X Y, St X → Kp X Y → St Y) (hst0 : St Wd)
    (hY : ∀ pre (x : Int) W1, J pre W1 → pre.length < l.length → YieldAt Fence.wide (n - 1) Try.prog lp #[.int .i64 x] W1 fun e W' =>
      (e = .returned (.bool true) ∧ J (pre ++ [x]) W' ∧ Kp W1 W') ∨ (e = .returned (.bool false) ∧ Jx (pre ++ [x]) W')) (h0 : J [] Wd) :
    CallsIn Fence.wide n Try.prog 28 #[.func (.yield lp) #[] #[], .pointer (some ⟨Bt, 0, none⟩)] Wd fun e W' => (∃ v, e = .returned v) ∧
      (J l W' ∨ (∃ pre, True ∧ Jx pre W')) := by
  have HST := Lib.hid hSt
  have HSK := Lib.hid hStK
  have HS0 := Lib.hid hst0
  have HN := Lib.hid hnn
  have HY := Lib.hid hY
  have HJ0 := Lib.hid h0
  clear hSt hStK hst0 hnn hY h0
  obtain ⟨_, c0, cl⟩ := HST.out Wd HS0.out
  refine callsIn_of_wp Try.func28 rfl trivial ?_ rfl
  simp only [Try.ntmps28, List.size_toArray, List.length_cons, List.length_nil, Nat.reduceAdd, Nat.reduceSub, Array.replicate_succ, Array.replicate_zero, List.push_toArray, List.append_toArray, List.nil_append, List.cons_append]
  gi_wp2
  gi_loopw [7] (fun i wr => ∃ (k : Nat), k ≤ nn ∧ i = .int .i64 (k : Nat) ∧ Hid (J (l.take k) wr) ∧ Hid (St wr)) (fun i _ => nn - (intOf i).toNat)
  case atStart => exact ⟨0, Nat.zero_le _, by go_num, HJ0.out, HS0.out⟩
  case round =>
    obtain ⟨k, hk, rfl, hj, hb⟩ := hrel
    clear c0 cl
    obtain ⟨hrd, c0, cl⟩ := HST.out wr hb.out
    have HRD := Lib.hid hrd
    clear hrd
    by_cases hlt : k < nn
    · have hlt' : k < l.length := by rw [← HN.out]; exact hlt
      obtain ⟨b, off, rfl, hbs, hc⟩ := HRD.out.at_ (ints_get hlt')
      have hc0 := hc k _ (ints_get hlt')
      clear hc
      have HT := Lib.hid (show l.take (k + 1) = l.take k ++ [l[k]] from List.take_succ_eq_append_getElem hlt')
      have HL := Lib.hid (show (l.take k).length < l.length by rw [List.length_take]; omega)
      generalize l[k] = v at *
      clear hlt'
      obtain ⟨fn, tmps, assign, body, hy, hR⟩ := HY.out (l.take k) v wr hj.out HL.out
      have hki : (k : Int) < (nn : Int) := by omega
      gi_wp2
      refine hR.mono ?_
      rintro e W3 (⟨rfl, hJ3, hk3⟩ | ⟨rfl, hJx3⟩)
      · have HJ3 := Lib.hid hJ3
        clear hJ3
        have HS3 := Lib.hid (HSK.out _ _ hb.out hk3)
        clear hk3
        gi_wp2
        go_roundw
        case rel => exact ⟨k + 1, by omega, by go_num, (by unfold Hid; rw [HT.out]; exact HJ3.out), HS3.out⟩
        case measure => simp [intOf]; omega
      · have HJ3 := Lib.hid hJx3
        clear hJx3
        gi_wp2
        refine bodyPost_ret (results_none rfl _ _ _) rfl ?_
        exact ⟨⟨_, rfl⟩, .inr ⟨_, trivial, HJ3.out⟩⟩
    · have hfin : Hid (l.take k = l) := by unfold Hid; rw [List.take_of_length_le (by rw [← HN.out]; omega)]
      have hneg : ¬ (k : Int) < (nn : Int) := by omega
      gi_wp2
      go_end0
      exact ⟨⟨_, rfl⟩, .inl (by have := hj.out; rw [hfin.out] at this; exact this)⟩

/-- Two blocks stay as they are. -/
def Keep2 (b b' : Nat) (w w' : World) : Prop := w'.heap[b]? = w.heap[b]? ∧ w'.heap[b']? = w.heap[b']? ∧ w.heap.size ≤ w'.heap.size
theorem Keep2.trans {b b' : Nat} {x y z : World} (h : Keep2 b b' x y) (k : Keep2 b b' y z) : Keep2 b b' x z := ⟨k.1.trans h.1, k.2.1.trans h.2.1, Nat.le_trans h.2.2 k.2.2⟩
theorem Keep2.below {b b' B : Nat} {x y : World} (h : Below B x y) (hb : b < B) (hb' : b' < B) : Keep2 b b' x y := ⟨h.block _ hb, h.block _ hb', h.size⟩
theorem Keep2.below2 {b b' B : Nat} {w x y : World} (h : Below B w x) (k : Below B w y) (hs : x.heap.size ≤ y.heap.size) (hb : b < B) (hb' : b' < B) : Keep2 b b' x y := ⟨(k.block _ hb).trans (h.block _ hb).symm, (k.block _ hb').trans (h.block _ hb').symm, hs⟩
def encIn (x : Int) : Array Value := #[.int .i64 x]
theorem val_stops (n : Nat) (hn : 1 ≤ n) (Bt Bd : Nat) (A : Option Addr) (l : List Int) (nn c : Nat) (w0 : World) (hnn : nn = l.length) (hnb : nn ≤ 1000000)
    (hr : Rd w0 A (ints l)) (hA : ∀ b off, A = some ⟨b, off, none⟩ → ints l = [] ∨ b = Bd) (hBt : Bt < w0.heap.size)
    (c0 : w0.cell? ⟨Bt, 0, none⟩ = some (.slice A nn c)) :
    SeqStopsK Fence.wide n Try.prog 28 #[.pointer (some ⟨Bt, 0, none⟩)] encIn (Keep2 Bt Bd) (fun ys => ys = l) (fun _ => True) l.length w0 := by
  intro lp J Jx Wd hW hJ _ hY h0
  refine (val_gen n hn lp Bt A l nn c Wd J Jx
    (fun X => w0.heap.size ≤ X.heap.size ∧ X.heap[Bt]? = w0.heap[Bt]? ∧ ∀ b off, A = some ⟨b, off, none⟩ → ints l = [] ∨ X.heap[b]? = w0.heap[b]?) (Keep2 Bt Bd) hnn hnb ?_ ?_ ?_ ?_ h0).mono ?_
  · rintro X ⟨h1, h2, h3⟩
    refine ⟨?_, (World.cell?_of_block (w := w0) (a := ⟨Bt, 0, none⟩) h2).trans c0, by omega⟩
    rcases hr with h | ⟨b, off, e1, e2, e3⟩
    · exact .inl h
    · rcases h3 b off e1 with h | h
      · exact .inl h
      · exact .inr ⟨b, off, e1, by omega, fun j u hu => (World.cell?_of_block (w := w0) (a := ⟨b, off + j, none⟩) h).trans (e3 j u hu)⟩
  · rintro X Y ⟨h1, h2, h3⟩ ⟨k1, k2, k3⟩
    refine ⟨by omega, k1.trans h2, fun b off e => ?_⟩
    rcases h3 b off e with h | h
    · exact .inl h
    · rcases hA b off e with h' | h'
      · exact .inl h'
      · subst h'; exact .inr (k2.trans h)
  · refine ⟨hW.size, hW.block Bt hBt, fun b off e => ?_⟩
    rcases hr with h | ⟨b', off', e1, e2, _⟩
    · exact .inl h
    · rw [e] at e1
      injection e1 with e1
      injection e1 with e1 _
      subst e1
      exact .inr (hW.block b e2)
  · intro pre x W1 hj hlen
    exact hY pre x W1 hj hlen
  · rintro e W' ⟨he, hj | ⟨pre, _, hj⟩⟩
    · exact ⟨he, .inl ⟨l, rfl, hj⟩⟩
    · exact ⟨he, .inr ⟨pre, trivial, hj⟩⟩
/-- slices.Values: a function value with its own copy of the slice. -/
theorem values_any (A : Option Addr) (n c : Nat) (w : World) :
    Calls Try.prog 19 #[.slice A n c] w fun e w' => e = .returned (.func (.func 28) #[] #[.pointer (some ⟨w.heap.size, 0, none⟩)]) ∧ w.alloc (.cells #[.slice A n c] 30) = w' := by
  go_enter Try.func19, Try.ntmps19
  go_wp2_with fail
  go_ret
  exact ⟨rfl, rfl⟩
theorem st36 : SlTy Try.prog 30 3 (.int .i64 0) 1 8 := ⟨Try.underlying30, by kernel_rfl, rfl, by decide⟩
theorem ints_one (l : List Int) : ∀ u ∈ ints l, u.oneCell' = true := by
  intro u hu
  simp only [ints, List.mem_map] at hu
  obtain ⟨x, _, rfl⟩ := hu
  rfl
theorem ints_app (l : List Int) (x : Int) : ints (l ++ [x]) = ints l ++ [.int .i64 x] := by simp [ints]
theorem ints_len (l : List Int) : (ints l).length = l.length := by simp [ints]

set_option maxRecDepth 100000 in
set_option maxHeartbeats 4000000 in
/-- slices.AppendSeq to nothing: the numbers in new memory. -/
theorem appendSeq_any (Bt Bd : Nat) (A : Option Addr) (l : List Int) (nn c : Nat) (w : World) (hnn : nn = l.length) (hnb : nn ≤ 1000000)
    (hr : Rd w A (ints l)) (hA : ∀ b off, A = some ⟨b, off, none⟩ → ints l = [] ∨ b = Bd) (hBt : Bt < w.heap.size) (hBd : Bd < w.heap.size)
    (c0 : w.cell? ⟨Bt, 0, none⟩ = some (.slice A nn c)) :
    Calls Try.prog 33 #[.slice none 0 0, .func (.func 28) #[] #[.pointer (some ⟨Bt, 0, none⟩)]] w fun e w' => ∃ A' c', e = .returned (.slice A' nn c') ∧ Own w w' [row 3 1 (.slice A' nn c') nn (ints l)] := by
  have S0 := Lib.hid (((Own.start w).new' 30 #[.slice none 0 0] (B := w.heap.size) rfl).nil 3 1)
  have HS := Lib.hid (fun W1 (h : Below w.heap.size w W1) => val_stops 9 (by omega) Bt Bd A l nn c W1 hnn hnb (hr.below h) hA (Nat.lt_of_lt_of_le hBt h.size) ((h.cell (p := ⟨Bt, 0, none⟩) hBt).trans c0))
  have HN := Lib.hid hnn
  have HB := Lib.hid (show Bt < w.heap.size ∧ Bd < w.heap.size from ⟨hBt, hBd⟩)
  clear hr hnn hA hBt hBd c0
  refine calls_of_wp_marks Try.func33 rfl ?_
  simp only [Try.ntmps33, List.size_toArray, List.length_cons, List.length_nil, Nat.reduceAdd, Nat.reduceSub, Array.replicate_succ, Array.replicate_zero, List.push_toArray, List.append_toArray, List.nil_append, List.cons_append]
  go_wp2_with fail
  generalize w.alloc (.cells #[.slice none 0 0] 30) = w4 at *
  refine wp_range_own (w0 := w) (gf := 28) (lb := #[.pointer (some ⟨Bt, 0, none⟩)]) rfl (enters_of Try.func28 (by kernel_rfl) rfl)
    (HS.out _ S0.out.bel) Keep2.trans (fun W1 lq o o' hl _ _ _ => ⟨World.putObj_heap_other (by have := HB.out.1; have := S0.out.bel.size; omega), World.putObj_heap_other (by have := HB.out.2; have := S0.out.bel.size; omega), by simp⟩) (fun W1 => ⟨rfl, rfl, Nat.le_refl _⟩) (fun _ => rfl)
    (fun pre s => s.2.2 = pre)
    (fun s : Option Addr × Nat × List Int => row 3 1 (.slice s.1 s.2.2.length s.2.1) s.2.2.length (ints s.2.2) :: box w.heap.size 30 [.slice s.1 s.2.2.length s.2.1] :: [])
    ?hcel (none, 0, []) rfl S0.out
    (fun x => { tmps := #[.slice none 0 0, .func (.func 28) #[] #[.pointer (some ⟨Bt, 0, none⟩)], .pointer (some ⟨w.heap.size, 0, none⟩), undef, .slice none 0 0, .int .i64 x, .func (.func 28) #[] #[.pointer (some ⟨Bt, 0, none⟩)], .int .i64 x, undef, undef, undef, undef, undef], defers := [] }) ?hassign ?hbody ?hdone
  case hcel =>
    intro s p hp
    simp only [List.mem_cons, List.not_mem_nil, or_false] at hp
    rcases hp with rfl | rfl
    · exact .inl (row_cel _ _ _ _ _)
    · exact .inl (box_cel _ _ _)
  case hassign =>
    intro x lq K W1 hK
    simp only [encIn]
    gi_wp2
    exact hK
  case hbody =>
    rintro lq pre x ⟨A2, c2, m⟩ W1 hpl hR hO
    simp only at hR
    subst hR
    have HO := Lib.hid (hO.cast (qs := row 3 1 (.slice A2 m.length c2) m.length (ints m) :: box w.heap.size 30 [.slice A2 m.length c2] :: []) rfl)
    have hml : m.length ≤ 1000000 := by have := HN.out; omega
    clear hO hpl S0
    have HO3 := Lib.hid (HO.out.ext (below_alloc W1 (.cells #[.int .i64 x] 3)))
    have k0 := (HO.out.bx 1 rfl).c1.1
    have lk := (HO.out.bx 1 rfl).2.2
    gi_wp2_with (gi_at_builtin; refine wpListIn_appP rfl (.tmp 8) (.tmp 10) 30 rfl st36 0 HO3.out rfl rfl rfl (m.length + 1) (ints (m ++ [x])) ?_ (ints [x]) rfl (by simp [ints]) (Rd.new W1 #[.int .i64 x] 3) rfl (ints_one [x]) (by unfold maxLen; omega) (by omega); intro A3 c3 W4 hO4 hk4; have HO4 := Lib.hid (hO4.cast (qs := row 3 1 (.slice A3 (m.length + 1) c3) (m.length + 1) (ints (m ++ [x])) :: box w.heap.size 30 [.slice A2 m.length c2] :: []) rfl); have HK4 := Lib.hid hk4; clear hO4 hk4 k0 lk; have k0 := (HO4.out.bx 1 rfl).c1.1; have kf := (HO4.out.bx 1 rfl).2.1; have lk := (HO4.out.bx 1 rfl).2.2)
    have HO5 := Lib.hid ((HO4.out.set 1 rfl 0 (.slice A3 (m.length + 1) c3)).cast (qs := row 3 1 (.slice A3 (m ++ [x]).length c3) (m ++ [x]).length (ints (m ++ [x])) :: box w.heap.size 30 [.slice A3 (m ++ [x]).length c3] :: []) (by simp))
    exact ⟨((KeepsOthers.alloc _ _).trans HK4.out).trans (KeepsOthers.setCell _ _ _),
      Keep2.below2 HO.out.bel HO5.out.bel (((KeepsOthers.alloc _ _).trans HK4.out).trans (KeepsOthers.setCell _ _ _)).size HB.out.1 HB.out.2,
      (A3, c3, m ++ [x]), rfl, HO5.out⟩
  case hdone =>
    rintro Dn xs ⟨A2, c2, m⟩ W5 hS hR hO
    simp only at hR
    subst hR hS
    have HO := Lib.hid (hO.cast (qs := obj Dn (.deferred (some [])) :: row 3 1 (.slice A2 m.length c2) m.length (ints m) :: box w.heap.size 30 [.slice A2 m.length c2] :: []) rfl)
    clear hO S0
    have k0 := (HO.out.bx 2 rfl).c1.1
    have lk := (HO.out.bx 2 rfl).2.2
    go_wp2_with fail
    refine leaves_marks (ps := row 3 1 (.slice A2 m.length c2) m.length (ints m) :: box w.heap.size 30 [.slice A2 m.length c2] :: []) (fun w' h => ?_) [Dn] _ (HO.out.sub [1, 2, 0] (by decide) rfl)
    refine ⟨.slice A2 m.length c2, ?_, A2, c2, ?_, ?_⟩
    · simp [results, Try.results33, go_sem]
    · rw [HN.out]
    · rw [HN.out]; exact h.sub [0] (by decide) rfl
def srtI (l : List Int) : List Int := l.mergeSort fun x y => decide (x ≤ y)
theorem srtI_len (l : List Int) : (srtI l).length = l.length := by simp [srtI]
/-- slices.Sort of a row of the call's own. -/
theorem sortI_own {w0 w : World} {ps : List Piece} {g n c : Nat} {l : List Int} (h : Own w0 w (row 3 1 (.slice (some ⟨g, 0, none⟩) n c) n (ints l) :: ps)) (hn : n = l.length) (h62 : n < 4611686018427387904) :
    Calls Try.prog 27 #[.slice (some ⟨g, 0, none⟩) n c] w fun e w' => e = .returned (.tuple #[]) ∧ Own w0 w' (row 3 1 (.slice (some ⟨g, 0, none⟩) n c) n (ints (srtI l)) :: ps) := by
  subst hn
  obtain ⟨h1, h2⟩ := (show w.ownsRow 0 3 1 (.slice (some ⟨g, 0, none⟩) l.length c) l.length (ints l) from h.get 0 rfl)
  rcases h2 with ⟨h2, _⟩ | ⟨g', cap, cur, hv, _, hh, h3, h5, h6, h4⟩
  · cases h2
  · injection hv with hv1 hv2 hv3
    injection hv1 with hv1
    injection hv1 with hv1
    subst hv1; subst hv3
    refine (Try.slices_Sort_int g 0 c l w (holds_of_blockI hh (by simpa [ints] using h4)) (Array.getElem?_eq_some_iff.1 hh).1 h62).mono ?_
    rintro e w' ⟨rfl, k, os, rfl⟩
    refine ⟨rfl, h.change 0 rfl (q := row 3 1 (.slice (some ⟨g, 0, none⟩) l.length c) l.length (ints (srtI l))) ?_ (fun b e => .inl e) (grownBy_sortedI _)⟩
    exact ownsRow_sortedI (ss := l) (ts := srtI l) (base := 0) (by simp [srtI]) (Nat.zero_le _) hh h3 h5 h6
theorem sortI_none (w : World) : Calls Try.prog 27 #[.slice none 0 0] w fun e w' => e = .returned (.tuple #[]) ∧ w = w' := by
  refine (Try.slices_Sort_int_none none 0 w).mono ?_
  rintro e w' ⟨rfl, rfl⟩
  exact ⟨rfl, rfl⟩
/-- Any row of the call's own, a nil one too. -/
theorem sortI_any {w0 w : World} {ps : List Piece} {A : Option Addr} {n c : Nat} {l : List Int} (h : Own w0 w (row 3 1 (.slice A n c) n (ints l) :: ps)) (hn : n = l.length) (h62 : n < 4611686018427387904) :
    Calls Try.prog 27 #[.slice A n c] w fun e w' => e = .returned (.tuple #[]) ∧ Own w0 w' (row 3 1 (.slice A n c) n (ints (srtI l)) :: ps) := by
  obtain ⟨h1, h2⟩ := (show w.ownsRow 0 3 1 (.slice A n c) n (ints l) from h.get 0 rfl)
  rcases h2 with ⟨h2, h3⟩ | ⟨g', cap, cur, hv, _⟩
  · injection h2 with a1 a2 a3
    subst a1 a2 a3
    obtain rfl : l = [] := List.length_eq_zero_iff.1 hn.symm
    refine (sortI_none w).mono ?_
    rintro e w' ⟨rfl, rfl⟩
    exact ⟨rfl, by simpa [srtI] using h⟩
  · injection hv with hv1 hv2 hv3
    subst hv1
    exact sortI_own h hn h62
set_option maxRecDepth 100000 in
theorem collect_any (Bt Bd : Nat) (A : Option Addr) (l : List Int) (nn c : Nat) (w : World) (hnn : nn = l.length) (hnb : nn ≤ 1000000)
    (hr : Rd w A (ints l)) (hA : ∀ b off, A = some ⟨b, off, none⟩ → ints l = [] ∨ b = Bd) (hBt : Bt < w.heap.size) (hBd : Bd < w.heap.size)
    (c0 : w.cell? ⟨Bt, 0, none⟩ = some (.slice A nn c)) :
    Calls Try.prog 26 #[.func (.func 28) #[] #[.pointer (some ⟨Bt, 0, none⟩)]] w fun e w' => ∃ A' c', e = .returned (.slice A' nn c') ∧ Own w w' [row 3 1 (.slice A' nn c') nn (ints l)] := by
  have K := Lib.hid (appendSeq_any Bt Bd A l nn c w hnn hnb hr hA hBt hBd c0)
  clear hnn hr hA hBt hBd c0
  go_enter Try.func26, Try.ntmps26
  go_wp2_with fail
  refine K.out.mono ?_
  rintro e w5 ⟨A', c', rfl, hO5⟩
  replace hO5 := Lib.hid hO5
  go_wp2_with fail
  go_ret
  exact ⟨A', c', rfl, hO5.out⟩
set_option maxRecDepth 100000 in
/-- slices.Sorted of the values of a slice. -/
theorem sorted_any (Bt Bd : Nat) (A : Option Addr) (l : List Int) (nn c : Nat) (w : World) (hnn : nn = l.length) (hnb : nn ≤ 1000000)
    (hr : Rd w A (ints l)) (hA : ∀ b off, A = some ⟨b, off, none⟩ → ints l = [] ∨ b = Bd) (hBt : Bt < w.heap.size) (hBd : Bd < w.heap.size)
    (c0 : w.cell? ⟨Bt, 0, none⟩ = some (.slice A nn c)) :
    Calls Try.prog 18 #[.func (.func 28) #[] #[.pointer (some ⟨Bt, 0, none⟩)]] w fun e w' => ∃ A' c', e = .returned (.slice A' nn c') ∧ Own w w' [row 3 1 (.slice A' nn c') nn (ints (srtI l))] := by
  have K := Lib.hid (collect_any Bt Bd A l nn c w hnn hnb hr hA hBt hBd c0)
  have HN := Lib.hid hnn
  clear hnn hr hA hBt hBd c0
  go_enter Try.func18, Try.ntmps18
  go_wp2_with fail
  refine K.out.mono ?_
  rintro e w5 ⟨A', c', rfl, hO5⟩
  replace hO5 := Lib.hid hO5
  have K2 := Lib.hid (sortI_any hO5.out HN.out (by omega))
  go_wp2_with fail
  refine K2.out.mono ?_
  rintro e w6 ⟨rfl, hO6⟩
  replace hO6 := Lib.hid hO6
  go_wp2_with fail
  go_ret
  exact ⟨A', c', rfl, hO6.out⟩
/-- The threshold of a valid list for a valid share. -/
def limF (l : List Int) (num den : Int) : Int :=
  if num * ((l.length : Int) + 1) / den = 0 then -1 else if (l.length : Int) < num * ((l.length : Int) + 1) / den then 1000 else (srtI l).getD (num * ((l.length : Int) + 1) / den - 1).toNat 0 - 1
set_option maxRecDepth 100000 in
set_option maxHeartbeats 2000000 in
theorem limit_any (A : Option Addr) (l : List Int) (n c : Nat) (num den : Int) (w : World) (hr : Rd w A (ints l)) (hn : n = l.length) (hnb : n ≤ 1000) (hl : frB 0 1000 l = true)
    (hnum : 0 ≤ num ∧ num ≤ den) (hden : 1 ≤ den ∧ den ≤ 1000) :
    Calls Try.prog 13 #[.slice A n c, .agg #[.int .i64 num, .int .i64 den]] w fun e w' => e = .returned (.int .i64 (limF l num den)) ∧ Below w.heap.size w w' := by
  obtain ⟨r, hrr⟩ : ∃ r, r = num * ((n : Int) + 1) / den := ⟨_, rfl⟩
  have p1 : num * ((n : Int) + 1) ≤ den * ((n : Int) + 1) := Int.mul_le_mul_of_nonneg_right hnum.2 (by omega)
  have p2 : den * ((n : Int) + 1) ≤ 1000 * ((n : Int) + 1) := Int.mul_le_mul_of_nonneg_right hden.2 (by omega)
  have p0 : 0 ≤ num * ((n : Int) + 1) := Int.mul_nonneg hnum.1 (by omega)
  have r0 : 0 ≤ r := by rw [hrr]; exact Int.ediv_nonneg p0 (by omega)
  have r1 : r ≤ (n : Int) + 1 := by
    rw [hrr]
    exact Int.le_trans (Int.ediv_le_ediv (by omega) p1) (by rw [Int.mul_ediv_cancel_left _ (by omega)]; omega)
  have z1 : IntKind.i64.wrap ((n : Int) + 1) = (n : Int) + 1 := IntWalk.i64_in _ (by omega)
  have z2 : IntKind.i64.wrap (num * ((n : Int) + 1)) = num * ((n : Int) + 1) := IntWalk.i64_in _ (by omega)
  have z3 : (num * ((n : Int) + 1)).tdiv den = r := by rw [Int.tdiv_eq_ediv_of_nonneg p0, hrr]
  have z4 : IntKind.i64.wrap r = r := IntWalk.i64_in _ (by omega)
  have z5 : ¬ den = 0 := by omega
  have HL := Lib.hid (show limF l num den = if r = 0 then -1 else if (n : Int) < r then 1000 else (srtI l).getD (r - 1).toNat 0 - 1 by unfold limF; rw [hrr, hn])
  have S0 := Lib.hid ((Own.start w).new' 27 #[.int .i64 num, .int .i64 den] (B := w.heap.size) rfl)
  have HN := Lib.hid hn
  have HR := Lib.hid hr
  have HF := Lib.hid hl
  clear hn hr hl hrr hnum hden p1 p2 p0
  by_cases e0 : r = 0
  · subst e0
    rw [if_pos rfl] at HL
    go_enter Try.func13, Try.ntmps13
    go_wp2_with fail
    go_ret
    exact ⟨by rw [HL.out]; rfl, S0.out.bel⟩
  have e0' : (r == 0) = false := by simpa using e0
  by_cases e1 : (n : Int) < r
  · rw [if_neg e0, if_pos e1] at HL
    go_enter Try.func13, Try.ntmps13
    go_wp2_with fail
    go_ret
    exact ⟨by rw [HL.out]; rfl, S0.out.bel⟩
  rw [if_neg e0, if_neg e1] at HL
  obtain ⟨k, hk⟩ : ∃ k : Nat, r = (k : Int) + 1 := ⟨(r - 1).toNat, by omega⟩
  subst hk
  have hkn : k < (srtI l).length := by rw [srtI_len, ← HN.out]; omega
  have HV := Lib.hid (show limF l num den = (srtI l)[k] - 1 by
    rw [HL.out, show ((k : Int) + 1 - 1).toNat = k by omega, List.getD_eq_getElem?_getD, List.getElem?_eq_getElem hkn]; rfl)
  have HB := Lib.hid (show 0 ≤ (srtI l)[k] ∧ (srtI l)[k] ≤ 1000 by
    have h1 : (srtI l)[k] ∈ l := (List.mergeSort_perm l _).mem_iff.1 (List.getElem_mem hkn)
    have h2 := List.all_eq_true.1 HF.out _ h1
    simpa [inB] using h2)
  have hix : k < n := by omega
  have z6 : IntKind.i64.wrap ((k : Int) + 1 - 1) = (k : Int) := by rw [show (k : Int) + 1 - 1 = (k : Int) by omega]; exact IntWalk.i64_in _ (by omega)
  have HX := Lib.hid (ints_get hkn)
  generalize (srtI l)[k] = v at *
  obtain ⟨v0, v1⟩ := HB.out
  have z7 : IntKind.i64.wrap (v - 1) = v - 1 := IntWalk.i64_in _ (by omega)
  clear hkn HL HF
  have h0n : 0 < l.length := by rw [← HN.out]; omega
  obtain ⟨b0, off, rfl, hb0, _⟩ := HR.out.at_ (ints_get h0n)
  have HB0 := Lib.hid hb0
  clear h0n hb0
  go_enter Try.func13, Try.ntmps13
  go_wp2_with fail
  refine (values_any _ _ _ _).mono ?_
  rintro e w4 ⟨rfl, hw4⟩
  have L4 := Lib.hid (S0.out.new' 30 #[.slice (some ⟨b0, off, none⟩) n c] (B := w.heap.size + 1) (by simp))
  rw [hw4] at L4
  clear hw4
  have K := Lib.hid (sorted_any (w.heap.size + 1) b0 (some ⟨b0, off, none⟩) l n c w4 HN.out (by omega) (HR.out.below L4.out.bel) (fun b o e => .inr (by injection e with e; injection e with e _; exact e.symm)) (L4.out.bx 0 rfl).2.2 (by have := HB0.out; have := L4.out.bel.size; omega) ((L4.out.bx 0 rfl).1 0 _ rfl))
  have hX : (w.alloc (.cells #[.int .i64 num, .int .i64 den] 27)).heap.size = w.heap.size + 1 := by simp
  rw [hX]
  go_wp2_with fail
  refine K.out.mono ?_
  rintro e w5 ⟨A', c', rfl, hO5⟩
  have S5 := Lib.hid (L4.out.call hO5)
  obtain ⟨g, rfl⟩ := hO5.rowAddr 0 rfl (by omega)
  have q0 := S5.out.rowAt 0 rfl HX.out
  have q1 := (S5.out.rowLt 0 rfl).1
  clear hO5 L4 S0 K
  go_wp2_with fail
  go_ret
  exact ⟨by rw [HV.out]; rfl, S5.out.bel⟩
/-- The number of the error of a list of scores, or 0. -/
def scoE (l : List Int) : Int := if 60 < l.length then 4 else if frB 0 1000 l then 0 else 2
theorem scoE_cases (l : List Int) : scoE l = 0 ∨ scoE l = 2 ∨ scoE l = 4 := by
  unfold scoE
  split
  · exact .inr (.inr rfl)
  · split
    · exact .inl rfl
    · exact .inr (.inl rfl)
theorem scoE_ok {l : List Int} (h : scoE l = 0) : l.length ≤ 60 ∧ frB 0 1000 l = true := by
  unfold scoE at h
  split at h
  · omega
  · split at h
    · exact ⟨by omega, by assumption⟩
    · omega
theorem share_of {num den : Int} (h : shareB num den = true) : (0 ≤ num ∧ num ≤ den) ∧ 1 ≤ den ∧ den ≤ 1000 := by
  simp only [shareB, Bool.and_eq_true, inB, decide_eq_true_eq] at h
  omega
set_option maxRecDepth 100000 in
theorem checkScores_any (A : Option Addr) (l : List Int) (n c : Nat) (w : World) (hr : Rd w A (ints l)) (hn : n = l.length) (hl : n ≤ 4611686018427387904) :
    Calls Try.prog 11 #[.slice A n c] w fun e w' => e = .returned (.int .i64 (scoE l)) ∧ Below w.heap.size w w' := by
  by_cases h1 : 60 < n
  · have HE := Lib.hid (show scoE l = 4 by unfold scoE; rw [if_pos (by omega)])
    have h1' : (60 : Int) < (n : Int) := by omega
    clear hr hn
    go_enter Try.func11, Try.ntmps11
    go_wp2_with fail
    go_ret
    exact ⟨by rw [HE.out]; rfl, Below.refl _ _⟩
  · have HE := Lib.hid (show scoE l = if frB 0 1000 l then 0 else 2 by unfold scoE; rw [if_neg (by omega)])
    have K := Lib.hid (from_any 0 1000 A l n c w hr hn hl)
    have h1' : ¬ (60 : Int) < (n : Int) := by omega
    clear hr hn
    generalize frB 0 1000 l = b at *
    go_enter Try.func11, Try.ntmps11
    go_wp2_with fail
    refine K.out.mono ?_
    rintro e w1 ⟨rfl, hb1⟩
    rcases b with _ | _
    · go_wp2_with fail
      go_ret
      exact ⟨by rw [HE.out]; rfl, hb1⟩
    · go_wp2_with fail
      go_ret
      exact ⟨by rw [HE.out]; rfl, hb1⟩
/-- The threshold, and the error. -/
def thrF (l : List Int) (num den : Int) : Int × Int := if scoE l = 0 then if shareB num den then (limF l num den, 0) else (0, 2) else (0, scoE l)
set_option maxRecDepth 100000 in
set_option maxHeartbeats 2000000 in
theorem threshold_any (A : Option Addr) (l : List Int) (n c : Nat) (num den : Int) (w : World) (hr : Rd w A (ints l)) (hn : n = l.length) (hl : n ≤ 4611686018427387904) :
    Calls Try.prog 8 #[.slice A n c, .agg #[.int .i64 num, .int .i64 den]] w fun e w' => e = .returned (.tuple #[.int .i64 (thrF l num den).1, .int .i64 (thrF l num den).2]) ∧ Below w.heap.size w w' := by
  have S0 := Lib.hid ((Own.start w).new' 27 #[.int .i64 num, .int .i64 den] (B := w.heap.size) rfl)
  have K1 := Lib.hid (checkScores_any A l n c _ (hr.below S0.out.bel) hn hl)
  rcases scoE_cases l with h1 | h1
  · obtain ⟨b1, b2⟩ := scoE_ok h1
    cases h2 : shareB num den
    · have HE := Lib.hid (show thrF l num den = (0, 2) by unfold thrF; rw [if_pos h1, h2]; rfl)
      have K2 := Lib.hid (fun W => checkShare_any num den W)
      rw [h1] at K1
      rw [h2] at K2
      clear hr hn h1 h2
      go_enter Try.func8, Try.ntmps8
      go_wp2_with fail
      refine K1.out.mono ?_
      rintro e w1 ⟨rfl, hb1⟩
      have S1 := Lib.hid (S0.out.ext hb1)
      obtain ⟨c0, c1, _⟩ := (S1.out.bx 0 rfl).c2
      clear hb1 K1 S0
      go_wp2_with fail
      refine (K2.out _).mono ?_
      rintro e w2 ⟨rfl, hb2⟩
      have S2 := Lib.hid (S1.out.ext hb2)
      clear hb2 K2 S1 c0 c1
      go_wp2_with fail
      go_ret2
      exact ⟨by rw [HE.out]; rfl, S2.out.bel⟩
    · have HE := Lib.hid (show thrF l num den = (limF l num den, 0) by unfold thrF; rw [if_pos h1, h2]; rfl)
      have K2 := Lib.hid (fun W => checkShare_any num den W)
      obtain ⟨s1, s2⟩ := share_of h2
      have K3 := Lib.hid (fun W (hb : Below w.heap.size w W) => limit_any A l n c num den W (hr.below hb) hn (by omega) b2 s1 s2)
      rw [h1] at K1
      rw [h2] at K2
      clear hr hn h1 h2 s1 s2
      go_enter Try.func8, Try.ntmps8
      go_wp2_with fail
      refine K1.out.mono ?_
      rintro e w1 ⟨rfl, hb1⟩
      have S1 := Lib.hid (S0.out.ext hb1)
      obtain ⟨c0, c1, _⟩ := (S1.out.bx 0 rfl).c2
      clear hb1 K1 S0
      go_wp2_with fail
      refine (K2.out _).mono ?_
      rintro e w2 ⟨rfl, hb2⟩
      have S2 := Lib.hid (S1.out.ext hb2)
      clear hb2 K2 S1 c0 c1
      obtain ⟨c0, c1, _⟩ := (S2.out.bx 0 rfl).c2
      go_wp2_with fail
      refine (K3.out _ S2.out.bel).mono ?_
      rintro e w3 ⟨rfl, hb3⟩
      have S3 := Lib.hid (S2.out.ext hb3)
      clear hb3 K3 S2 c0 c1
      go_wp2_with fail
      go_ret2
      exact ⟨by rw [HE.out]; rfl, S3.out.bel⟩
  · have h0 : ¬ scoE l = 0 := by omega
    have HE := Lib.hid (show thrF l num den = (0, scoE l) by unfold thrF; rw [if_neg h0])
    generalize scoE l = v at *
    clear hr hn
    rcases h1 with rfl | rfl
    all_goals
      go_enter Try.func8, Try.ntmps8
      go_wp2_with fail
      refine K1.out.mono ?_
      rintro e w1 ⟨rfl, hb1⟩
      have S1 := Lib.hid (S0.out.ext hb1)
      clear hb1 K1 S0
      go_wp2_with fail
      go_ret2
      exact ⟨by rw [HE.out]; rfl, S1.out.bel⟩
/-- How many numbers are at most a number. -/
def atm (l : List Int) (s : Int) : Nat := l.countP fun x => decide (x ≤ s)
theorem atm_le (l : List Int) (s : Int) : atm l s ≤ l.length := List.countP_le_length
theorem atm_take {l : List Int} {k : Nat} (h : k < l.length) (s : Int) : atm (l.take (k + 1)) s = atm (l.take k) s + if l[k] ≤ s then 1 else 0 := by
  unfold atm
  rw [List.take_succ_eq_append_getElem h, List.countP_append, List.countP_singleton]
  by_cases hk : l[k] ≤ s <;> simp [hk]
theorem Rd.int {w : World} {A : Option Addr} {l : List Int} (h : Rd w A (ints l)) {k : Nat} (hk : k < l.length) : ∃ b off, A = some ⟨b, off, none⟩ ∧ w.cell? ⟨b, off + k, none⟩ = some (.int .i64 l[k]) ∧ b < w.heap.size := by
  obtain ⟨b, off, e, hb, hc⟩ := h.at_ (ints_get hk)
  exact ⟨b, off, e, hc k _ (ints_get hk), hb⟩
theorem srtI_perm (l : List Int) : (srtI l).Perm l := List.mergeSort_perm l _
theorem srtI_pair (l : List Int) : (srtI l).Pairwise (· ≤ ·) := by
  have h := List.pairwise_mergeSort (le := fun x y : Int => decide (x ≤ y)) (fun a b c h1 h2 => by simp only [decide_eq_true_eq] at *; omega) (fun a b => by simp only [Bool.or_eq_true, decide_eq_true_eq]; omega) l
  exact h.imp fun h => by simpa using h
theorem srtI_atm (l : List Int) (s : Int) : atm l s = atm (srtI l) s := by
  unfold atm
  exact ((srtI_perm l).countP_eq _).symm
/-- The k-th number in order is the least one that k + 1 numbers are at most. -/
theorem atm_ge {l : List Int} {k : Nat} (h : k < (srtI l).length) {s : Int} (hs : (srtI l)[k] ≤ s) : k + 1 ≤ atm l s := by
  rw [srtI_atm]
  unfold atm
  have hp := srtI_pair l
  generalize srtI l = S at *
  have e : S = S.take (k + 1) ++ S.drop (k + 1) := (List.take_append_drop _ _).symm
  rw [e, List.countP_append]
  have : (S.take (k + 1)).countP (fun x => decide (x ≤ s)) = (S.take (k + 1)).length := by
    rw [List.countP_eq_length]
    intro x hx
    obtain ⟨j, hj, rfl⟩ := List.mem_iff_getElem.1 hx
    rw [List.length_take] at hj
    rw [List.getElem_take, decide_eq_true_eq]
    by_cases hjk : j = k
    · subst hjk; exact hs
    · exact Int.le_trans (List.pairwise_iff_getElem.1 hp j k (by omega) h (by omega)) hs
  rw [this, List.length_take]
  omega
theorem atm_lt {l : List Int} {k : Nat} (h : k < (srtI l).length) {s : Int} (hs : s < (srtI l)[k]) : atm l s ≤ k := by
  rw [srtI_atm]
  unfold atm
  have hp := srtI_pair l
  generalize srtI l = S at *
  have e : S = S.take k ++ S.drop k := (List.take_append_drop _ _).symm
  rw [e, List.countP_append]
  have : (S.drop k).countP (fun x => decide (x ≤ s)) = 0 := by
    rw [List.countP_eq_zero]
    intro x hx
    obtain ⟨j, hj, rfl⟩ := List.mem_iff_getElem.1 hx
    rw [List.length_drop] at hj
    rw [List.getElem_drop, decide_eq_true_eq]
    by_cases hj0 : j = 0
    · subst hj0; simpa using hs
    · have := List.pairwise_iff_getElem.1 hp k (k + j) h (by omega) (by omega)
      omega
  rw [this]
  have := List.countP_le_length (p := fun x => decide (x ≤ s)) (l := S.take k)
  rw [List.length_take] at this
  omega
/-- The place of a share for so many numbers. -/
def plaF (n : Nat) (num den : Int) : Int := num * ((n : Int) + 1) / den
theorem limF_eq (l : List Int) (num den : Int) : limF l num den = if plaF l.length num den = 0 then -1 else if (l.length : Int) < plaF l.length num den then 1000 else (srtI l).getD (plaF l.length num den - 1).toNat 0 - 1 := rfl
theorem plaF_nonneg {n : Nat} {num den : Int} (h : shareB num den = true) : 0 ≤ plaF n num den := by
  obtain ⟨h1, h2, _⟩ := share_of h
  exact Int.ediv_nonneg (Int.mul_nonneg h1.1 (by omega)) (by omega)
theorem srtI_rng {l : List Int} (hl : frB 0 1000 l = true) {k : Nat} (h : k < (srtI l).length) : 0 ≤ (srtI l)[k] ∧ (srtI l)[k] ≤ 1000 := by
  have h1 : (srtI l)[k] ∈ l := (srtI_perm l).mem_iff.1 (List.getElem_mem h)
  have h2 := List.all_eq_true.1 hl _ h1
  simpa [inB] using h2
/-- A score is accepted exactly if at most so many are at most it. -/
theorem limF_le {l : List Int} {num den s : Int} (hs : inB 0 1000 s = true) (h : shareB num den = true) :
    s ≤ limF l num den ↔ 1 + ((atm l s : Nat) : Int) ≤ plaF l.length num den := by
  have hs : 0 ≤ s ∧ s ≤ 1000 := by simpa [inB] using hs
  have p0 := plaF_nonneg (n := l.length) h
  have a0 := atm_le l s
  rw [limF_eq]
  generalize plaF l.length num den = r at *
  by_cases e0 : r = 0
  · rw [if_pos e0]; omega
  rw [if_neg e0]
  by_cases e1 : (l.length : Int) < r
  · rw [if_pos e1]; omega
  rw [if_neg e1]
  obtain ⟨k, hk⟩ : ∃ k : Nat, r = (k : Int) + 1 := ⟨(r - 1).toNat, by omega⟩
  subst hk
  have hkn : k < (srtI l).length := by rw [srtI_len]; omega
  rw [show ((k : Int) + 1 - 1).toNat = k by omega, List.getD_eq_getElem?_getD, List.getElem?_eq_getElem hkn, Option.getD_some]
  by_cases c : s < (srtI l)[k]
  · have := atm_lt hkn c; omega
  · have := atm_ge hkn (by omega : (srtI l)[k] ≤ s); omega
theorem pla_iff {n : Nat} {num den x : Int} (h : shareB num den = true) : x ≤ plaF n num den ↔ x * den ≤ num * ((n : Int) + 1) := by
  obtain ⟨_, h2, _⟩ := share_of h
  exact Int.le_ediv_iff_mul_le (by omega)
theorem max_of : ∀ (m : List Int), m ≠ [] → ∃ x ∈ m, ∀ y ∈ m, y ≤ x
  | [], h => absurd rfl h
  | [x], _ => ⟨x, by simp, by simp⟩
  | x :: y :: m, _ => by
    obtain ⟨z, h1, h2⟩ := max_of (y :: m) (by simp)
    by_cases c : z ≤ x
    · exact ⟨x, by simp, fun w hw => by
        rcases List.mem_cons.1 hw with e | e
        · omega
        · have := h2 w e; omega⟩
    · exact ⟨z, by simp [h1], fun w hw => by
        rcases List.mem_cons.1 hw with e | e
        · omega
        · exact h2 w e⟩
/-- At most k numbers of a list have at most k numbers that are at most them. -/
theorem count_law (l : List Int) (k : Nat) : (l.countP fun x => decide (atm l x ≤ k)) ≤ k := by
  by_cases e : (l.filter fun x => decide (atm l x ≤ k)) = []
  · rw [List.countP_eq_length_filter, e]; exact Nat.zero_le _
  · obtain ⟨x, h1, h2⟩ := max_of _ e
    obtain ⟨hx1, hx2⟩ := List.mem_filter.1 h1
    refine Nat.le_trans ?_ (of_decide_eq_true hx2)
    unfold atm
    refine List.countP_mono_left fun y hy hyk => ?_
    exact decide_eq_true (h2 y (List.mem_filter.2 ⟨hy, hyk⟩))
/-- A list without the element of a place. -/
def wo {α : Type} (l : List α) (i : Nat) : List α := l.take i ++ l.drop (i + 1)
theorem wo_len {α : Type} {l : List α} {i : Nat} (h : i < l.length) : (wo l i).length = l.length - 1 := by
  unfold wo; rw [List.length_append, List.length_take, List.length_drop]; omega
theorem wo_atm {l : List Int} {i : Nat} (h : i < l.length) : 1 + atm (wo l i) l[i] = atm l l[i] := by
  have e : l = l.take i ++ l[i] :: l.drop (i + 1) := by rw [← List.drop_eq_getElem_cons h, List.take_append_drop]
  have h1 : atm l l[i] = atm (l.take i ++ l[i] :: l.drop (i + 1)) l[i] := by rw [← e]
  rw [h1]
  unfold atm wo
  rw [List.countP_append, List.countP_append, List.countP_cons]
  simp
  omega
theorem frB_wo {l : List Int} {i : Nat} (h : frB 0 1000 l = true) : frB 0 1000 (wo l i) = true := by
  rw [frB, List.all_eq_true] at h ⊢
  intro x hx
  rcases List.mem_append.1 hx with e | e
  · exact h x (List.mem_of_mem_take e)
  · exact h x (List.mem_of_mem_drop e)
theorem mul_le_of {a b c : Int} (h : a ≤ b) (hc : 0 ≤ c) : a * c ≤ b * c := Int.mul_le_mul_of_nonneg_right h hc
/-- A greater share has no lesser place. -/
theorem pla_mono {n : Nat} {num den num' den' : Int} (h : shareB num den = true) (h' : shareB num' den' = true) (hs : num * den' ≤ num' * den) : plaF n num den ≤ plaF n num' den' := by
  obtain ⟨_, d1, _⟩ := share_of h
  obtain ⟨_, d2, _⟩ := share_of h'
  rw [pla_iff h']
  have k := (pla_iff (n := n) (x := plaF n num den) h).1 (Int.le_refl _)
  generalize plaF n num den = r at *
  have hN : 0 ≤ (n : Int) + 1 := by omega
  generalize (n : Int) + 1 = N at *
  refine Int.le_of_mul_le_mul_right (a := den) ?_ (by omega)
  calc r * den' * den = r * den * den' := by rw [Int.mul_assoc, Int.mul_comm den', ← Int.mul_assoc]
    _ ≤ num * N * den' := mul_le_of k (by omega)
    _ = num * den' * N := by rw [Int.mul_assoc, Int.mul_comm N, ← Int.mul_assoc]
    _ ≤ num' * den * N := mul_le_of hs hN
    _ = num' * N * den := by rw [Int.mul_assoc, Int.mul_comm den, ← Int.mul_assoc]
theorem limF_rng {l : List Int} {num den : Int} (hl : frB 0 1000 l = true) (h : shareB num den = true) : -1 ≤ limF l num den ∧ limF l num den ≤ 1000 := by
  have p0 := plaF_nonneg (n := l.length) h
  rw [limF_eq]
  generalize plaF l.length num den = r at *
  by_cases e0 : r = 0
  · rw [if_pos e0]; omega
  rw [if_neg e0]
  by_cases e1 : (l.length : Int) < r
  · rw [if_pos e1]; omega
  rw [if_neg e1]
  obtain ⟨k, hk⟩ : ∃ k : Nat, r = (k : Int) + 1 := ⟨(r - 1).toNat, by omega⟩
  subst hk
  have hkn : k < (srtI l).length := by rw [srtI_len]; omega
  rw [show ((k : Int) + 1 - 1).toNat = k by omega, List.getD_eq_getElem?_getD, List.getElem?_eq_getElem hkn, Option.getD_some]
  have := srtI_rng hl hkn
  omega
/-- A greater share has no lesser threshold. -/
theorem lim_mono {l : List Int} {num den num' den' : Int} (hl : frB 0 1000 l = true) (h : shareB num den = true) (h' : shareB num' den' = true) (hs : num * den' ≤ num' * den) :
    limF l num den ≤ limF l num' den' := by
  have r1 := limF_rng hl h
  by_cases c : limF l num den < 0
  · have := limF_rng hl h'; omega
  · have hs1 : inB 0 1000 (limF l num den) = true := by simp only [inB, decide_eq_true_eq]; omega
    rw [limF_le hs1 h']
    have := (limF_le hs1 h).1 (Int.le_refl _)
    have := pla_mono (n := l.length) h h' hs
    omega
theorem srtI_congr {l l' : List Int} (h : l.Perm l') : srtI l = srtI l' := by
  have h1 := srtI_pair l
  have h2 := srtI_pair l'
  exact ((srtI_perm l).trans (h.trans (srtI_perm l').symm)).eq_of_pairwise (fun a b _ _ h1 h2 => Int.le_antisymm h1 h2) h1 h2
theorem scoE_congr {l l' : List Int} (h : l.Perm l') : scoE l = scoE l' := by
  unfold scoE
  rw [h.length_eq]
  have : frB 0 1000 l = frB 0 1000 l' := by
    rw [Bool.eq_iff_iff, frB, frB, List.all_eq_true, List.all_eq_true]
    exact ⟨fun k x hx => k x (h.mem_iff.2 hx), fun k x hx => k x (h.mem_iff.1 hx)⟩
  rw [this]
/-- In another order the numbers have the same threshold. -/
theorem thrF_congr {l l' : List Int} (h : l.Perm l') (num den : Int) : thrF l num den = thrF l' num den := by
  unfold thrF limF
  rw [scoE_congr h, srtI_congr h, h.length_eq]
/-- THE STAGE's THEOREM. -/
theorem kept_law {l : List Int} {num den : Int} (h : shareB num den = true) (h0 : 0 < l.length) :
    ((l.countP fun x => decide (((atm l x : Nat) : Int) ≤ plaF (l.length - 1) num den) : Nat) : Int) * den ≤ num * (l.length : Int) := by
  obtain ⟨_, d1, _⟩ := share_of h
  have p0 := plaF_nonneg (n := l.length - 1) h
  have k := (pla_iff (n := l.length - 1) (x := plaF (l.length - 1) num den) h).1 (Int.le_refl _)
  rw [show ((l.length - 1 : Nat) : Int) + 1 = (l.length : Int) by omega] at k
  have hc := count_law l (plaF (l.length - 1) num den).toNat
  have e : (l.countP fun x => decide (((atm l x : Nat) : Int) ≤ plaF (l.length - 1) num den)) = l.countP fun x => decide (atm l x ≤ (plaF (l.length - 1) num den).toNat) := by
    refine List.countP_congr fun x _ => ?_
    rw [decide_eq_true_iff, decide_eq_true_iff]
    omega
  rw [e]
  refine Int.le_trans (mul_le_of ?_ (by omega)) k
  omega
theorem thrF_ok {l : List Int} {num den t : Int} (h : thrF l num den = (t, 0)) : scoE l = 0 ∧ shareB num den = true ∧ t = limF l num den := by
  unfold thrF at h
  split at h
  · split at h
    · injection h with h1 h2; exact ⟨by assumption, by assumption, h1.symm⟩
    · injection h with h1 h2; cases h2
  · injection h with h1 h2; contradiction
/-- Whether a score is accepted by the threshold of the others. -/
def keptP (l : List Int) (num den x : Int) : Bool := decide (((atm l x : Nat) : Int) ≤ plaF (l.length - 1) num den)
theorem keptP_is {l : List Int} {i : Nat} {num den t : Int} (hi : i < l.length) (h : thrF (wo l i) num den = (t, 0)) (h0 : 0 ≤ l[i]) (h1 : l[i] ≤ 1000) :
    shareB num den = true ∧ decide (l[i] ≤ t) = keptP l num den l[i] := by
  obtain ⟨_, k2, k3⟩ := thrF_ok h
  refine ⟨k2, ?_⟩
  rw [k3, keptP, decide_eq_decide, limF_le (by simp only [inB, decide_eq_true_eq]; omega) k2, wo_len hi]
  have := wo_atm hi
  omega
theorem keptP_take {l : List Int} {i : Nat} (p : Int → Bool) (hi : i < l.length) : (l.take (i + 1)).countP p = (l.take i).countP p + if p l[i] = true then 1 else 0 := by
  rw [List.take_succ_eq_append_getElem hi, List.countP_append, List.countP_singleton]
end Go.Proofs.Ytmjbbihbcbhaoaa
