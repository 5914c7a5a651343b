/- Ridge: ranges, sizes, samples and devices. No condition. -/
import Derived.Test.YtjelnbfnoliocaaRows
import Derived.Test.YtjelnbfnoliocaaBase
namespace Go.Proofs.Ytjelnbfnoliocaa
open Go.RowKit

def inB (lo hi n : Int) : Bool := decide (lo ≤ n ∧ n ≤ hi)
theorem within_any (lo hi n : Int) (w : World) : Calls Try.prog 58 #[.int .i64 n, .int .i64 lo, .int .i64 hi] w fun e w' => e = .returned (.bool (inB lo hi n)) ∧ w = w' := by
  go_enter Try.func58, Try.ntmps58
  go_wp2
  all_goals go_ret
  all_goals simp [inB, *]
  omega
theorem refWithin_any (lo hi n : Int) (w : World) : Calls Try.prog 59 #[.int .i64 n, .int .i64 lo, .int .i64 hi] w fun e w' => e = .returned (.bool (inB lo hi n)) ∧ w = w' := by
  go_enter Try.func59, Try.ntmps59
  go_wp2
  all_goals go_ret
  all_goals simp [inB, *]
  omega
def ints (l : List Int) : List Value := l.map (Value.int .i64)
def u8s (l : List Int) : List Value := l.map (Value.int .u8)
def bools (l : List Bool) : List Value := l.map Value.bool
theorem ints_get {l : List Int} {k : Nat} (h : k < l.length) : (ints l)[k]? = some (.int .i64 l[k]) := by simp [ints, h]
theorem u8s_get {l : List Int} {k : Nat} (h : k < l.length) : (u8s l)[k]? = some (.int .u8 l[k]) := by simp [u8s, h]
theorem bools_get {l : List Bool} {k : Nat} (h : k < l.length) : (bools l)[k]? = some (.bool l[k]) := by simp [bools, h]
/-- Bytes. -/
def U8 (l : List Int) : Prop := ∀ x ∈ l, 0 ≤ x ∧ x ≤ 255
theorem U8.at_ {l : List Int} (h : U8 l) {k : Nat} (hk : k < l.length) : 0 ≤ l[k] ∧ l[k] ≤ 255 := h _ (List.getElem_mem hk)

/-- The number of the first element other than v, or -1. -/
def outI (v : Int) : List Int → Nat → Int
  | [], _ => -1
  | x :: l, k => if x = v then outI v l (k + 1) else k
def allB (v : Int) (l : List Int) : Bool := l.all fun x => decide (x = v)
theorem outI_neg (v : Int) : ∀ (l : List Int) (k : Nat), decide (0 ≤ outI v l k) = !allB v l := by
  intro l
  induction l with
  | nil => intro k; simp [outI, allB]
  | cons x l ih =>
    intro k
    rw [outI]
    by_cases h : x = v
    · rw [if_pos h, ih]; simp [allB, h]
    · rw [if_neg h]; simp [allB, h]
theorem outI_drop {v : Int} {l : List Int} {k : Nat} (h : k < l.length) (hx : l[k] = v) : outI v (l.drop k) k = outI v (l.drop (k + 1)) (k + 1) := by
  rw [List.drop_eq_getElem_cons h, outI, if_pos hx]
theorem outI_here {v : Int} {l : List Int} {k : Nat} (h : k < l.length) (hx : ¬ l[k] = v) : outI v (l.drop k) k = k := by
  rw [List.drop_eq_getElem_cons h, outI, if_neg hx]
theorem sizedC_any (W H n : Int) (B0 B1 : Nat) (w : World) (hW : 1 ≤ W ∧ W ≤ 20) (hH : 1 ≤ H ∧ H ≤ 20) (h0 : w.cell? ⟨B0, 0, none⟩ = some (.int .i64 W)) (h1 : w.cell? ⟨B1, 0, none⟩ = some (.int .i64 H)) :
    Calls Try.prog 78 #[.int .i64 n, .pointer (some ⟨B0, 0, none⟩), .pointer (some ⟨B1, 0, none⟩)] w fun e w' => e = .returned (.bool (!decide (n = W * H))) ∧ w = w' := by
  have b1 : 0 ≤ W * H := Int.mul_nonneg (by omega) (by omega)
  have b2 : W * H ≤ 20 * 20 := Int.mul_le_mul hW.2 hH.2 (by omega) (by omega)
  generalize hP : W * H = p at *
  have HP := Lib.hid hP
  clear hP
  have e1 : IntKind.i64.wrap (W * H) = p := by rw [HP.out]; exact IntWalk.i64_in _ (by omega)
  go_enter Try.func78, Try.ntmps78
  go_wp2
  go_ret
  refine ⟨?_, rfl⟩
  show Ending.returned (.bool (n != p)) = _
  congr 2
set_option maxHeartbeats 400000 in
theorem indexSized_any (W H : Int) (A : Option Addr) (l : List Int) (n c : Nat) (B0 B1 : Nat) (w : World) (hW : 1 ≤ W ∧ W ≤ 20) (hH : 1 ≤ H ∧ H ≤ 20) (hr : Rd w A (ints l)) (hn : n = l.length) (hl : n ≤ 4611686018427387904)
    (h0 : w.cell? ⟨B0, 0, none⟩ = some (.int .i64 W)) (h1 : w.cell? ⟨B1, 0, none⟩ = some (.int .i64 H)) :
    Calls Try.prog 85 #[.slice A n c, .func (.func 78) #[] #[.pointer (some ⟨B0, 0, none⟩), .pointer (some ⟨B1, 0, none⟩)]] w fun e w' => e = .returned (.int .i64 (outI (W * H) l 0)) ∧ w = w' := by
  have HC := fun x => Lib.hid (sizedC_any W H x B0 B1 w hW hH h0 h1)
  have HC' := Lib.hid HC
  have HR := Lib.hid hr
  have HN := Lib.hid hn
  clear hr hn h0 h1 HC hW hH
  generalize W * H = p at *
  go_enter Try.func85, Try.ntmps85
  go_wp2_with fail
  go_loop [5, 8] (fun _ u8 => ∃ k : Nat, k ≤ n ∧ u8 = .int .i64 k ∧ Hid (outI p l 0 = outI p (l.drop k) k)) (fun _ u8 => n - (intOf u8).toNat)
  case atStart => exact ⟨0, Nat.zero_le _, rfl, rfl⟩
  case round =>
    obtain ⟨k, hk, rfl, hq⟩ := hrel
    by_cases hlt : k < n
    · have hlt' : k < l.length := by rw [← HN.out]; exact hlt
      obtain ⟨b, off, rfl, hbs, hc⟩ := HR.out.at_ (ints_get hlt')
      have hc0 := hc k _ (ints_get hlt')
      clear hc
      by_cases hb : l[k] = p
      · have he := Lib.hid (hq.out.trans (outI_drop hlt' hb))
        have HB := Lib.hid (show (!decide (l[k] = p)) = false by simp [hb])
        clear hb
        generalize l[k] = x at *
        go_wp2_with (go_at_call 78; refine (HC'.out _).out.mono ?_; rintro e w' ⟨rfl, rfl⟩; rw [HB.out])
        go_round
        case rel => exact ⟨k + 1, by omega, by go_num, he⟩
        case measure => simp [intOf]; omega
      · have he := Lib.hid (hq.out.trans (outI_here hlt' hb))
        have HB := Lib.hid (show (!decide (l[k] = p)) = true by simp [hb])
        clear hb
        generalize l[k] = x at *
        go_wp2_with (go_at_call 78; refine (HC'.out _).out.mono ?_; rintro e w' ⟨rfl, rfl⟩; rw [HB.out])
        go_ret
        exact ⟨by rw [he.out]; rfl, rfl⟩
    · go_wp2_with fail
      go_ret
      refine ⟨?_, rfl⟩
      rw [hq.out, List.drop_of_length_le (by rw [← HN.out]; omega)]
      rfl
theorem containsSized_any (W H : Int) (A : Option Addr) (l : List Int) (n c : Nat) (B0 B1 : Nat) (w : World) (hW : 1 ≤ W ∧ W ≤ 20) (hH : 1 ≤ H ∧ H ≤ 20) (hr : Rd w A (ints l)) (hn : n = l.length) (hl : n ≤ 4611686018427387904)
    (h0 : w.cell? ⟨B0, 0, none⟩ = some (.int .i64 W)) (h1 : w.cell? ⟨B1, 0, none⟩ = some (.int .i64 H)) :
    Calls Try.prog 77 #[.slice A n c, .func (.func 78) #[] #[.pointer (some ⟨B0, 0, none⟩), .pointer (some ⟨B1, 0, none⟩)]] w fun e w' => e = .returned (.bool (!allB (W * H) l)) ∧ w = w' := by
  have HC := Lib.hid (indexSized_any W H A l n c B0 B1 w hW hH hr hn hl h0 h1)
  have HN := Lib.hid (outI_neg (W * H) l 0)
  clear hr hn h0 h1
  go_enter Try.func77, Try.ntmps77
  go_wp2_with fail
  refine HC.out.mono ?_
  rintro e w' ⟨rfl, rfl⟩
  go_wp2_with fail
  go_ret
  exact ⟨by rw [← HN.out]; rfl, rfl⟩
/-- Whether two sides are allowed, and numbers of entries. -/
def sidesB (W H : Int) : Bool := inB 1 20 W && inB 1 20 H
def sizedB (W H : Int) (cs : List Int) : Bool := sidesB W H && allB (W * H) cs
theorem sides_bd {W H : Int} (h : sidesB W H = true) : (1 ≤ W ∧ W ≤ 20) ∧ 1 ≤ H ∧ H ≤ 20 := by
  simpa [sidesB, inB] using h
set_option maxHeartbeats 400000 in
theorem sized_any (W H : Int) (A : Option Addr) (l : List Int) (n c : Nat) (w : World) (hr : Rd w A (ints l)) (hn : n = l.length) (hl : n ≤ 4611686018427387904) :
    Calls Try.prog 53 #[.int .i64 W, .int .i64 H, .slice A n c] w fun e w' => e = .returned (.bool (sizedB W H l)) ∧ Below w.heap.size w w' := by
  have HR := Lib.hid hr
  have HN := Lib.hid hn
  clear hr hn
  cases h1 : inB 1 20 W
  · have HP := Lib.hid (show sizedB W H l = false by simp [sizedB, sidesB, h1])
    go_enter Try.func53, Try.ntmps53
    go_wp2_with (go_at_call 58; refine (within_any _ _ _ _).mono ?_; rintro e w' ⟨rfl, rfl⟩)
    go_ret
    exact ⟨by rw [HP.out]; rfl, below_more (below_alloc _ _) _⟩
  cases h2 : inB 1 20 H
  · have HP := Lib.hid (show sizedB W H l = false by simp [sizedB, sidesB, h2])
    go_enter Try.func53, Try.ntmps53
    go_wp2_with (go_at_call 58; refine (within_any _ _ _ _).mono ?_; rintro e w' ⟨rfl, rfl⟩)
    go_ret
    exact ⟨by rw [HP.out]; rfl, below_more (below_alloc _ _) _⟩
  have hW : 1 ≤ W ∧ W ≤ 20 := by simpa [inB] using h1
  have hH : 1 ≤ H ∧ H ≤ 20 := by simpa [inB] using h2
  have HP := Lib.hid (show sizedB W H l = allB (W * H) l by simp [sizedB, sidesB, h1, h2])
  go_enter Try.func53, Try.ntmps53
  go_wp2_with (go_at_call 58; refine (within_any _ _ _ _).mono ?_; rintro e w' ⟨rfl, rfl⟩)
  refine (containsSized_any W H A l n c _ _ _ hW hH (HR.out.below (below_more (below_alloc _ _) _)) HN.out hl (by simp [go_sem]) (by simp [go_sem])).mono ?_
  rintro e w' ⟨rfl, rfl⟩
  go_wp2_with fail
  go_ret
  exact ⟨by rw [HP.out]; simp, below_more (below_alloc _ _) _⟩
theorem rd_new1 (w : World) (x : Int) (t : TypeId) : Rd (w.alloc (.cells #[.int .i64 x] t)) (some ⟨w.heap.size, 0, none⟩) (ints [x]) :=
  .inr ⟨_, _, rfl, by simp, fun j u hu => by rw [World.cell?_alloc_new]; simpa [ints] using hu⟩
theorem rd_new2 (w : World) (x y : Int) (t : TypeId) : Rd (w.alloc (.cells #[.int .i64 x, .int .i64 y] t)) (some ⟨w.heap.size, 0, none⟩) (ints [x, y]) :=
  .inr ⟨_, _, rfl, by simp, fun j u hu => by rw [World.cell?_alloc_new]; simpa [ints] using hu⟩
/-- One number of entries. -/
def sized1B (W H : Int) (n : Nat) : Bool := sidesB W H && decide ((n : Int) = W * H)
theorem sized1 (W H : Int) (n : Nat) (w : World) {B : Nat} (hB : B = w.heap.size) :
    Calls Try.prog 53 #[.int .i64 W, .int .i64 H, .slice (some ⟨B, 0, none⟩) 1 1] (w.alloc (.cells #[.int .i64 (n : Int)] 3)) fun e w' => e = .returned (.bool (sized1B W H n)) ∧ Below w.heap.size w w' := by
  subst hB
  exact (sized_any W H _ [(n : Int)] 1 1 _ (rd_new1 w n 3) rfl (by omega)).mono fun e w' ⟨he, hb⟩ => ⟨by rw [he]; simp [sizedB, sized1B, allB], below_step (below_alloc _ _) hb⟩
def sized2B (W H : Int) (n m : Nat) : Bool := sidesB W H && (decide ((n : Int) = W * H) && decide ((m : Int) = W * H))
theorem sized2 (W H : Int) (n m : Nat) (w : World) {B : Nat} (hB : B = w.heap.size) :
    Calls Try.prog 53 #[.int .i64 W, .int .i64 H, .slice (some ⟨B, 0, none⟩) 2 2] (w.alloc (.cells #[.int .i64 (n : Int), .int .i64 (m : Int)] 3)) fun e w' => e = .returned (.bool (sized2B W H n m)) ∧ Below w.heap.size w w' := by
  subst hB
  exact (sized_any W H _ [(n : Int), (m : Int)] 2 2 _ (rd_new2 w n m 3) rfl (by omega)).mono fun e w' ⟨he, hb⟩ => ⟨by rw [he]; simp [sizedB, sized2B, allB], below_step (below_alloc _ _) hb⟩
set_option maxHeartbeats 400000 in
theorem refSized_any (W H : Int) (n : Nat) (w : World) : Calls Try.prog 75 #[.int .i64 W, .int .i64 H, .int .i64 (n : Int)] w fun e w' => e = .returned (.bool (sized1B W H n)) ∧ w = w' := by
  cases h1 : inB 1 20 W
  · have HP := Lib.hid (show sized1B W H n = false by simp [sized1B, sidesB, h1])
    go_enter Try.func75, Try.ntmps75
    go_wp2_with (go_at_call 59; refine (refWithin_any _ _ _ _).mono ?_; rintro e w' ⟨rfl, rfl⟩)
    go_ret
    exact ⟨by rw [HP.out]; rfl, rfl⟩
  cases h2 : inB 1 20 H
  · have HP := Lib.hid (show sized1B W H n = false by simp [sized1B, sidesB, h2])
    go_enter Try.func75, Try.ntmps75
    go_wp2_with (go_at_call 59; refine (refWithin_any _ _ _ _).mono ?_; rintro e w' ⟨rfl, rfl⟩)
    go_ret
    exact ⟨by rw [HP.out]; rfl, rfl⟩
  have hW : 1 ≤ W ∧ W ≤ 20 := by simpa [inB] using h1
  have hH : 1 ≤ H ∧ H ≤ 20 := by simpa [inB] using h2
  have b1 : 0 ≤ W * H := Int.mul_nonneg (by omega) (by omega)
  have b2 : W * H ≤ 20 * 20 := Int.mul_le_mul hW.2 hH.2 (by omega) (by omega)
  have HP := Lib.hid (show sized1B W H n = decide ((n : Int) = W * H) by simp [sized1B, sidesB, h1, h2])
  generalize hP : W * H = p at *
  have HQ := Lib.hid hP
  clear hP
  have e1 : IntKind.i64.wrap (W * H) = p := by rw [HQ.out]; exact IntWalk.i64_in _ (by omega)
  go_enter Try.func75, Try.ntmps75
  go_wp2_with (go_at_call 59; refine (refWithin_any _ _ _ _).mono ?_; rintro e w' ⟨rfl, rfl⟩)
  go_ret
  refine ⟨?_, rfl⟩
  rw [HP.out]
  show Ending.returned (.bool ((n : Int) == p)) = _
  congr 2
end Go.Proofs.Ytjelnbfnoliocaa
