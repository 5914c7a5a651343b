/- Rates: whether numbers are in a range. No condition. -/
import Derived.Test.YtnalbchggjepdaaRows
import Derived.Test.YtnalbchggjepdaaBase
namespace Go.Proofs.Ytnalbchggjepdaa
open Go.RowKit

def inB (lo hi n : Int) : Bool := decide (lo ≤ n ∧ n ≤ hi)
def ints (l : List Int) : List Value := l.map (Value.int .i64)
theorem ints_get {l : List Int} {k : Nat} (h : k < l.length) : (ints l)[k]? = some (.int .i64 l[k]) := by simp [ints, h]
/-- The number of the first element that is not in a range, or -1. -/
def outI (lo hi : Int) : List Int → Nat → Int
  | [], _ => -1
  | x :: l, k => if inB lo hi x then outI lo hi l (k + 1) else k
def frB (lo hi : Int) (l : List Int) : Bool := l.all (inB lo hi)
theorem outI_neg (lo hi : Int) : ∀ (l : List Int) (k : Nat), decide (0 ≤ outI lo hi l k) = !frB lo hi l := by
  intro l
  induction l with
  | nil => intro k; simp [outI, frB]
  | cons x l ih =>
    intro k
    rw [outI]
    cases h : inB lo hi x
    · simp [frB, h]
    · rw [if_pos rfl, ih]; simp [frB, h]
theorem outI_drop {lo hi : Int} {l : List Int} {k : Nat} (h : k < l.length) (hx : inB lo hi l[k] = true) : outI lo hi (l.drop k) k = outI lo hi (l.drop (k + 1)) (k + 1) := by
  rw [List.drop_eq_getElem_cons h, outI, if_pos hx]
theorem outI_here {lo hi : Int} {l : List Int} {k : Nat} (h : k < l.length) (hx : inB lo hi l[k] = false) : outI lo hi (l.drop k) k = k := by
  rw [List.drop_eq_getElem_cons h, outI, if_neg (by simp [hx])]

theorem fromC_any (lo hi n : Int) (B0 B1 : Nat) (w : World) (h0 : w.cell? ⟨B0, 0, none⟩ = some (.int .i64 lo)) (h1 : w.cell? ⟨B1, 0, none⟩ = some (.int .i64 hi)) :
    Calls Try.prog 77 #[.int .i64 n, .pointer (some ⟨B0, 0, none⟩), .pointer (some ⟨B1, 0, none⟩)] w fun e w' => e = .returned (.bool (!inB lo hi n)) ∧ w = w' := by
  go_enter Try.func77, Try.ntmps77
  go_wp2
  all_goals go_ret
  · refine ⟨?_, rfl⟩
    show Ending.returned (.bool (decide (n < lo) || decide (hi < n))) = _
    congr 2
    rw [Bool.eq_iff_iff]
    simp [inB]
  · refine ⟨?_, rfl⟩
    show Ending.returned (.bool true) = _
    congr 2
    rw [Bool.eq_iff_iff]
    simp [inB]
    omega
set_option maxHeartbeats 400000 in
theorem indexFrom_any (lo hi : Int) (A : Option Addr) (l : List Int) (n c : Nat) (B0 B1 : Nat) (w : World) (hr : Rd w A (ints l)) (hn : n = l.length) (hl : n ≤ 4611686018427387904)
    (h0 : w.cell? ⟨B0, 0, none⟩ = some (.int .i64 lo)) (h1 : w.cell? ⟨B1, 0, none⟩ = some (.int .i64 hi)) :
    Calls Try.prog 87 #[.slice A n c, .func (.func 77) #[] #[.pointer (some ⟨B0, 0, none⟩), .pointer (some ⟨B1, 0, none⟩)]] w fun e w' => e = .returned (.int .i64 (outI lo hi l 0)) ∧ w = w' := by
  have HR := Lib.hid hr
  have HN := Lib.hid hn
  clear hr hn
  have H0 := Lib.hid h0
  have H1 := Lib.hid h1
  clear h0 h1
  go_enter Try.func87, Try.ntmps87
  go_wp2_with fail
  go_loop [5, 8] (fun _ u8 => ∃ k : Nat, k ≤ n ∧ u8 = .int .i64 k ∧ Hid (outI lo hi l 0 = outI lo hi (l.drop k) k)) (fun _ u8 => n - (intOf u8).toNat)
  case atStart => exact ⟨0, Nat.zero_le _, rfl, rfl⟩
  case round =>
    obtain ⟨k, hk, rfl, hq⟩ := hrel
    by_cases hlt : k < n
    · have hlt' : k < l.length := by rw [← HN.out]; exact hlt
      obtain ⟨b, off, rfl, hbs, hc⟩ := HR.out.at_ (ints_get hlt')
      have hc0 := hc k _ (ints_get hlt')
      clear hc
      cases hb : inB lo hi l[k]
      · have he := Lib.hid (hq.out.trans (outI_here hlt' hb))
        have HB := Lib.hid hb
        clear hb
        generalize l[k] = x at *
        go_wp2_with (go_at_call 77; refine (fromC_any lo hi _ _ _ _ H0.out H1.out).mono ?_; rintro e w' ⟨rfl, rfl⟩; rw [HB.out])
        go_ret
        exact ⟨by rw [he.out]; rfl, rfl⟩
      · have he := Lib.hid (hq.out.trans (outI_drop hlt' hb))
        have HB := Lib.hid hb
        clear hb
        generalize l[k] = x at *
        go_wp2_with (go_at_call 77; refine (fromC_any lo hi _ _ _ _ H0.out H1.out).mono ?_; rintro e w' ⟨rfl, rfl⟩; rw [HB.out])
        go_round
        case rel => exact ⟨k + 1, by omega, by go_num, he⟩
        case measure => simp [intOf]; omega
    · go_wp2_with fail
      go_ret
      refine ⟨?_, rfl⟩
      rw [hq.out, List.drop_of_length_le (by rw [← HN.out]; omega)]
      rfl
theorem containsFrom_any (lo hi : Int) (A : Option Addr) (l : List Int) (n c : Nat) (B0 B1 : Nat) (w : World) (hr : Rd w A (ints l)) (hn : n = l.length) (hl : n ≤ 4611686018427387904)
    (h0 : w.cell? ⟨B0, 0, none⟩ = some (.int .i64 lo)) (h1 : w.cell? ⟨B1, 0, none⟩ = some (.int .i64 hi)) :
    Calls Try.prog 76 #[.slice A n c, .func (.func 77) #[] #[.pointer (some ⟨B0, 0, none⟩), .pointer (some ⟨B1, 0, none⟩)]] w fun e w' => e = .returned (.bool (!frB lo hi l)) ∧ w = w' := by
  have HC := Lib.hid (indexFrom_any lo hi A l n c B0 B1 w hr hn hl h0 h1)
  have HN := Lib.hid (outI_neg lo hi l 0)
  clear hr hn h0 h1
  go_enter Try.func76, Try.ntmps76
  go_wp2_with fail
  refine HC.out.mono ?_
  rintro e w' ⟨rfl, rfl⟩
  go_wp2_with fail
  go_ret
  exact ⟨by rw [← HN.out]; rfl, rfl⟩
theorem from_any (lo hi : Int) (A : Option Addr) (l : List Int) (n c : Nat) (w : World) (hr : Rd w A (ints l)) (hn : n = l.length) (hl : n ≤ 4611686018427387904) :
    Calls Try.prog 53 #[.int .i64 lo, .int .i64 hi, .slice A n c] w fun e w' => e = .returned (.bool (frB lo hi l)) ∧ Below w.heap.size w w' := by
  have HR := Lib.hid hr
  have HN := Lib.hid hn
  clear hr hn
  go_enter Try.func53, Try.ntmps53
  go_wp2_with fail
  refine (containsFrom_any lo hi A l n c _ _ _ (HR.out.below (below_more (below_alloc _ _) _)) HN.out hl (by simp [go_sem]) (by simp [go_sem])).mono ?_
  rintro e w' ⟨rfl, rfl⟩
  go_wp2_with fail
  go_ret
  exact ⟨by simp, below_more (below_alloc _ _) _⟩
end Go.Proofs.Ytnalbchggjepdaa
