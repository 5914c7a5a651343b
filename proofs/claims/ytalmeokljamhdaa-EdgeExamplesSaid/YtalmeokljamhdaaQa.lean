/- Queues of the layer edge: what the small functions and the two checks of a queue compute. -/
import Derived.Test.YtalmeokljamhdaaRows
import Derived.Test.YtalmeokljamhdaaBase
namespace Go.Proofs.Ytalmeokljamhdaa
open Go.RowKit

def inB (lo hi n : Int) : Bool := decide (lo ≤ n ∧ n ≤ hi)
theorem from_any (lo hi n : Int) (w : World) : Calls Try.prog 50 #[.int .i64 lo, .int .i64 hi, .int .i64 n] w fun e w' => e = .returned (.bool (inB lo hi n)) ∧ w = w' := by
  go_enter Try.func50, Try.ntmps50
  go_wp2
  all_goals go_ret
  all_goals simp [inB, *]
  omega
theorem within_any (lo hi n : Int) (w : World) : Calls Try.prog 51 #[.int .i64 n, .int .i64 lo, .int .i64 hi] w fun e w' => e = .returned (.bool (inB lo hi n)) ∧ w = w' := by
  go_enter Try.func51, Try.ntmps51
  go_wp2
  all_goals go_ret
  all_goals simp [inB, *]
  omega
theorem isTime_any (n : Int) (w : World) : Calls Try.prog 57 #[.int .i64 n] w fun e w' => e = .returned (.bool (inB 0 1099511627776 n)) ∧ w = w' := by
  go_enter Try.func57, Try.ntmps57
  go_wp2_with (go_at_call 50; refine (from_any _ _ _ _).mono ?_; rintro e w' ⟨rfl, rfl⟩)
  go_ret
  simp
theorem when_any (n : Int) (w : World) : Calls Try.prog 61 #[.int .i64 n] w fun e w' => e = .returned (.bool (inB 0 1099511627776 n)) ∧ w = w' := by
  go_enter Try.func61, Try.ntmps61
  go_wp2_with (go_at_call 51; refine (within_any _ _ _ _).mono ?_; rintro e w' ⟨rfl, rfl⟩)
  go_ret
  simp

structure Gst where
  id : Int
  fast : Bool
  skips : Int

def genc (g : Gst) : List Value := [.int .i64 g.id, .bool g.fast, .int .i64 g.skips]
theorem genc_len (g : Gst) : (genc g).length = 3 := rfl

def qGo (next : Int) : Int → Int → List Gst → Bool
  | _, _, [] => true
  | id, skips, g :: l => if g.id ≤ id ∨ next ≤ g.id ∨ inB 0 (if g.fast then 0 else skips) g.skips = false then false else qGo next g.id (if g.fast then skips else g.skips) l

def chkQ (lim next : Int) (l : List Gst) : Bool := inB 0 8 lim && inB 0 1099511627776 next && decide (l.length ≤ 20) && qGo next (-1) lim l
def errB (b : Bool) : Int := if b then 0 else 8

theorem qGo_next {next id sk x : Int} {l t r : List Gst} {g : Gst} {lim : Int} (h : qGo next (-1) lim l = qGo next id sk t) (ht : t = g :: r) (h1 : id < g.id ∧ g.id < next)
    (h2 : inB 0 (if g.fast then 0 else sk) g.skips = true) (h3 : x = if g.fast then sk else g.skips) : Hid (qGo next (-1) lim l = qGo next g.id x r) := by
  unfold Hid
  rw [h, ht, qGo, if_neg, h3]
  rintro (a | a | a)
  · omega
  · omega
  · rw [h2] at a; cases a
theorem chkQ_bad {next id sk : Int} {l t r : List Gst} {g : Gst} {lim : Int} (h : qGo next (-1) lim l = qGo next id sk t) (ht : t = g :: r)
    (h1 : g.id ≤ id ∨ next ≤ g.id ∨ inB 0 (if g.fast then 0 else sk) g.skips = false) : chkQ lim next l = false := by
  unfold chkQ
  rw [h, ht, qGo, if_pos h1]
  simp
theorem chkQ_ok {next id sk : Int} {l t : List Gst} {lim : Int} (h1 : inB 0 8 lim = true) (h2 : inB 0 1099511627776 next = true) (h3 : l.length ≤ 20) (h : qGo next (-1) lim l = qGo next id sk t) (ht : t = []) : chkQ lim next l = true := by
  unfold chkQ
  rw [h, ht, qGo, h1, h2]
  simp [h3]

/-- A box with three cells in it, somewhere below. -/
theorem box3 {w0 wr : World} {B : Nat} {x y z : Value} (h : w0.cell? ⟨B, 0, none⟩ = some x ∧ w0.cell? ⟨B, 1, none⟩ = some y ∧ w0.cell? ⟨B, 2, none⟩ = some z) (hs : B < w0.heap.size) (hb : Below w0.heap.size w0 wr) :
    wr.cell? ⟨B, 0, none⟩ = some x ∧ wr.cell? ⟨B, 1, none⟩ = some y ∧ wr.cell? ⟨B, 2, none⟩ = some z :=
  ⟨(hb.cell (p := ⟨B, 0, none⟩) hs).trans h.1, (hb.cell (p := ⟨B, 1, none⟩) hs).trans h.2.1, (hb.cell (p := ⟨B, 2, none⟩) hs).trans h.2.2⟩
theorem box3_new (w : World) (x y z : Value) (t : TypeId) (n : Nat) : ((w.alloc (.cells #[x, y, z] t)).drewN n).cell? ⟨w.heap.size, 0, none⟩ = some x ∧ ((w.alloc (.cells #[x, y, z] t)).drewN n).cell? ⟨w.heap.size, 1, none⟩ = some y ∧ ((w.alloc (.cells #[x, y, z] t)).drewN n).cell? ⟨w.heap.size, 2, none⟩ = some z := by
  refine ⟨?_, ?_, ?_⟩ <;> simp [go_sem]
/-- The cells of guest number k. -/
theorem gst_at {w wr : World} {A : Option Addr} {l : List Gst} (h : Rd w A (flat genc l)) (hb : Below w.heap.size w wr) {k : Nat} (hk : k < l.length) :
    ∃ b off, A = some ⟨b, off, none⟩ ∧ b < w.heap.size ∧ wr.cell? ⟨b, off + k * 3, none⟩ = some (.int .i64 l[k].id) ∧ wr.cell? ⟨b, off + k * 3 + 1, none⟩ = some (.bool l[k].fast) ∧ wr.cell? ⟨b, off + k * 3 + 2, none⟩ = some (.int .i64 l[k].skips) := by
  obtain ⟨b, off, hA, hs, hc⟩ := h.elem genc_len (by omega) hk
  exact ⟨b, off, hA, hs, (hb.cell (p := ⟨b, off + k * 3, none⟩) hs).trans (hc 0 _ rfl), (hb.cell (p := ⟨b, off + k * 3 + 1, none⟩) hs).trans (hc 1 _ rfl), (hb.cell (p := ⟨b, off + k * 3 + 2, none⟩) hs).trans (hc 2 _ rfl)⟩

set_option maxHeartbeats 1000000 in
theorem checkQueue_any (lim next : Int) (A : Option Addr) (l : List Gst) (n c : Nat) (w : World) (hr : Rd w A (flat genc l)) (hn : n = l.length) (hl : n ≤ 1000) :
    Calls Try.prog 25 #[.agg #[.int .i64 lim, .int .i64 next, .slice A n c]] w fun e w' => e = .returned (.int .i64 (errB (chkQ lim next l))) ∧ Below w.heap.size w w' := by
  have HR := Lib.hid hr
  have HN := Lib.hid hn
  clear hr hn
  by_cases h1 : inB 0 8 lim = true
  case neg =>
    have h1' : inB 0 8 lim = false := by simpa using h1
    go_enter Try.func25, Try.ntmps25
    go_wp2_with (go_at_call 50; refine (from_any _ _ _ _).mono ?_; rintro e w' ⟨rfl, rfl⟩)
    go_ret
    exact ⟨by simp [chkQ, errB, h1'], below_alloc _ _⟩
  by_cases h2 : inB 0 1099511627776 next = true
  case neg =>
    have h2' : inB 0 1099511627776 next = false := by simpa using h2
    go_enter Try.func25, Try.ntmps25
    go_wp2_with (first | (go_at_call 50; refine (from_any _ _ _ _).mono ?_; rintro e w' ⟨rfl, rfl⟩) | (go_at_call 57; refine (isTime_any _ _).mono ?_; rintro e w' ⟨rfl, rfl⟩))
    go_ret
    exact ⟨by simp [chkQ, errB, h2'], below_alloc _ _⟩
  by_cases h3 : n ≤ 20
  case neg =>
    go_enter Try.func25, Try.ntmps25
    go_wp2_with (first | (go_at_call 50; refine (from_any _ _ _ _).mono ?_; rintro e w' ⟨rfl, rfl⟩) | (go_at_call 57; refine (isTime_any _ _).mono ?_; rintro e w' ⟨rfl, rfl⟩))
    go_ret
    exact ⟨by rw [HN.out] at h3; simp [chkQ, errB, h3], below_alloc _ _⟩
  have h20 : decide (20 < (n : Int)) = false := by simp; omega
  go_enter Try.func25, Try.ntmps25
  go_wp2_with (first | (go_at_call 50; refine (from_any _ _ _ _).mono ?_; rintro e w' ⟨rfl, rfl⟩) | (go_at_call 57; refine (isTime_any _ _).mono ?_; rintro e w' ⟨rfl, rfl⟩))
  go_quiet (fail)
  go_wp2
  have q0 := box3_new w (Value.int IntKind.i64 lim) (Value.int IntKind.i64 next) (Value.slice A n c) 24 nq
  generalize hW0 : (w.alloc (Obj.cells #[Value.int IntKind.i64 lim, Value.int IntKind.i64 next, Value.slice A n c] 24)).drewN nq = W0 at q0 ⊢
  have qs : w.heap.size < W0.heap.size := by rw [← hW0]; simp [go_sem]
  have qb : Below w.heap.size w W0 := by rw [← hW0]; exact below_drewN (below_alloc _ _) nq
  clear hW0
  go_loopw [3, 4, 29] (fun u3 u4 u29 wr => ∃ (k : Nat) (id sk : Int), k ≤ n ∧ u3 = .int .i64 id ∧ u4 = .int .i64 sk ∧ u29 = .int .i64 k ∧ Below W0.heap.size W0 wr ∧ Hid (qGo next (-1) lim l = qGo next id sk (l.drop k))) (fun _ _ u29 _ => n - (intOf u29).toNat)
  case atStart => exact ⟨0, -1, lim, Nat.zero_le _, rfl, rfl, rfl, Below.refl _ _, rfl⟩
  case round =>
    obtain ⟨k, id, sk, hk, rfl, rfl, rfl, hb, hq⟩ := hrel
    obtain ⟨r0, r1, r2⟩ := box3 q0 qs hb
    have rs : w.heap.size < wr.heap.size := by have := hb.size; omega
    have fin : Below w.heap.size w wr := below_step qb hb
    clear q0
    by_cases hlt : k < n
    · have hlt' : k < l.length := by rw [← HN.out]; exact hlt
      obtain ⟨b, off, rfl, hbs, hc0, hc1, hc2⟩ := gst_at HR.out fin hlt'
      have HD := Lib.hid (List.drop_eq_getElem_cons hlt')
      generalize l[k] = g at hc0 hc1 hc2 HD
      rcases g with ⟨gi, gf, gs⟩
      simp only at hc0 hc1 hc2
      by_cases a1 : gi ≤ id
      · cases gf <;> (go_wp2; go_ret; exact ⟨by rw [chkQ_bad hq.out HD.out (.inl a1)]; rfl, fin.alloc (by omega) _⟩)
      by_cases a2 : next ≤ gi
      · cases gf <;> (go_wp2; go_ret; exact ⟨by rw [chkQ_bad hq.out HD.out (.inr (.inl a2))]; rfl, fin.alloc (by omega) _⟩)
      cases a3 : inB 0 (if gf then 0 else sk) gs
      · have hbad := Lib.hid (chkQ_bad hq.out HD.out (.inr (.inr a3)))
        cases gf <;> simp only [if_true, if_false, Bool.false_eq_true] at a3 <;> (go_wp2_with (go_at_call 50; refine (from_any _ _ _ _).mono ?_; rintro e w' ⟨rfl, rfl⟩)) <;> (go_ret; exact ⟨by rw [hbad.out]; rfl, fin.alloc (by omega) _⟩)
      · have hok := qGo_next hq.out HD.out (by simp only; omega) a3 rfl
        cases gf <;> simp only [if_true, if_false, Bool.false_eq_true] at a3 <;> (go_wp2_with (go_at_call 50; refine (from_any _ _ _ _).mono ?_; rintro e w' ⟨rfl, rfl⟩))
        all_goals
          go_roundw
          case rel => exact ⟨k + 1, gi, _, by omega, rfl, rfl, by go_num, hb.alloc hb.size _, hok⟩
          case measure => simp [intOf]; omega
    · go_wp2
      go_ret
      exact ⟨by rw [chkQ_ok h1 h2 (by rw [← HN.out]; exact h3) hq.out (List.drop_eq_nil_of_le (by rw [← HN.out]; omega))]; rfl, fin⟩
end Go.Proofs.Ytalmeokljamhdaa
