/- Ridge: CheckSample, CheckDevice, Check, of the program and of the reference. No condition. -/
import Derived.Test.YtjelnbfnoliocaaBa
namespace Go.Proofs.Ytjelnbfnoliocaa
open Go.RowKit

def errS (b : Bool) (e : Int) : Int := if b then 0 else e
theorem below1 {w w1 : World} {o : Obj} (h : Below (w.alloc o).heap.size (w.alloc o) w1) : Below w.heap.size w w1 := below_step (below_alloc w o) h
theorem size1 {w w1 : World} {o : Obj} (h : Below (w.alloc o).heap.size (w.alloc o) w1) : w.heap.size < w1.heap.size := by
  have := h.size
  simp at this
  omega

theorem checkSample_any (W H : Int) (A : Option Addr) (n c : Nat) (w : World) :
    Calls Try.prog 16 #[.agg #[.int .i64 W, .int .i64 H, .slice A n c]] w fun e w' => e = .returned (.int .i64 (errS (sized1B W H n) 10)) ∧ Below w.heap.size w w' := by
  cases hb : sized1B W H n
  all_goals
    have HB := Lib.hid hb
    clear hb
    go_enter Try.func16, Try.ntmps16
    go_wp2_with fail
    refine (sized1 W H n _ (by simp)).mono ?_
    rintro e w1 ⟨rfl, hb1⟩
    rw [HB.out]
    go_wp2_with fail
    go_ret
    exact ⟨rfl, below1 hb1⟩
theorem check_any (W H : Int) (A : Option Addr) (n c : Nat) (w : World) :
    Calls Try.prog 31 #[.agg #[.int .i64 W, .int .i64 H, .slice A n c]] w fun e w' => e = .returned (.int .i64 (errS (sized1B W H n) 10)) ∧ Below w.heap.size w w' := by
  cases hb : sized1B W H n
  all_goals
    have HB := Lib.hid hb
    clear hb
    go_enter Try.func31, Try.ntmps31
    go_wp2_with fail
    refine (sized1 W H n _ (by simp)).mono ?_
    rintro e w1 ⟨rfl, hb1⟩
    rw [HB.out]
    go_wp2_with fail
    go_ret
    exact ⟨rfl, below1 hb1⟩
theorem validSample_any (W H : Int) (A : Option Addr) (n c : Nat) (w : World) :
    Calls Try.prog 54 #[.agg #[.int .i64 W, .int .i64 H, .slice A n c]] w fun e w' => e = .returned (.bool (sized1B W H n)) ∧ Below w.heap.size w w' := by
  go_enter Try.func54, Try.ntmps54
  go_wp2_with fail
  refine (refSized_any W H n _).mono ?_
  rintro e w1 ⟨rfl, rfl⟩
  go_wp2_with fail
  go_ret
  exact ⟨rfl, below_alloc _ _⟩
theorem valid_any (W H : Int) (A : Option Addr) (n c : Nat) (w : World) :
    Calls Try.prog 44 #[.agg #[.int .i64 W, .int .i64 H, .slice A n c]] w fun e w' => e = .returned (.bool (sized1B W H n)) ∧ Below w.heap.size w w' := by
  go_enter Try.func44, Try.ntmps44
  go_wp2_with fail
  refine (refSized_any W H n _).mono ?_
  rintro e w1 ⟨rfl, rfl⟩
  go_wp2_with fail
  go_ret
  exact ⟨rfl, below_alloc _ _⟩
theorem refCheckSample_any (W H : Int) (A : Option Addr) (n c : Nat) (w : World) :
    Calls Try.prog 17 #[.agg #[.int .i64 W, .int .i64 H, .slice A n c]] w fun e w' => e = .returned (.int .i64 (errS (sized1B W H n) 10)) ∧ Below w.heap.size w w' := by
  cases hb : sized1B W H n
  all_goals
    have HB := Lib.hid hb
    clear hb
    go_enter Try.func17, Try.ntmps17
    go_wp2_with fail
    refine (validSample_any W H A n c _).mono ?_
    rintro e w1 ⟨rfl, hb1⟩
    rw [HB.out]
    go_wp2_with fail
    go_ret
    exact ⟨rfl, below1 hb1⟩
theorem refCheck_any (W H : Int) (A : Option Addr) (n c : Nat) (w : World) :
    Calls Try.prog 32 #[.agg #[.int .i64 W, .int .i64 H, .slice A n c]] w fun e w' => e = .returned (.int .i64 (errS (sized1B W H n) 10)) ∧ Below w.heap.size w w' := by
  cases hb : sized1B W H n
  all_goals
    have HB := Lib.hid hb
    clear hb
    go_enter Try.func32, Try.ntmps32
    go_wp2_with fail
    refine (valid_any W H A n c _).mono ?_
    rintro e w1 ⟨rfl, hb1⟩
    rw [HB.out]
    go_wp2_with fail
    go_ret
    exact ⟨rfl, below1 hb1⟩

/-- Each value of a list is less than the other list's. -/
def lessB : List Int → List Int → Bool
  | d :: ds, l :: ls => decide (d < l) && lessB ds ls
  | _, _ => true
def deviceB (W H : Int) (dark light : List Int) : Bool := sized2B W H dark.length light.length && lessB dark light
theorem lessB_no {dark light : List Int} {k : Nat} (h1 : k < dark.length) (h2 : k < light.length) (hq : lessB dark light = lessB (dark.drop k) (light.drop k)) (h : ¬ dark[k] < light[k]) : lessB dark light = false := by
  rw [hq, List.drop_eq_getElem_cons h1, List.drop_eq_getElem_cons h2, lessB]
  simp [h]
theorem lessB_go {dark light : List Int} {k : Nat} (h1 : k < dark.length) (h2 : k < light.length) (hq : lessB dark light = lessB (dark.drop k) (light.drop k)) (h : dark[k] < light[k]) :
    lessB dark light = lessB (dark.drop (k + 1)) (light.drop (k + 1)) := by
  rw [hq, List.drop_eq_getElem_cons h1, List.drop_eq_getElem_cons h2, lessB]
  simp [h]
theorem lessB_end {dark light : List Int} {k : Nat} (h1 : dark.length ≤ k) (hq : lessB dark light = lessB (dark.drop k) (light.drop k)) : lessB dark light = true := by
  rw [hq, List.drop_of_length_le h1]
  rfl
theorem sized2_eq {W H : Int} {n m : Nat} (h : sized2B W H n m = true) : n = m ∧ n ≤ 400 := by
  simp only [sized2B, Bool.and_eq_true, decide_eq_true_eq] at h
  obtain ⟨h0, h1, h2⟩ := h
  obtain ⟨hW, hH⟩ := sides_bd h0
  have b2 : W * H ≤ 20 * 20 := Int.mul_le_mul hW.2 hH.2 (by omega) (by omega)
  omega
set_option maxHeartbeats 1000000 in
theorem checkDevice_any (W H : Int) (A A' : Option Addr) (dark light : List Int) (n c n' c' : Nat) (w : World) (hr : Rd w A (u8s dark)) (hn : n = dark.length) (hr' : Rd w A' (u8s light)) (hn' : n' = light.length) :
    Calls Try.prog 18 #[.agg #[.int .i64 W, .int .i64 H, .slice A n c, .slice A' n' c']] w fun e w' => e = .returned (.int .i64 (errS (deviceB W H dark light) 11)) ∧ Below w.heap.size w w' := by
  have HR := Lib.hid hr
  have HN := Lib.hid hn
  have HR' := Lib.hid hr'
  have HN' := Lib.hid hn'
  cases hb : sized2B W H n n'
  · have HP := Lib.hid (show deviceB W H dark light = false by rw [deviceB, ← hn, ← hn', hb]; rfl)
    have HB := Lib.hid hb
    clear hb hr hn hr' hn'
    go_enter Try.func18, Try.ntmps18
    go_wp2_with fail
    refine (sized2 W H n n' _ (by simp)).mono ?_
    rintro e w1 ⟨rfl, hb1⟩
    rw [HB.out]
    go_wp2_with fail
    go_ret
    exact ⟨by rw [HP.out]; rfl, below1 hb1⟩
  · obtain ⟨hnn, hle⟩ := sized2_eq hb
    have HP := Lib.hid (show deviceB W H dark light = lessB dark light by rw [deviceB, ← hn, ← hn', hb]; rfl)
    have HB := Lib.hid hb
    have HNN := Lib.hid hnn
    clear hb hr hn hr' hn' hnn
    go_enter Try.func18, Try.ntmps18
    go_wp2_with fail
    refine (sized2 W H n n' _ (by simp)).mono ?_
    rintro e w1 ⟨rfl, hb1⟩
    rw [HB.out]
    obtain ⟨d0, d1, d2, d3, _⟩ := ((Box.new w 26 #[.int .i64 W, .int .i64 H, .slice A n c, .slice A' n' c']).ext hb1).c4
    have hfin := Lib.hid (below1 hb1)
    have HR1 := Lib.hid (HR.out.below hfin.out)
    have HR1' := Lib.hid (HR'.out.below hfin.out)
    clear hb1
    go_wp2_with fail
    go_loop [3, 4, 21] (fun _ _ u21 => ∃ k : Nat, k ≤ n ∧ u21 = .int .i64 k ∧ Hid (lessB dark light = lessB (dark.drop k) (light.drop k))) (fun _ _ u21 => n - (intOf u21).toNat)
    case atStart => exact ⟨0, Nat.zero_le _, rfl, rfl⟩
    case round =>
      obtain ⟨k, hk, rfl, hq⟩ := hrel
      by_cases hlt : k < n
      · have h1 : k < dark.length := by rw [← HN.out]; exact hlt
        have h2 : k < light.length := by rw [← HN'.out, ← HNN.out]; exact hlt
        have h3 : k < n' := by rw [← HNN.out]; exact hlt
        obtain ⟨b, off, rfl, hbs, hc⟩ := HR1.out.at_ (u8s_get h1)
        obtain ⟨b', off', rfl, hbs', hc'⟩ := HR1'.out.at_ (u8s_get h2)
        have hc0 := hc k _ (u8s_get h1)
        have hc1 := hc' k _ (u8s_get h2)
        clear hc hc'
        by_cases hx : dark[k] < light[k]
        · have he := Lib.hid (lessB_go h1 h2 hq.out hx)
          generalize dark[k] = x at *
          generalize light[k] = y at *
          go_wp2_with fail
          go_round
          case rel => exact ⟨k + 1, by omega, by go_num, he⟩
          case measure => simp [intOf]; omega
        · have he := Lib.hid (lessB_no h1 h2 hq.out hx)
          generalize dark[k] = x at *
          generalize light[k] = y at *
          go_wp2_with fail
          go_ret
          exact ⟨by rw [HP.out, he.out]; rfl, hfin.out⟩
      · go_wp2_with fail
        go_ret
        exact ⟨by rw [HP.out, lessB_end (by rw [← HN.out]; omega) hq.out]; rfl, hfin.out⟩
end Go.Proofs.Ytjelnbfnoliocaa
