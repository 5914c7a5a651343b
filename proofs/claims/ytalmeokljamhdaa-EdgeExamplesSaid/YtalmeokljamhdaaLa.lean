/- Changes of the layer edge: what the checks of changes compute, in the program and in the reference. -/
import Derived.Test.YtalmeokljamhdaaQa
namespace Go.Proofs.Ytalmeokljamhdaa
open Go.RowKit

structure Chg where
  time : Int
  person : Int
  on : Bool

def cenc (c : Chg) : List Value := [.int .i64 c.time, .int .i64 c.person, .bool c.on]
theorem cenc_len (c : Chg) : (cenc c).length = 3 := rfl
theorem cenc_one (l : List Chg) : ∀ u ∈ flat cenc l, u.oneCell' = true := by
  intro u hu
  simp only [flat, List.mem_flatMap, cenc] at hu
  obtain ⟨g, _, hg⟩ := hu
  simp at hg
  rcases hg with rfl | rfl | rfl <;> rfl
theorem chg_at {w wr : World} {A : Option Addr} {l : List Chg} (h : Rd w A (flat cenc l)) (hb : Below w.heap.size w wr) {k : Nat} (hk : k < l.length) :
    ∃ b off, A = some ⟨b, off, none⟩ ∧ b < w.heap.size ∧ wr.cell? ⟨b, off + k * 3, none⟩ = some (.int .i64 l[k].time) ∧ wr.cell? ⟨b, off + k * 3 + 1, none⟩ = some (.int .i64 l[k].person) ∧ wr.cell? ⟨b, off + k * 3 + 2, none⟩ = some (.bool l[k].on) := by
  obtain ⟨b, off, hA, hs, hc⟩ := h.elem cenc_len (by omega) hk
  exact ⟨b, off, hA, hs, (hb.cell (p := ⟨b, off + k * 3, none⟩) hs).trans (hc 0 _ rfl), (hb.cell (p := ⟨b, off + k * 3 + 1, none⟩) hs).trans (hc 1 _ rfl), (hb.cell (p := ⟨b, off + k * 3 + 2, none⟩) hs).trans (hc 2 _ rfl)⟩

theorem isPerson_any (n : Int) (w : World) : Calls Try.prog 63 #[.int .i64 n] w fun e w' => e = .returned (.bool (inB 0 63 n)) ∧ w = w' := by
  go_enter Try.func63, Try.ntmps63
  go_wp2_with (go_at_call 50; refine (from_any _ _ _ _).mono ?_; rintro e w' ⟨rfl, rfl⟩)
  go_ret
  simp
theorem person_any (n : Int) (w : World) : Calls Try.prog 65 #[.int .i64 n] w fun e w' => e = .returned (.bool (inB 0 63 n)) ∧ w = w' := by
  go_enter Try.func65, Try.ntmps65
  go_wp2_with (go_at_call 51; refine (within_any _ _ _ _).mono ?_; rintro e w' ⟨rfl, rfl⟩)
  go_ret
  simp

def okC (c : Chg) : Bool := inB 0 1099511627776 c.time && inB 0 63 c.person
/-- Valid one by one, and in order from a time on. -/
def vGo : Int → List Chg → Bool
  | _, [] => true
  | t, c :: l => okC c && decide (t ≤ c.time) && vGo c.time l
def chkC (l : List Chg) : Bool := decide (l.length ≤ 60) && vGo 0 l
def srtB : List Chg → Bool
  | [] => true
  | [_] => true
  | a :: b :: l => decide (a.time ≤ b.time) && srtB (b :: l)
theorem srtB_iff : ∀ l : List Chg, srtB l = true ↔ ∀ j a b, l[j]? = some a → l[j + 1]? = some b → a.time ≤ b.time
  | [] => by simp [srtB]
  | [x] => by simp [srtB]
  | x :: y :: l => by
    rw [srtB, Bool.and_eq_true, srtB_iff (y :: l), decide_eq_true_eq]
    constructor
    · rintro ⟨h1, h2⟩ j a b ha hb
      cases j with
      | zero => simp at ha hb; subst ha; subst hb; exact h1
      | succ j => simp only [List.getElem?_cons_succ] at ha hb; exact h2 j a b ha (by simpa using hb)
    · intro h
      exact ⟨h 0 x y rfl rfl, fun j a b ha hb => h (j + 1) a b (by simpa using ha) (by simpa using hb)⟩
theorem vGo_eq : ∀ (l : List Chg) (t : Int), (∀ c ∈ l, okC c = true) → (∀ c, l.head? = some c → t ≤ c.time) → vGo t l = srtB l
  | [], t, _, _ => rfl
  | [x], t, h, h2 => by simp [vGo, srtB, h x (by simp), h2 x rfl]
  | x :: y :: l, t, h, h2 => by
    rw [vGo, srtB, h x (by simp)]
    by_cases hxy : x.time ≤ y.time
    · rw [vGo_eq (y :: l) x.time (fun c hc => h c (by simp [hc])) (fun c hc => by simp at hc; subst hc; exact hxy)]
      simp [h2 x rfl, hxy]
    · simp [hxy, vGo]
theorem vGo_bad : ∀ (l : List Chg) (t : Int), (∃ c ∈ l, okC c = false) → vGo t l = false
  | [], _, ⟨c, hc, _⟩ => by simp at hc
  | x :: l, t, ⟨c, hc, h⟩ => by
    rw [vGo]
    rcases List.mem_cons.1 hc with rfl | hc
    · simp [h]
    · simp [vGo_bad l x.time ⟨c, hc, h⟩]

set_option maxHeartbeats 400000 in
theorem strange_any (t p : Int) (o : Bool) (w : World) :
    Calls Try.prog 69 #[.agg #[.int .i64 t, .int .i64 p, .bool o]] w fun e w' => e = .returned (.bool (!okC ⟨t, p, o⟩)) ∧ Below w.heap.size w w' := by
  cases h1 : inB 0 1099511627776 t
  all_goals
    go_enter Try.func69, Try.ntmps69
    go_wp2_with (first | (go_at_call 57; refine (isTime_any _ _).mono ?_; rintro e w' ⟨rfl, rfl⟩) | (go_at_call 63; refine (isPerson_any _ _).mono ?_; rintro e w' ⟨rfl, rfl⟩))
    go_ret
    exact ⟨by simp [okC, h1], below_alloc _ _⟩

set_option maxHeartbeats 400000 in
theorem order_any (t p t' p' : Int) (o o' : Bool) (w : World) (h1 : 0 ≤ t ∧ t ≤ 1099511627776) (h2 : 0 ≤ t' ∧ t' ≤ 1099511627776) :
    Calls Try.prog 70 #[.agg #[.int .i64 t, .int .i64 p, .bool o], .agg #[.int .i64 t', .int .i64 p', .bool o']] w fun e w' => e = .returned (.int .i64 (t - t')) ∧ Below w.heap.size w w' := by
  go_enter Try.func70, Try.ntmps70
  go_wp2
  go_ret
  exact ⟨rfl, below_more (below_alloc _ _) _⟩

def badGo : Nat → List Chg → Int
  | _, [] => -1
  | i, c :: l => if okC c then badGo (i + 1) l else i
theorem badGo_ok {i : Nat} {c : Chg} {t l : List Chg} (ht : t = c :: l) (h : okC c = true) : badGo i t = badGo (i + 1) l := by subst ht; rw [badGo, if_pos h]
theorem badGo_bad {i : Nat} {c : Chg} {t l : List Chg} (ht : t = c :: l) (h : okC c = false) : badGo i t = i := by subst ht; rw [badGo, if_neg (by rw [h]; simp)]
theorem badGo_neg : ∀ (l : List Chg) (i : Nat), (badGo i l = -1 ∧ ∀ c ∈ l, okC c = true) ∨ (0 ≤ badGo i l ∧ ∃ c ∈ l, okC c = false)
  | [], i => .inl ⟨rfl, fun c hc => by simp at hc⟩
  | x :: l, i => by
    cases h : okC x
    · exact .inr ⟨by rw [badGo_bad rfl h]; omega, x, by simp, h⟩
    · rw [badGo_ok rfl h]
      rcases badGo_neg l (i + 1) with ⟨a, b⟩ | ⟨a, c, hc, b⟩
      · exact .inl ⟨a, fun c hc => by rcases List.mem_cons.1 hc with rfl | hc; exact h; exact b c hc⟩
      · exact .inr ⟨a, c, by simp [hc], b⟩

set_option maxHeartbeats 1000000 in
theorem indexChg_any (A : Option Addr) (l : List Chg) (n c : Nat) (w : World) (hr : Rd w A (flat cenc l)) (hn : n = l.length) (hl : n ≤ 1000) :
    Calls Try.prog 83 #[.slice A n c, .func (.func 69) #[] #[]] w fun e w' => e = .returned (.int .i64 (badGo 0 l)) ∧ Below w.heap.size w w' := by
  have HR := Lib.hid hr
  have HN := Lib.hid hn
  clear hr hn
  go_enter Try.func83, Try.ntmps83
  go_wp2
  go_loopw [8] (fun u8 wr => ∃ (k : Nat), k ≤ n ∧ u8 = .int .i64 k ∧ Below w.heap.size w wr ∧ Hid (badGo 0 l = badGo k (l.drop k))) (fun u8 _ => n - (intOf u8).toNat)
  case atStart => exact ⟨0, Nat.zero_le _, rfl, Below.refl _ _, rfl⟩
  case round =>
    obtain ⟨k, hk, rfl, hb, hq⟩ := hrel
    by_cases hlt : k < n
    · have hlt' : k < l.length := by rw [← HN.out]; exact hlt
      obtain ⟨b, off, rfl, hbs, hc0, hc1, hc2⟩ := chg_at HR.out hb hlt'
      have HD := Lib.hid (List.drop_eq_getElem_cons hlt')
      generalize l[k] = g at hc0 hc1 hc2 HD
      rcases g with ⟨gt, gp, go⟩
      simp only at hc0 hc1 hc2
      cases hh : okC ⟨gt, gp, go⟩
      · have hfin := Lib.hid (badGo_bad (i := k) HD.out hh)
        go_wp2_with (go_at_call 69; refine (strange_any gt gp go _).mono ?_; rintro e w1 ⟨rfl, hb1⟩)
        go_ret
        exact ⟨by rw [hq.out, hfin.out]; rfl, below_step hb hb1⟩
      · have hfin := Lib.hid (badGo_ok (i := k) HD.out hh)
        go_wp2_with (go_at_call 69; refine (strange_any gt gp go _).mono ?_; rintro e w1 ⟨rfl, hb1⟩)
        go_roundw
        case rel => exact ⟨k + 1, by omega, by go_num, below_step hb hb1, hq.out.trans hfin.out⟩
        case measure => simp [intOf]; omega
    · have hfin : Hid (badGo k (l.drop k) = -1) := by
        unfold Hid; rw [List.drop_eq_nil_of_le (by rw [← HN.out]; omega)]; rfl
      go_wp2
      go_ret
      exact ⟨by rw [hq.out, hfin.out]; rfl, hb⟩

set_option maxHeartbeats 400000 in
theorem contains_any (A : Option Addr) (l : List Chg) (n c : Nat) (w : World) (hr : Rd w A (flat cenc l)) (hn : n = l.length) (hl : n ≤ 1000) :
    Calls Try.prog 71 #[.slice A n c, .func (.func 69) #[] #[]] w fun e w' => e = .returned (.bool (decide (0 ≤ badGo 0 l))) ∧ Below w.heap.size w w' := by
  have HR := Lib.hid hr
  have HN := Lib.hid hn
  clear hr hn
  go_enter Try.func71, Try.ntmps71
  go_wp2_with (go_at_call 83; refine (indexChg_any _ l _ _ _ HR.out HN.out hl).mono ?_; rintro e w1 ⟨rfl, hb1⟩)
  go_ret
  exact ⟨rfl, hb1⟩

set_option maxHeartbeats 1000000 in
theorem sorted_any (A : Option Addr) (l : List Chg) (n c : Nat) (w : World) (hr : Rd w A (flat cenc l)) (hn : n = l.length) (hl : n ≤ 1000) (hok : ∀ c ∈ l, okC c = true) :
    Calls Try.prog 72 #[.slice A n c, .func (.func 70) #[] #[]] w fun e w' => e = .returned (.bool (srtB l)) ∧ Below w.heap.size w w' := by
  have HR := Lib.hid hr
  have HN := Lib.hid hn
  have HK := Lib.hid hok
  clear hr hn hok
  go_enter Try.func72, Try.ntmps72
  go_wp2
  go_loopw [5] (fun u5 wr => ∃ (k : Int), -1 ≤ k ∧ k < n ∧ u5 = .int .i64 k ∧ Below w.heap.size w wr ∧ Hid (∀ (j : Nat) (a b : Chg), k ≤ (j : Int) → l[j]? = some a → l[j + 1]? = some b → a.time ≤ b.time)) (fun u5 _ => (intOf u5 + 1).toNat)
  case atStart =>
    refine ⟨(n : Int) - 1, by omega, by omega, rfl, Below.refl _ _, ?_⟩
    intro j a b hj _ hb
    have := (List.getElem?_eq_some_iff.1 hb).1
    rw [← HN.out] at this
    omega
  case round =>
    obtain ⟨k, hk0, hk, rfl, hb, hq⟩ := hrel
    by_cases hlt : 0 < k
    · obtain ⟨m, rfl⟩ : ∃ m : Nat, k = ((m + 1 : Nat) : Int) := ⟨(k - 1).toNat, by omega⟩
      have hm1 : m + 1 < l.length := by rw [← HN.out]; omega
      have hm0 : m < l.length := by omega
      obtain ⟨b, off, rfl, hbs, hc0, hc1, hc2⟩ := chg_at HR.out hb hm1
      obtain ⟨b', off', hA', hbs', hd0, hd1, hd2⟩ := chg_at HR.out hb hm0
      injection hA' with hA'
      injection hA' with hA1 hA2
      subst hA1; subst hA2
      have hg1 : l[m + 1]? = some l[m + 1] := List.getElem?_eq_getElem hm1
      have hg0 : l[m]? = some l[m] := List.getElem?_eq_getElem hm0
      have ho1 := HK.out l[m + 1] (List.getElem_mem hm1)
      have ho0 := HK.out l[m] (List.getElem_mem hm0)
      have HG1 := Lib.hid hg1
      have HG0 := Lib.hid hg0
      clear hg1 hg0
      generalize l[m + 1] = g1 at hc0 hc1 hc2 ho1 HG1
      generalize l[m] = g0 at hd0 hd1 hd2 ho0 HG0
      rcases g1 with ⟨t1, p1, o1⟩
      rcases g0 with ⟨t0, p0, o0⟩
      simp only [okC, inB, Bool.and_eq_true, decide_eq_true_eq] at hc0 hc1 hc2 hd0 hd1 hd2 ho1 ho0
      have hbw : b < wr.heap.size := by have := hb.size; omega
      have e0 : ((m + 1 : Nat) : Int) = (m : Int) + 1 := by omega
      rw [e0] at hk ⊢
      clear e0
      have hmn : (m : Int) < n := by omega
      have e1 : IntKind.i64.wrap ((m : Int) + 1 - 1) = (m : Int) := by rw [show (m : Int) + 1 - 1 = m from by omega]; exact IntWalk.i64_in _ (by omega)
      have hx1 : (m : Int) + 1 - 1 = m := by omega
      have hto : ((m : Int) + 1).toNat = m + 1 := by omega
      have hp1 : 0 ≤ (m : Int) + 1 := by omega
      have hne : Nonempty (ExtOf wr) := ⟨⟨wr, Below.refl _ _⟩⟩
      by_cases hs : t1 < t0
      · have hs' : decide (t1 - t0 < 0) = true := by simp; omega
        have hbad : Hid (srtB l = false) := by
          cases hsb : srtB l
          · rfl
          · have := (srtB_iff l).1 hsb m _ _ HG0.out HG1.out
            simp only at this
            omega
        go_wp2
        refine wp_region_ext (by kernel_rfl) (by kernel_rfl) ?_
        repeat (go_big_quiet_step ((go_at_call 70; exact ext_of (order_any _ _ _ _ _ _ _ ho1.1 ho0.1))))
        refine wpQuiet_nil ?_
        intro X hw'
        obtain ⟨⟨X', hX⟩, hw''⟩ := hw'
        simp only at hw''
        subst hw''
        clear hne
        go_wp2
        go_ret
        exact ⟨by rw [hbad.out]; rfl, below_step hb hX⟩
      · have hs' : decide (t1 - t0 < 0) = false := by simp; omega
        go_wp2
        refine wp_region_ext (by kernel_rfl) (by kernel_rfl) ?_
        repeat (go_big_quiet_step ((go_at_call 70; exact ext_of (order_any _ _ _ _ _ _ _ ho1.1 ho0.1))))
        refine wpQuiet_nil ?_
        intro X hw'
        obtain ⟨⟨X', hX⟩, hw''⟩ := hw'
        simp only at hw''
        subst hw''
        clear hne
        go_wp2
        go_roundw
        case rel =>
          refine ⟨(m : Int), by omega, by omega, by first | rfl | go_num, below_step hb hX, ?_⟩
          intro j a b hj ha hb'
          by_cases hjm : j = m
          · subst hjm
            rw [HG0.out] at ha
            rw [HG1.out] at hb'
            injection ha with ha
            injection hb' with hb'
            subst ha; subst hb'
            simp only
            omega
          · exact hq.out j a b (by omega) ha hb'
        case measure => simp [intOf]; omega
    · go_wp2
      go_ret
      have hgood : srtB l = true := (srtB_iff l).2 fun j a b ha hb' => hq.out j a b (by omega) ha hb'
      exact ⟨by rw [hgood]; rfl, hb⟩
end Go.Proofs.Ytalmeokljamhdaa
