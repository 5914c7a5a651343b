/- Copies: a copy after changes, in the program. -/
import Derived.Test.YtalmeokljamhdaaMi
namespace Go.Proofs.Ytalmeokljamhdaa
open Go.RowKit Go.Shelf

def fitsB (l : List Chg) (a z : Int) : Bool := decide ((betF l a z).length = l.length)
theorem vGo_last : ∀ (l : List Chg) (t : Int), vGo t l = true → ∀ d, l.getLast? = some d → ∀ c ∈ l, c.time ≤ d.time
  | [], _, _, d, h, c, hc => by simp at hc
  | [x], _, _, d, h, c, hc => by simp at h hc; subst h; subst hc; exact Int.le_refl _
  | x :: y :: l, t, h, d, hd, c, hc => by
    obtain ⟨h1, h2, h3⟩ := vGo_tail h
    have hd' : (y :: l).getLast? = some d := by simpa using hd
    rcases List.mem_cons.1 hc with rfl | hc
    · exact (vGo_ge _ _ h3 d (List.mem_of_getLast? hd')).2
    · exact vGo_last (y :: l) x.time h3 d hd' c hc
theorem fits_nil (a z : Int) : fitsB [] a z = true := rfl
theorem fits_iff {l : List Chg} {a z t : Int} {x d : Chg} (hv : vGo t l = true) (hx : l.head? = some x) (hd : l.getLast? = some d) : fitsB l a z = true ↔ a < x.time ∧ d.time ≤ z := by
  unfold fitsB betF
  rw [decide_eq_true_eq, List.length_filter_eq_length_iff]
  constructor
  · intro h
    have h1 := h x (List.mem_of_head? hx)
    have h2 := h d (List.mem_of_getLast? hd)
    simp at h1 h2
    omega
  · rintro ⟨h1, h2⟩ c hc
    have h3 := vGo_last l t hv d hd c hc
    have h4 : x.time ≤ c.time := by
      cases l with
      | nil => simp at hc
      | cons y l =>
        simp at hx
        subst hx
        obtain ⟨_, _, h5⟩ := vGo_tail hv
        rcases List.mem_cons.1 hc with rfl | hc
        · exact Int.le_refl _
        · exact (vGo_ge _ _ h5 c hc).2
    simp
    omega
def applyF (a m : Int) (S : BitVec 64) (se : Int) (l : List Chg) (z key : Int) : Int × Int × BitVec 64 × Int × Int :=
  if sealedB a m S.toNat se key = false ∨ chkC l = false then (0, 0, 0#64, 0, 8) else if inB 0 1099511627776 z = false then (0, 0, 0#64, 0, 2)
  else if z < a ∨ fitsB l a z = false then (0, 0, 0#64, 0, 101) else (z, m, aftF S l, sealI z m (aftF S l).toNat key, 0)
theorem apply_cases (a m : Int) (S : BitVec 64) (se : Int) (l : List Chg) (z key : Int) :
    (sealedB a m S.toNat se key = false ∧ applyF a m S se l z key = (0, 0, 0#64, 0, 8)) ∨
    (sealedB a m S.toNat se key = true ∧ chkC l = false ∧ applyF a m S se l z key = (0, 0, 0#64, 0, 8)) ∨
    (sealedB a m S.toNat se key = true ∧ chkC l = true ∧ inB 0 1099511627776 z = false ∧ applyF a m S se l z key = (0, 0, 0#64, 0, 2)) ∨
    (sealedB a m S.toNat se key = true ∧ chkC l = true ∧ inB 0 1099511627776 z = true ∧ z < a ∧ applyF a m S se l z key = (0, 0, 0#64, 0, 101)) ∨
    (sealedB a m S.toNat se key = true ∧ chkC l = true ∧ inB 0 1099511627776 z = true ∧ a ≤ z ∧ fitsB l a z = false ∧ applyF a m S se l z key = (0, 0, 0#64, 0, 101)) ∨
    (sealedB a m S.toNat se key = true ∧ chkC l = true ∧ inB 0 1099511627776 z = true ∧ a ≤ z ∧ fitsB l a z = true ∧ applyF a m S se l z key = (z, m, aftF S l, sealI z m (aftF S l).toNat key, 0)) := by
  cases h1 : sealedB a m S.toNat se key
  · exact .inl ⟨rfl, by simp [applyF, h1]⟩
  cases h2 : chkC l
  · exact .inr (.inl ⟨rfl, rfl, by simp [applyF, h2]⟩)
  cases h3 : inB 0 1099511627776 z
  · exact .inr (.inr (.inl ⟨rfl, rfl, rfl, by simp [applyF, h1, h2, h3]⟩))
  by_cases h4 : z < a
  · exact .inr (.inr (.inr (.inl ⟨rfl, rfl, rfl, h4, by simp [applyF, h1, h2, h3, h4]⟩)))
  cases h5 : fitsB l a z
  · exact .inr (.inr (.inr (.inr (.inl ⟨rfl, rfl, rfl, by omega, rfl, by simp [applyF, h1, h2, h3, h5]⟩))))
  · exact .inr (.inr (.inr (.inr (.inr ⟨rfl, rfl, rfl, by omega, rfl, by simp [applyF, h1, h2, h3, h4, h5]⟩))))

theorem values_any (A : Option Addr) (n c : Nat) (w : World) :
    Calls Try.prog 78 #[.slice A n c] w fun e w' => e = .returned (.func (.func 84) #[] #[.pointer (some ⟨w.heap.size, 0, none⟩)]) ∧ w.alloc (.cells #[.slice A n c] 44) = w' := by
  go_enter Try.func78, Try.ntmps78
  go_wp2
  go_ret
  exact ⟨rfl, rfl⟩

set_option maxRecDepth 100000 in
set_option maxHeartbeats 4000000 in
theorem apply_ok (a m : Int) (S : BitVec 64) (se : Int) (A : Option Addr) (l : List Chg) (n c : Nat) (z key : Int) (w : World) (hr : Rd w A (flat cenc l)) (hn : n = l.length) (hl : n ≤ 1000)
    (hs : sealedB a m S.toNat se key = true) (hv : chkC l = true) (hz : inB 0 1099511627776 z = true) (ha : a ≤ z) :
    Calls Try.prog 44 #[.agg #[.int .i64 a, .int .i64 m, .int .u64 S.toNat, .int .u64 se], .slice A n c, .int .i64 z, .int .u64 key] w
      (KPost (applyF a m S se l z key) w) := by
  have HAF : Hid (applyF a m S se l z key = if fitsB l a z = false then (0, 0, 0#64, 0, 101) else (z, m, aftF S l, sealI z m (aftF S l).toNat key, 0)) := by
    unfold Hid applyF
    rw [if_neg (by rw [hs, hv]; simp), if_neg (by rw [hz]; simp)]
    cases fitsB l a z
    · rw [if_pos (.inr rfl), if_pos rfl]
    · rw [if_neg (by simp; omega), if_neg (by simp)]
  have HR := Lib.hid hr
  have HN := Lib.hid hn
  have HV := Lib.hid hv
  have HS := Lib.hid hs
  clear hr hn hv hs
  have hcs : (n = 0 ∧ fitsB l a z = true) ∨ ∃ (m : Nat) (x d : Chg), n = m + 1 ∧ l[0]? = some x ∧ l[m]? = some d ∧ ((x.time ≤ a ∧ fitsB l a z = false) ∨ (a < x.time ∧ z < d.time ∧ fitsB l a z = false) ∨ (a < x.time ∧ d.time ≤ z ∧ fitsB l a z = true)) := by
    rcases Nat.eq_zero_or_pos n with h0 | h0
    · left
      have : l = [] := List.eq_nil_of_length_eq_zero (by rw [← HN.out]; exact h0)
      exact ⟨h0, by rw [this]; rfl⟩
    · right
      obtain ⟨k, rfl⟩ : ∃ k, n = k + 1 := ⟨n - 1, by omega⟩
      have hl0 : 0 < l.length := by rw [← HN.out]; omega
      have hlk : k < l.length := by rw [← HN.out]; omega
      have hx : l[0]? = some l[0] := List.getElem?_eq_getElem hl0
      have hd : l[k]? = some l[k] := List.getElem?_eq_getElem hlk
      have hh : l.head? = some l[0] := by rw [List.head?_eq_getElem?]; exact hx
      have hg : l.getLast? = some l[k] := by rw [List.getLast?_eq_getElem?, ← HN.out]; exact hd
      refine ⟨k, l[0], l[k], rfl, hx, hd, ?_⟩
      have hi := fits_iff (a := a) (z := z) (chkC_v HV.out) hh hg
      by_cases h1 : a < l[0].time
      · by_cases h2 : l[k].time ≤ z
        · exact .inr (.inr ⟨h1, h2, hi.2 ⟨h1, h2⟩⟩)
        · refine .inr (.inl ⟨h1, by omega, ?_⟩)
          cases hf : fitsB l a z
          · rfl
          · exact absurd (hi.1 hf).2 h2
      · refine .inl ⟨by omega, ?_⟩
        cases hf : fitsB l a z
        · rfl
        · exact absurd (hi.1 hf).1 h1
  have HCS := Lib.hid hcs
  clear hcs
  have hz0 : decide (z < a) = false := by simp; omega
  have hzz : 0 ≤ z ∧ z ≤ 1099511627776 := by simpa [inB] using hz
  have haa : 0 ≤ a ∧ a ≤ 1099511627776 := by have := (sealedB_time HS.out).1; simpa [inB] using this
  go_enter Try.func44, Try.ntmps44
  go_wp2_with fail
  refine (checkCopy_any _ _ _ _ _ _).mono ?_
  rintro e w1 ⟨rfl, hb1⟩
  rw [HS.out]
  simp only [errB, if_true]
  have HK := Lib.hid (((Box.new w 65 _).alloc _).ext hb1)
  have HX := Lib.hid ((Box.new _ 65 _).ext hb1)
  simp only [World.size_alloc] at HX
  have HB := Lib.hid (below_step (below_more (below_alloc w _) _) hb1)
  have hs1 : w.heap.size + 1 < w1.heap.size := by have := hb1.size; simp only [World.size_alloc] at this; omega
  clear hb1
  go_wp2_with fail
  refine (checkChanges_any _ l _ _ _ (HR.out.below HB.out) HN.out hl).mono ?_
  rintro e w2 ⟨rfl, hb2⟩
  rw [HV.out]
  simp only [errB, if_true]
  replace HK := Lib.hid (HK.out.ext hb2)
  replace HX := Lib.hid (HX.out.ext hb2)
  have hs2 : w.heap.size + 1 < w2.heap.size := by have := hb2.size; omega
  have hs20 : w.heap.size < w2.heap.size := by omega
  replace HB := Lib.hid (below_step HB.out hb2)
  have HRD := Lib.hid (HR.out.below HB.out)
  clear hb2
  obtain ⟨p0, p1, p2, p3, pf⟩ := HK.out.c4
  obtain ⟨q0, q1, q2, q3, qf⟩ := HX.out.c4
  rcases HCS.out with ⟨hn0, hfit⟩ | ⟨k, x, d, hnk, hx, hd, hcs⟩
  · rw [hfit] at HAF
    have h0 : decide (0 < n) = false := by simp; omega
    clear hfit hn0
    go_wp2_with (go_at_call 57; refine (isTime_any _ _).mono ?_; rintro e w' ⟨rfl, rfl⟩)
    go_quiet (fail)
    go_wp2
    have hkk : Box ((w2.drewN nq).alloc (.cells #[.int .i64 a, .int .i64 m, .int .u64 S.toNat, .int .u64 se, .int .u64 key] 121)) w.heap.size [.int .i64 a, .int .i64 m, .int .u64 S.toNat, .int .u64 se] := (HK.out.drewN nq).alloc _
    have hrr : Box ((w2.drewN nq).alloc (.cells #[.int .i64 a, .int .i64 m, .int .u64 S.toNat, .int .u64 se, .int .u64 key] 121)) (w.heap.size + 1) [.int .i64 0, .int .i64 0, .int .u64 0, .int .u64 0] := (HX.out.drewN nq).alloc _
    have hxx : Box ((w2.drewN nq).alloc (.cells #[.int .i64 a, .int .i64 m, .int .u64 S.toNat, .int .u64 se, .int .u64 key] 121)) w2.heap.size [.int .i64 a, .int .i64 m, .int .u64 S.toNat, .int .u64 se, .int .u64 key] := Box.new (w2.drewN nq) 121 #[.int .i64 a, .int .i64 m, .int .u64 S.toNat, .int .u64 se, .int .u64 key]
    have hbw : Below w.heap.size w ((w2.drewN nq).alloc (.cells #[.int .i64 a, .int .i64 m, .int .u64 S.toNat, .int .u64 se, .int .u64 key] 121)) := below_more (below_drewN HB.out nq) _
    clear p0 p1 p2 p3 pf q0 q1 q2 q3 qf HK HX HB HRD 
    generalize (w2.drewN nq).alloc (.cells #[.int .i64 a, .int .i64 m, .int .u64 S.toNat, .int .u64 se, .int .u64 key] 121) = W at hkk hrr hxx hbw ⊢
    have hrd := Lib.hid (HR.out.below hbw)
    have hs3 := hxx.2.2
    obtain ⟨p0, p1, p2, p3, pf⟩ := hkk.c4
    have hwne : W.heap.size ≠ w.heap.size := by omega
    have HKK := Lib.hid hkk
    have HRR := Lib.hid hrr
    have HXX := Lib.hid hxx
    have HBW := Lib.hid hbw
    have hxw : w2.heap.size < W.heap.size := hs3
    obtain ⟨x0, x1, x2, x3, x4, xf⟩ := hxx.c5
    have hne1 : w2.heap.size ≠ w.heap.size := by omega
    have hne2 : w.heap.size ≠ w2.heap.size := by omega
    clear hkk hrr hxx hbw
    go_region_held3 (fun w' => w'.cell? ⟨w.heap.size, 2, none⟩ = some (.int .u64 S.toNat)) (first | go_keep | exact (hb.cell (p := ⟨w.heap.size, 2, none⟩) (by simp; omega)).trans (by simp [*])) (first | (go_at_call 78; refine (values_any _ _ _ _).mono ?_; rintro e w' ⟨rfl, rfl⟩) | (go_at_call 58; refine (after_any S 84 #[.pointer (some ⟨W.heap.size, 0, none⟩)] l l.length _ (enters_of Try.func84 (by kernel_rfl) rfl) (vals_stops 9 (by omega) W.heap.size _ l _ c _ (by exact hrd.out.below (below_alloc W _).drew) HN.out hl (chkC_p HV.out) (by simp) (by simp [go_sem]))).mono ?_; rintro e w' ⟨rfl, hb⟩; obtain ⟨y0, y1, y2, y3, y4, yf⟩ := (Box.ext (w := (W.alloc (.cells #[.slice A n c] 44)).drew) (HXX.out.alloc _) hb).c5; have hsw : w2.heap.size < w'.heap.size := (by have := hb.size; simp at this; omega)))
    have hxb : Box ((w'.setCell ⟨w2.heap.size, 0, none⟩ (.int .i64 z)).setCell ⟨w2.heap.size, 2, none⟩ (.int .u64 (aftF S l).toNat)) w2.heap.size [.int .i64 z, .int .i64 m, .int .u64 (aftF S l).toNat, .int .u64 se, .int .u64 key] :=
      ((Box.ext (w := (W.alloc (.cells #[.slice A n c] 44)).drew) (HXX.out.alloc _) hb).set (i := 0) _ (by simp)).set (i := 2) _ (by simp)
    have hrb : Box ((w'.setCell ⟨w2.heap.size, 0, none⟩ (.int .i64 z)).setCell ⟨w2.heap.size, 2, none⟩ (.int .u64 (aftF S l).toNat)) (w.heap.size + 1) [.int .i64 0, .int .i64 0, .int .u64 0, .int .u64 0] :=
      ((Box.ext (w := (W.alloc (.cells #[.slice A n c] 44)).drew) (HRR.out.alloc _) hb).far _ (by omega)).far _ (by omega)
    have hbb : Below w.heap.size w ((w'.setCell ⟨w2.heap.size, 0, none⟩ (.int .i64 z)).setCell ⟨w2.heap.size, 2, none⟩ (.int .u64 (aftF S l).toNat)) :=
      ((below_step HBW.out (below_step (below_alloc W _).drew hb)).setCell (by simp; omega) _).setCell (by simp; omega) _
    clear hb y0 y1 y2 y3 y4 yf x0 x1 x2 x3 x4 xf p0 p1 p2 p3 pf HXX HRR HBW HKK hrd
    have hszx : w2.heap.size < ((w'.setCell ⟨w2.heap.size, 0, none⟩ (.int .i64 z)).setCell ⟨w2.heap.size, 2, none⟩ (.int .u64 (aftF S l).toNat)).heap.size := by simpa using hsw
    generalize (w'.setCell ⟨w2.heap.size, 0, none⟩ (.int .i64 z)).setCell ⟨w2.heap.size, 2, none⟩ (.int .u64 (aftF S l).toNat) = W4 at *
    have HXB := Lib.hid hxb
    have HRB := Lib.hid hrb
    have HBB := Lib.hid hbb
    clear hxb hrb hbb
    go_wp2_with fail
    refine (sealed_any w2.heap.size z m (aftF S l).toNat se key _ HXB.out).mono ?_
    rintro e w5 ⟨rfl, hb5⟩
    obtain ⟨q0, q1, q2, q3, qf⟩ := (hb5.box HRB.out (by omega) (by omega)).c4
    have HB5 := Lib.hid (HBB.out.trans (hb5.below (b := w.heap.size) (by omega) (by omega)))
    clear hb5
    go_wp2
    refine bodyPost_ret (v := .tuple #[.agg #[.int .i64 z, .int .i64 m, .int .u64 (aftF S l).toNat, .int .u64 (sealI z m (aftF S l).toNat key)], .int .i64 0]) (by simp [results, Try.results44, go_sem, q0, q1, q2, q3]) rfl ?_
    unfold KPost
    rw [HAF.out]
    exact ⟨rfl, (((HB5.out.setCell (by simp) _).setCell (by simp) _).setCell (by simp) _).setCell (by simp) _⟩
  · subst hnk
    have hl0 : 0 < l.length := by rw [← HN.out]; omega
    have hlk : k < l.length := by rw [← HN.out]; omega
    obtain ⟨b, off, rfl, hbs, hc0, hc1, hc2⟩ := chg_at HRD.out (Below.refl _ _) hl0
    obtain ⟨b', off', hA', _, hd0, hd1, hd2⟩ := chg_at HRD.out (Below.refl _ _) hlk
    injection hA' with hA'
    injection hA' with hA1 hA2
    subst hA1; subst hA2
    rw [List.getElem?_eq_getElem hl0] at hx
    injection hx with hx
    rw [List.getElem?_eq_getElem hlk] at hd
    injection hd with hd
    rw [hx] at hc0 hc1 hc2
    rw [hd] at hd0 hd1 hd2
    clear hx hd hc1 hc2 hd1 hd2
    rcases x with ⟨t1, g1, o1⟩
    rcases d with ⟨t2, g2, o2⟩
    simp only [Nat.zero_mul, Nat.add_zero] at hc0 hd0 hcs
    have e1 : IntKind.i64.wrap ((k : Int) + 1 - 1) = (k : Int) := by rw [show (k : Int) + 1 - 1 = k from by omega]; exact IntWalk.i64_in _ (by omega)
    have hx1 : (k : Int) + 1 - 1 = k := by omega
    rcases hcs with ⟨h1, hfit⟩ | ⟨h1, h2, hfit⟩ | ⟨h1, h2, hfit⟩
    · rw [hfit] at HAF
      have h1' : decide (t1 ≤ a) = true := by simpa using h1
      clear hfit
      go_wp2_with (go_at_call 57; refine (isTime_any _ _).mono ?_; rintro e w' ⟨rfl, rfl⟩)
      go_quiet (fail)
      go_wp2
      refine bodyPost_ret (v := .tuple #[.agg #[.int .i64 0, .int .i64 0, .int .u64 0, .int .u64 0], .int .i64 101]) (by simp [results, Try.results44, go_sem, q0, q1, q2, q3]) rfl ?_
      unfold KPost
      rw [HAF.out]
      exact ⟨rfl, ((((below_drewN HB.out _).setCell (by simp) _).setCell (by simp) _).setCell (by simp) _).setCell (by simp) _⟩
    · rw [hfit] at HAF
      have h1' : decide (t1 ≤ a) = false := by simpa using h1
      have h2' : decide (z < t2) = true := by simpa using h2
      clear hfit
      go_wp2_with (go_at_call 57; refine (isTime_any _ _).mono ?_; rintro e w' ⟨rfl, rfl⟩)
      go_quiet (fail)
      go_wp2
      refine bodyPost_ret (v := .tuple #[.agg #[.int .i64 0, .int .i64 0, .int .u64 0, .int .u64 0], .int .i64 101]) (by simp [results, Try.results44, go_sem, q0, q1, q2, q3]) rfl ?_
      unfold KPost
      rw [HAF.out]
      exact ⟨rfl, ((((below_drewN HB.out _).setCell (by simp) _).setCell (by simp) _).setCell (by simp) _).setCell (by simp) _⟩
    · rw [hfit] at HAF
      have h1' : decide (t1 ≤ a) = false := by simpa using h1
      have h2' : decide (z < t2) = false := by simpa using h2
      clear hfit
      go_wp2_with (go_at_call 57; refine (isTime_any _ _).mono ?_; rintro e w' ⟨rfl, rfl⟩)
      go_quiet (fail)
      go_wp2
      have hkk : Box ((w2.drewN nq).alloc (.cells #[.int .i64 a, .int .i64 m, .int .u64 S.toNat, .int .u64 se, .int .u64 key] 121)) w.heap.size [.int .i64 a, .int .i64 m, .int .u64 S.toNat, .int .u64 se] := (HK.out.drewN nq).alloc _
      have hrr : Box ((w2.drewN nq).alloc (.cells #[.int .i64 a, .int .i64 m, .int .u64 S.toNat, .int .u64 se, .int .u64 key] 121)) (w.heap.size + 1) [.int .i64 0, .int .i64 0, .int .u64 0, .int .u64 0] := (HX.out.drewN nq).alloc _
      have hxx : Box ((w2.drewN nq).alloc (.cells #[.int .i64 a, .int .i64 m, .int .u64 S.toNat, .int .u64 se, .int .u64 key] 121)) w2.heap.size [.int .i64 a, .int .i64 m, .int .u64 S.toNat, .int .u64 se, .int .u64 key] := Box.new (w2.drewN nq) 121 #[.int .i64 a, .int .i64 m, .int .u64 S.toNat, .int .u64 se, .int .u64 key]
      have hbw : Below w.heap.size w ((w2.drewN nq).alloc (.cells #[.int .i64 a, .int .i64 m, .int .u64 S.toNat, .int .u64 se, .int .u64 key] 121)) := below_more (below_drewN HB.out nq) _
      clear p0 p1 p2 p3 pf q0 q1 q2 q3 qf HK HX HB HRD hc0 hd0
      generalize (w2.drewN nq).alloc (.cells #[.int .i64 a, .int .i64 m, .int .u64 S.toNat, .int .u64 se, .int .u64 key] 121) = W at hkk hrr hxx hbw ⊢
      have hrd := Lib.hid (HR.out.below hbw)
      have hs3 := hxx.2.2
      obtain ⟨p0, p1, p2, p3, pf⟩ := hkk.c4
      have hwne : W.heap.size ≠ w.heap.size := by omega
      have HKK := Lib.hid hkk
      have HRR := Lib.hid hrr
      have HXX := Lib.hid hxx
      have HBW := Lib.hid hbw
      have hxw : w2.heap.size < W.heap.size := hs3
      obtain ⟨x0, x1, x2, x3, x4, xf⟩ := hxx.c5
      have hne1 : w2.heap.size ≠ w.heap.size := by omega
      have hne2 : w.heap.size ≠ w2.heap.size := by omega
      clear hkk hrr hxx hbw
      go_region_held3 (fun w' => w'.cell? ⟨w.heap.size, 2, none⟩ = some (.int .u64 S.toNat)) (first | go_keep | exact (hb.cell (p := ⟨w.heap.size, 2, none⟩) (by simp; omega)).trans (by simp [*])) (first | (go_at_call 78; refine (values_any _ _ _ _).mono ?_; rintro e w' ⟨rfl, rfl⟩) | (go_at_call 58; refine (after_any S 84 #[.pointer (some ⟨W.heap.size, 0, none⟩)] l l.length _ (enters_of Try.func84 (by kernel_rfl) rfl) (vals_stops 9 (by omega) W.heap.size _ l _ c _ (by exact hrd.out.below (below_alloc W _).drew) HN.out hl (chkC_p HV.out) (by simp) (by simp [go_sem]))).mono ?_; rintro e w' ⟨rfl, hb⟩; obtain ⟨y0, y1, y2, y3, y4, yf⟩ := (Box.ext (w := (W.alloc (.cells #[.slice (some ⟨b, off, none⟩) (k + 1) c] 44)).drew) (HXX.out.alloc _) hb).c5; have hsw : w2.heap.size < w'.heap.size := (by have := hb.size; simp at this; omega)))
      have hxb : Box ((w'.setCell ⟨w2.heap.size, 0, none⟩ (.int .i64 z)).setCell ⟨w2.heap.size, 2, none⟩ (.int .u64 (aftF S l).toNat)) w2.heap.size [.int .i64 z, .int .i64 m, .int .u64 (aftF S l).toNat, .int .u64 se, .int .u64 key] :=
        ((Box.ext (w := (W.alloc (.cells #[.slice (some ⟨b, off, none⟩) (k + 1) c] 44)).drew) (HXX.out.alloc _) hb).set (i := 0) _ (by simp)).set (i := 2) _ (by simp)
      have hrb : Box ((w'.setCell ⟨w2.heap.size, 0, none⟩ (.int .i64 z)).setCell ⟨w2.heap.size, 2, none⟩ (.int .u64 (aftF S l).toNat)) (w.heap.size + 1) [.int .i64 0, .int .i64 0, .int .u64 0, .int .u64 0] :=
        ((Box.ext (w := (W.alloc (.cells #[.slice (some ⟨b, off, none⟩) (k + 1) c] 44)).drew) (HRR.out.alloc _) hb).far _ (by omega)).far _ (by omega)
      have hbb : Below w.heap.size w ((w'.setCell ⟨w2.heap.size, 0, none⟩ (.int .i64 z)).setCell ⟨w2.heap.size, 2, none⟩ (.int .u64 (aftF S l).toNat)) :=
        ((below_step HBW.out (below_step (below_alloc W _).drew hb)).setCell (by simp; omega) _).setCell (by simp; omega) _
      clear hb y0 y1 y2 y3 y4 yf x0 x1 x2 x3 x4 xf p0 p1 p2 p3 pf HXX HRR HBW HKK hrd
      have hszx : w2.heap.size < ((w'.setCell ⟨w2.heap.size, 0, none⟩ (.int .i64 z)).setCell ⟨w2.heap.size, 2, none⟩ (.int .u64 (aftF S l).toNat)).heap.size := by simpa using hsw
      generalize (w'.setCell ⟨w2.heap.size, 0, none⟩ (.int .i64 z)).setCell ⟨w2.heap.size, 2, none⟩ (.int .u64 (aftF S l).toNat) = W4 at *
      have HXB := Lib.hid hxb
      have HRB := Lib.hid hrb
      have HBB := Lib.hid hbb
      clear hxb hrb hbb
      go_wp2_with fail
      refine (sealed_any w2.heap.size z m (aftF S l).toNat se key _ HXB.out).mono ?_
      rintro e w5 ⟨rfl, hb5⟩
      obtain ⟨q0, q1, q2, q3, qf⟩ := (hb5.box HRB.out (by omega) (by omega)).c4
      have HB5 := Lib.hid (HBB.out.trans (hb5.below (b := w.heap.size) (by omega) (by omega)))
      clear hb5
      go_wp2
      refine bodyPost_ret (v := .tuple #[.agg #[.int .i64 z, .int .i64 m, .int .u64 (aftF S l).toNat, .int .u64 (sealI z m (aftF S l).toNat key)], .int .i64 0]) (by simp [results, Try.results44, go_sem, q0, q1, q2, q3]) rfl ?_
      unfold KPost
      rw [HAF.out]
      exact ⟨rfl, (((HB5.out.setCell (by simp) _).setCell (by simp) _).setCell (by simp) _).setCell (by simp) _⟩
end Go.Proofs.Ytalmeokljamhdaa
