/- Queues: the reference's Join and Call. -/
import Derived.Test.YtalmeokljamhdaaQe
namespace Go.Proofs.Ytalmeokljamhdaa
open Go.RowKit

set_option maxRecDepth 100000 in
set_option maxHeartbeats 1000000 in
theorem refJoin_any (lim next : Int) (A : Option Addr) (l : List Gst) (n c : Nat) (fast : Bool) (w : World) (hr : Rd w A (flat genc l)) (hn : n = l.length) (hl : n ≤ 1000) :
    Calls Try.prog 21 #[.agg #[.int .i64 lim, .int .i64 next, .slice A n c], .bool fast] w (QPost (joinF lim next l fast) w) := by
  have HR := Lib.hid hr
  have HN := Lib.hid hn
  clear hr hn
  obtain ⟨i0, hi0, hz0, hz1, hz2⟩ := info_parts info41
  have HI := Lib.hid hi0
  have HZ0 := Lib.hid hz0
  have HZ1 := Lib.hid hz1
  have HZ2 := Lib.hid hz2
  clear hi0 hz0 hz1 hz2
  cases hv : chkQ lim next l
  · have hj : Hid (joinF lim next l fast = (0, 0, [], 0, 8)) := by unfold Hid joinF; rw [if_pos hv]
    have HV := Lib.hid hv
    clear hv
    go_enter Try.func21, Try.ntmps21
    go_wp2_with fail
    refine (validQueue_any _ _ _ l _ _ _ (HR.out.below (below_more (below_alloc _ _) _)) HN.out hl).mono ?_
    rintro e w1 ⟨rfl, hb1⟩
    rw [HV.out]
    have hx1 := ((Box.new w 24 _).alloc _).ext hb1
    have hx2 := (Box.new _ 24 _).ext hb1
    obtain ⟨p0, p1, p2, pf⟩ := hx1.c3
    obtain ⟨q0, q1, q2, qf⟩ := hx2.c3
    simp only [World.size_alloc] at q0 q1 q2 qf
    have HB := Lib.hid (below_step (below_more (below_alloc w _) _) hb1)
    have hs1 : w.heap.size + 1 < w1.heap.size := by have := hb1.size; simp only [World.size_alloc] at this; omega
    have HX := Lib.hid (HR.out.below (below_step (below_more (below_alloc w _) _) hb1))
    clear hb1
    go_wp2
    refine bodyPost_ret (v := .tuple #[.agg #[.int .i64 0, .int .i64 0, .slice none 0 0], .int .i64 0, .int .i64 8]) (by simp [results, Try.results21, go_sem, q0, q1, q2]) rfl ?_
    unfold QPost
    rw [hj.out]
    exact ⟨none, 0, rfl, Ow.nil _ _ _, ((HB.out.setCell (by simp) _).setCell (by simp) _).setCell (by simp) _⟩
  · obtain ⟨hn20, hnx⟩ : n ≤ 20 ∧ (0 ≤ next ∧ next ≤ 1099511627776) := by
      rw [HN.out]
      simp only [chkQ, Bool.and_eq_true, decide_eq_true_eq, inB] at hv
      omega
    by_cases hfull : n = 20 ∨ next = 1099511627776
    · have hj : Hid (joinF lim next l fast = (0, 0, [], 0, 9)) := by
        unfold Hid joinF; rw [if_neg (by rw [hv]; simp), if_pos (by rw [← HN.out]; exact hfull)]
      have HV := Lib.hid hv
      clear hv
      have hrest : n = 20 ∨ ((n == 20) = false ∧ next = 1099511627776) := by
        by_cases h : n = 20
        · exact .inl h
        · exact .inr ⟨by simpa using h, hfull.resolve_left h⟩
      clear hfull
      rcases hrest with hx | ⟨hx1, hx⟩
      · have h20 : ((n : Int) == 20) = true := by simp; omega
        have HH := Lib.hid hx
        clear hx
        go_enter Try.func21, Try.ntmps21
        go_wp2_with fail
        refine (validQueue_any _ _ _ l _ _ _ (HR.out.below (below_more (below_alloc _ _) _)) HN.out hl).mono ?_
        rintro e w1 ⟨rfl, hb1⟩
        rw [HV.out]
        have hx1 := ((Box.new w 24 _).alloc _).ext hb1
        have hx2 := (Box.new _ 24 _).ext hb1
        obtain ⟨p0, p1, p2, pf⟩ := hx1.c3
        obtain ⟨q0, q1, q2, qf⟩ := hx2.c3
        simp only [World.size_alloc] at q0 q1 q2 qf
        have HB := Lib.hid (below_step (below_more (below_alloc w _) _) hb1)
        have hs1 : w.heap.size + 1 < w1.heap.size := by have := hb1.size; simp only [World.size_alloc] at this; omega
        have HX := Lib.hid (HR.out.below (below_step (below_more (below_alloc w _) _) hb1))
        clear hb1
        go_wp2
        refine bodyPost_ret (v := .tuple #[.agg #[.int .i64 0, .int .i64 0, .slice none 0 0], .int .i64 0, .int .i64 9]) (by simp [results, Try.results21, go_sem, q0, q1, q2]) rfl ?_
        unfold QPost
        rw [hj.out]
        exact ⟨none, 0, rfl, Ow.nil _ _ _, ((HB.out.setCell (by simp) _).setCell (by simp) _).setCell (by simp) _⟩
      · have h20 : ((n : Int) == 20) = false := by simp at hx1 ⊢; omega
        have hnm : (next == 1099511627776) = true := by simpa using hx
        have HH := Lib.hid hx
        clear hx hx1
        go_enter Try.func21, Try.ntmps21
        go_wp2_with fail
        refine (validQueue_any _ _ _ l _ _ _ (HR.out.below (below_more (below_alloc _ _) _)) HN.out hl).mono ?_
        rintro e w1 ⟨rfl, hb1⟩
        rw [HV.out]
        have hx1 := ((Box.new w 24 _).alloc _).ext hb1
        have hx2 := (Box.new _ 24 _).ext hb1
        obtain ⟨p0, p1, p2, pf⟩ := hx1.c3
        obtain ⟨q0, q1, q2, qf⟩ := hx2.c3
        simp only [World.size_alloc] at q0 q1 q2 qf
        have HB := Lib.hid (below_step (below_more (below_alloc w _) _) hb1)
        have hs1 : w.heap.size + 1 < w1.heap.size := by have := hb1.size; simp only [World.size_alloc] at this; omega
        have HX := Lib.hid (HR.out.below (below_step (below_more (below_alloc w _) _) hb1))
        clear hb1
        go_wp2
        refine bodyPost_ret (v := .tuple #[.agg #[.int .i64 0, .int .i64 0, .slice none 0 0], .int .i64 0, .int .i64 9]) (by simp [results, Try.results21, go_sem, q0, q1, q2]) rfl ?_
        unfold QPost
        rw [hj.out]
        exact ⟨none, 0, rfl, Ow.nil _ _ _, ((HB.out.setCell (by simp) _).setCell (by simp) _).setCell (by simp) _⟩
    · have hj : Hid (joinF lim next l fast = (lim, next + 1, l ++ [⟨next, fast, 0⟩], next, 0)) := by
        unfold Hid joinF; rw [if_neg (by rw [hv]; simp), if_neg (by rw [← HN.out]; exact hfull)]
      have HV := Lib.hid hv
      clear hv
      have h20 : ((n : Int) == 20) = false := by simp; omega
      have hnm : (next == 1099511627776) = false := by simp; omega
      have hlt : next < 1099511627776 := by omega
      clear hfull
      go_enter Try.func21, Try.ntmps21
      go_wp2_with fail
      refine (validQueue_any _ _ _ l _ _ _ (HR.out.below (below_more (below_alloc _ _) _)) HN.out hl).mono ?_
      rintro e w1 ⟨rfl, hb1⟩
      rw [HV.out]
      have hx1 := ((Box.new w 24 _).alloc _).ext hb1
      have hx2 := (Box.new _ 24 _).ext hb1
      obtain ⟨p0, p1, p2, pf⟩ := hx1.c3
      obtain ⟨q0, q1, q2, qf⟩ := hx2.c3
      simp only [World.size_alloc] at q0 q1 q2 qf
      have HB := Lib.hid (below_step (below_more (below_alloc w _) _) hb1)
      have hs1 : w.heap.size + 1 < w1.heap.size := by have := hb1.size; simp only [World.size_alloc] at this; omega
      have HX := Lib.hid (HR.out.below (below_step (below_more (below_alloc w _) _) hb1))
      clear hb1
      have HX1 := Lib.hid hx1
      have HX2 := Lib.hid hx2
      clear hx1 hx2
      go_wp2_with fail
      refine (twin_any _ _ _ l _ _ _ HX.out HN.out hl).mono ?_
      rintro e w2 ⟨v, rfl, hown2, hb2⟩
      obtain ⟨A2, c2, rfl, _⟩ := rd_of_own hown2
      rw [← HN.out] at hown2 ⊢
      have hx1 := HX1.out.ext hb2
      have hx2 := HX2.out.ext hb2
      have hs2 : w1.heap.size ≤ w2.heap.size := hb2.size
      have HB2 := Lib.hid (below_step HB.out hb2)
      have HO2 := Lib.hid hown2
      clear p0 p1 p2 pf q0 q1 q2 qf HX1 HX2 hb2 hown2
      obtain ⟨p0, p1, p2, pf⟩ := hx1.c3
      have HX1 := Lib.hid ((((hx1.set (i := 0) (.int .i64 lim) (by simp)).set (i := 1) (.int .i64 next) (by simp)).set (i := 2) (.slice A2 n c2) (by simp)))
      have HX2 := Lib.hid (((hx2.far (B' := w.heap.size) (i := 0) (.int .i64 lim) (by simp)).far (B' := w.heap.size) (i := 1) (.int .i64 next) (by simp)).far (B' := w.heap.size) (i := 2) (.slice A2 n c2) (by simp))
      have HO3 := Lib.hid (own_set (b := w.heap.size) (o := 2) (own_set (b := w.heap.size) (o := 1) (own_set (b := w.heap.size) (o := 0) HO2.out (by omega) (.int .i64 lim)) (by omega) (.int .i64 next)) (by omega) (.slice A2 n c2))
      have HB3 := Lib.hid (((HB2.out.setCell (p := ⟨w.heap.size, 0, none⟩) (by simp) (.int .i64 lim)).setCell (p := ⟨w.heap.size, 1, none⟩) (by simp) (.int .i64 next)).setCell (p := ⟨w.heap.size, 2, none⟩) (by simp) (.slice A2 n c2))
      clear hx1 hx2
      go_upto_region 6 with fail
      generalize hW3 : (((w2.setCell ⟨w.heap.size, 0, none⟩ (.int .i64 lim)).setCell ⟨w.heap.size, 1, none⟩ (.int .i64 next)).setCell ⟨w.heap.size, 2, none⟩ (.slice A2 n c2)) = w3 at HX1 HX2 HO3 HB3 ⊢
      have hs3 : w3.heap.size = w2.heap.size := by rw [← hW3]; simp
      have hs3' : w1.heap.size ≤ w3.heap.size := by omega
      clear hW3 p0 p1 p2 pf hs3
      have hx1 : Box w3 w.heap.size [.int .i64 lim, .int .i64 next, .slice A2 n c2] := HX1.out
      obtain ⟨p0, p1, p2, pf⟩ := hx1.c3
      have HX1' := Lib.hid hx1
      clear HX1 hx1
      go_wp2_with (at_builtin; refine wpList_app_own _ rfl (.tmp 27) (.tmp 31) _ rfl w1.heap.size 41 i0 _ 3 24 Try.underlying22 HI.out HZ0.out HZ1.out HZ2.out rfl (by omega) (.slice A2 n c2) n (flat genc l) rfl _ 1 1 (genc ⟨next, fast, 0⟩) rfl (n + 1) (flat genc (l ++ [⟨next, fast, 0⟩])) ?_ rfl ?h0 ?h1 ?h3 rfl ?h4 ?h5 ?h6 ?h7; intro A1 c1 w4 hown4 hb4 _ _; have hz : w1.heap.size ≤ w4.heap.size := (by have := hb4.size; simp only [World.size_alloc] at this; omega); have HO4 := Lib.hid hown4; have HB4 := Lib.hid hb4; obtain ⟨s0, s1, s2, sf⟩ := ((HX1'.out.alloc _).below hb4 (by omega)).c3; obtain ⟨r0, r1, r2, rf⟩ := ((HX2.out.alloc _).below hb4 (by simp only [World.size_alloc]; omega)).c3; simp only [World.size_alloc] at r0 r1 r2 rf; clear hown4 hb4 p0 p1 p2 pf; have hs5 : w.heap.size < w4.heap.size := (by omega); have hs6 : w.heap.size + 1 < w4.heap.size := (by omega))
      case h0 => rw [flat_append, flat_cons, flat_nil, List.append_nil]
      case h1 => exact own_ext HO3.out (below_alloc _ _)
      case h3 => exact .inr ⟨w3.heap.size, 0, rfl, by simp, fun j u hu => by rw [Nat.zero_add, World.cell?_alloc_new]; simpa [genc] using hu⟩
      case h4 => intro u hu; exact genc_one [⟨next, fast, 0⟩] u (by simpa [flat] using hu)
      case h5 => simp only [maxLen]; omega
      case h6 => omega
      case h7 => simp only [World.size_alloc]; omega
      refine bodyPost_ret (v := .tuple #[.agg #[.int .i64 lim, .int .i64 (next + 1), .slice A1 (n + 1) c1], .int .i64 next, .int .i64 0]) (by simp [results, Try.results21, go_sem, r0, r1, r2]) rfl ?_
      unfold QPost
      rw [hj.out]
      have ho := own_set (b := w.heap.size + 1) (o := 2) (own_set (b := w.heap.size + 1) (o := 1) (own_set (b := w.heap.size + 1) (o := 0) (own_set (b := w.heap.size) (o := 1) (own_set (b := w.heap.size) (o := 2) HO4.out (by omega) (.slice A1 (n + 1) c1)) (by omega) (.int .i64 (next + 1))) (by omega) (.int .i64 lim)) (by omega) (.int .i64 (next + 1))) (by omega) (.slice A1 (n + 1) c1)
      obtain ⟨A', c', he, how⟩ := rd_of_own ho
      injection he with he1 _ he3
      subst he1
      have hfin := (below_more HB3.out _).trans (HB4.out.mono (by omega))
      refine ⟨A1, c1, by simp [HN.out], how.mono (by omega), ?_⟩
      exact ((((hfin.setCell (by simp) _).setCell (by simp) _).setCell (by simp) _).setCell (by simp) _).setCell (by simp) _
theorem rd_new (w : World) (cs : Array Value) (t : TypeId) (n : Nat) (hn : n = w.heap.size) : Rd (w.alloc (.cells cs t)) (some ⟨n, 0, none⟩) cs.toList := by
  subst hn
  exact .inr ⟨_, 0, rfl, by simp, fun j u hu => by rw [Nat.zero_add, World.cell?_alloc_new]; simpa using hu⟩
theorem nextGo_lt (lim : Int) : ∀ (l : List Gst) (j : Nat), 0 < l.length → nextGo lim j l < j + l.length := by
  intro l
  induction l with
  | nil => intro j h; simp at h
  | cons x l ih =>
    intro j _
    rw [nextGo]
    simp only [List.length_cons]
    split
    · omega
    · split
      · omega
      · rcases Nat.eq_zero_or_pos l.length with h | h
        · have : l = [] := List.eq_nil_of_length_eq_zero h
          subst this
          simp [nextGo]
        · have := ih (j + 1) h
          omega
def outL (l : List Gst) (p k : Nat) : List Gst := ((l.take k).take p).map inc ++ (l.take k).drop (p + 1)
theorem outL_zero (l : List Gst) (p : Nat) : outL l p 0 = [] := by simp [outL]
theorem outL_lt {l : List Gst} {p k : Nat} (hk : k < l.length) (h : k < p) : outL l p (k + 1) = outL l p k ++ [inc l[k]] := by
  unfold outL
  rw [List.take_of_length_le (i := p) (by simp; omega), List.take_of_length_le (i := p) (by simp; omega), List.drop_eq_nil_of_le (by simp; omega), List.drop_eq_nil_of_le (by simp; omega), List.take_succ_eq_append_getElem hk, List.map_append, List.append_nil, List.append_nil]
  rfl
theorem outL_eq {l : List Gst} {p k : Nat} (hk : k < l.length) (h : k = p) : outL l p (k + 1) = outL l p k := by
  subst h
  unfold outL
  rw [List.drop_eq_nil_of_le (by simp; omega), List.drop_eq_nil_of_le (by simp; omega), List.take_take, List.take_take]
  congr 3
  omega
theorem outL_gt {l : List Gst} {p k : Nat} (hk : k < l.length) (h : p < k) : outL l p (k + 1) = outL l p k ++ [l[k]] := by
  unfold outL
  rw [List.take_take, List.take_take, Nat.min_eq_left (by omega), Nat.min_eq_left (by omega), List.take_succ_eq_append_getElem hk, List.drop_append_of_le_length (by simp; omega), List.append_assoc]
theorem outL_all {l : List Gst} {p k : Nat} (hk : l.length ≤ k) : outL l p k = (l.take p).map inc ++ l.drop (p + 1) := by
  unfold outL
  rw [List.take_of_length_le hk]
theorem outL_len (l : List Gst) (p k : Nat) : (outL l p k).length ≤ k := by
  unfold outL
  simp
  omega

set_option maxRecDepth 100000 in
set_option maxHeartbeats 4000000 in
theorem refCall_any (lim next : Int) (A : Option Addr) (l : List Gst) (n c : Nat) (w : World) (hr : Rd w A (flat genc l)) (hn : n = l.length) (hl : n ≤ 1000) :
    Calls Try.prog 23 #[.agg #[.int .i64 lim, .int .i64 next, .slice A n c]] w (QPost (callF lim next l) w) := by
  have HR := Lib.hid hr
  have HN := Lib.hid hn
  clear hr hn
  obtain ⟨i0, hi0, hz0, hz1, hz2⟩ := info_parts info41
  have HI := Lib.hid hi0
  have HZ0 := Lib.hid hz0
  have HZ1 := Lib.hid hz1
  have HZ2 := Lib.hid hz2
  clear hi0 hz0 hz1 hz2
  cases hv : chkQ lim next l
  · have hj : Hid (callF lim next l = (0, 0, [], 0, 8)) := by unfold Hid callF; rw [if_pos hv]
    have HV := Lib.hid hv
    clear hv
    go_enter Try.func23, Try.ntmps23
    go_wp2_with fail
    refine (validQueue_any _ _ _ l _ _ _ (HR.out.below (below_more (below_alloc _ _) _)) HN.out hl).mono ?_
    rintro e w1 ⟨rfl, hb1⟩
    rw [HV.out]
    have hx1 := ((Box.new w 24 _).alloc _).ext hb1
    have hx2 := (Box.new _ 24 _).ext hb1
    obtain ⟨p0, p1, p2, pf⟩ := hx1.c3
    obtain ⟨q0, q1, q2, qf⟩ := hx2.c3
    simp only [World.size_alloc] at q0 q1 q2 qf
    have HB := Lib.hid (below_step (below_more (below_alloc w _) _) hb1)
    have hs1 : w.heap.size + 1 < w1.heap.size := by have := hb1.size; simp only [World.size_alloc] at this; omega
    have HX := Lib.hid (HR.out.below (below_step (below_more (below_alloc w _) _) hb1))
    clear hb1
    go_wp2
    refine bodyPost_ret (v := .tuple #[.agg #[.int .i64 0, .int .i64 0, .slice none 0 0], .int .i64 0, .int .i64 8]) (by simp [results, Try.results23, go_sem, q0, q1, q2]) rfl ?_
    unfold QPost
    rw [hj.out]
    exact ⟨none, 0, rfl, Ow.nil _ _ _, ((HB.out.setCell (by simp) _).setCell (by simp) _).setCell (by simp) _⟩
  · by_cases h0 : 0 < n
    · have HV := Lib.hid hv
      clear hv
      obtain ⟨p, hp⟩ : ∃ p, p = nextGo lim 0 l := ⟨_, rfl⟩
      have hpn : p < n := by have := nextGo_lt lim l 0 (by rw [← HN.out]; exact h0); rw [← HN.out] at this; omega
      have HP := Lib.hid hp
      clear hp
      have hn0 : ((n : Int) == 0) = false := by simp; omega
      go_enter Try.func23, Try.ntmps23
      go_wp2_with fail
      refine (validQueue_any _ _ _ l _ _ _ (HR.out.below (below_more (below_alloc _ _) _)) HN.out hl).mono ?_
      rintro e w1 ⟨rfl, hb1⟩
      rw [HV.out]
      have hx1 := ((Box.new w 24 _).alloc _).ext hb1
      have hx2 := (Box.new _ 24 _).ext hb1
      obtain ⟨p0, p1, p2, pf⟩ := hx1.c3
      obtain ⟨q0, q1, q2, qf⟩ := hx2.c3
      simp only [World.size_alloc] at q0 q1 q2 qf
      have HB := Lib.hid (below_step (below_more (below_alloc w _) _) hb1)
      have hs1 : w.heap.size + 1 < w1.heap.size := by have := hb1.size; simp only [World.size_alloc] at this; omega
      have HX := Lib.hid (HR.out.below (below_step (below_more (below_alloc w _) _) hb1))
      clear hb1
      have HX1 := Lib.hid hx1
      have HX2 := Lib.hid hx2
      clear hx1 hx2
      go_wp2_with fail
      refine (next_any _ _ _ l _ _ _ HX.out HN.out hl).mono ?_
      rintro e w2 ⟨rfl, hb2⟩
      rw [← HP.out]
      have hx1 := HX1.out.ext hb2
      have HX2' := Lib.hid (HX2.out.ext hb2)
      have hs2 : w.heap.size + 1 < w2.heap.size := by have := hb2.size; omega
      have HB2 := Lib.hid (below_step HB.out hb2)
      have HY := Lib.hid (HX.out.below hb2)
      clear p0 p1 p2 pf q0 q1 q2 qf HX1 HX2 hb2 HX
      obtain ⟨p0, p1, p2, pf⟩ := hx1.c3
      have HX1 := Lib.hid hx1
      clear hx1
      have hlt' : p < l.length := by rw [← HN.out]; exact hpn
      obtain ⟨b, off, rfl, hbs, hc0, hc1, hc2⟩ := gst_at HY.out (Below.refl _ _) hlt'
      have HG : Hid (l[p]? = some l[p]) := List.getElem?_eq_getElem hlt'
      generalize l[p] = gp at hc0 hc1 hc2 HG
      rcases gp with ⟨gi, gf, gs⟩
      simp only at hc0 hc1 hc2
      have hpn' : (p : Int) < n := by omega
      go_wp2
      clear hc0 hc1 hc2 p0 p1 p2 pf
      go_loopw [7, 8] (fun u7 u8 wr => ∃ (k m c1 : Nat) (A1 : Option Addr), k ≤ n ∧ m ≤ k ∧ u7 = .slice A1 m c1 ∧ u8 = .int .i64 k ∧ Hid (wr.ownsRow w2.heap.size 41 3 (.slice A1 m c1) m (flat genc (outL l p k))) ∧ Below w2.heap.size w2 wr) (fun _ u8 _ => n - (intOf u8).toNat)
      case atStart => exact ⟨0, 0, 0, none, Nat.zero_le _, Nat.le_refl _, rfl, rfl, by rw [outL_zero]; exact World.ownsRow_nil _ _ _ _, Below.refl _ _⟩
      case round =>
        obtain ⟨k, m, c1, A1, hk, hm, rfl, rfl, ho, hb⟩ := hrel
        obtain ⟨p0, p1, p2, pf⟩ := (HX1.out.ext hb).c3
        have hsr : w2.heap.size ≤ wr.heap.size := hb.size
        have hsr' : w.heap.size < wr.heap.size := by omega
        by_cases hlt : k < n
        · have hkl : k < l.length := by rw [← HN.out]; exact hlt
          obtain ⟨b', off', hA', hbs', hc0, hc1, hc2⟩ := gst_at HY.out hb hkl
          injection hA' with hA'
          injection hA' with hA1 hA2
          subst hA1; subst hA2
          have hsk := chkQ_skips HV.out l[k] (List.getElem_mem hkl)
          have hkn : (k : Int) < n := by omega
          rcases Nat.lt_trichotomy k p with hkp | hkp | hkp
          · have hout := Lib.hid (outL_lt hkl hkp)
            generalize l[k] = g at hc0 hc1 hc2 hsk hout
            rcases g with ⟨xi, xf, xs⟩
            simp only at hc0 hc1 hc2 hsk
            have hne : ((k : Int) != p) = true := by simp; omega
            go_wp2_with (at_builtin; refine wpList_app_own _ rfl (.tmp 49) (.tmp 51) _ rfl w2.heap.size 41 i0 _ 3 24 Try.underlying22 HI.out HZ0.out HZ1.out HZ2.out rfl (by omega) (.slice A1 m c1) m (flat genc (outL l p k)) rfl _ 1 1 (genc ⟨xi, xf, xs + 1⟩) rfl (m + 1) (flat genc (outL l p (k + 1))) ?_ rfl ?h0 ?h1 ?h3 rfl ?h4 ?h5 ?h6 ?h7; intro A4 c4 w4 hown4 hb4 _ _; have HO4 := Lib.hid hown4; have HB4 := Lib.hid hb4; clear hown4 hb4)
            case h0 => rw [hout.out, flat_append, flat_cons, flat_nil, List.append_nil]; first | done | rfl
            case h1 => exact own_ext (own_ext ho.out (below_alloc _ _)) (below_alloc _ _)
            case h3 => exact rd_new _ _ _ _ (by simp only [World.size_alloc])
            case h4 => intro u hu; exact genc_one [⟨xi, xf, xs + 1⟩] u (by simpa [flat] using hu)
            case h5 => simp only [maxLen]; omega
            case h6 => omega
            case h7 => first | omega | (simp only [World.size_alloc]; omega)
            go_roundw
            case rel => exact ⟨k + 1, m + 1, c4, A4, by omega, by omega, rfl, by go_num, HO4.out, ((hb.alloc hb.size _).alloc (by simp only [World.size_alloc]; omega) _).trans HB4.out⟩
            case measure => simp [intOf]; omega
          · have hout := Lib.hid (outL_eq hkl hkp)
            subst hkp
            generalize l[k] = g at hc0 hc1 hc2 hsk
            rcases g with ⟨xi, xf, xs⟩
            simp only at hc0 hc1 hc2 hsk
            go_wp2
            go_roundw
            case rel => exact ⟨k + 1, m, c1, A1, by omega, by omega, rfl, by go_num, by rw [hout.out]; exact own_ext ho.out (below_alloc _ _), hb.alloc hb.size _⟩
            case measure => simp [intOf]; omega
          · have hout := Lib.hid (outL_gt hkl hkp)
            generalize l[k] = g at hc0 hc1 hc2 hsk hout
            rcases g with ⟨xi, xf, xs⟩
            simp only at hc0 hc1 hc2 hsk
            have hne : ((k : Int) != p) = true := by simp; omega
            go_wp2_with (at_builtin; refine wpList_app_own _ rfl (.tmp 49) (.tmp 51) _ rfl w2.heap.size 41 i0 _ 3 24 Try.underlying22 HI.out HZ0.out HZ1.out HZ2.out rfl (by omega) (.slice A1 m c1) m (flat genc (outL l p k)) rfl _ 1 1 (genc ⟨xi, xf, xs⟩) rfl (m + 1) (flat genc (outL l p (k + 1))) ?_ rfl ?h0 ?h1 ?h3 rfl ?h4 ?h5 ?h6 ?h7; intro A4 c4 w4 hown4 hb4 _ _; have HO4 := Lib.hid hown4; have HB4 := Lib.hid hb4; clear hown4 hb4)
            case h0 => rw [hout.out, flat_append, flat_cons, flat_nil, List.append_nil]; first | done | rfl
            case h1 => exact own_ext (own_ext ho.out (below_alloc _ _)) (below_alloc _ _)
            case h3 => exact rd_new _ _ _ _ (by simp only [World.size_alloc])
            case h4 => intro u hu; exact genc_one [⟨xi, xf, xs⟩] u (by simpa [flat] using hu)
            case h5 => simp only [maxLen]; omega
            case h6 => omega
            case h7 => first | omega | (simp only [World.size_alloc]; omega)
            go_roundw
            case rel => exact ⟨k + 1, m + 1, c4, A4, by omega, by omega, rfl, by go_num, HO4.out, ((hb.alloc hb.size _).alloc (by simp only [World.size_alloc]; omega) _).trans HB4.out⟩
            case measure => simp [intOf]; omega
        · have HO := Lib.hid ho.out
          rw [outL_all (by rw [← HN.out]; omega)] at HO
          obtain ⟨r0, r1, r2, rf⟩ := (HX2'.out.ext hb).c3
          simp only [World.size_alloc] at r0 r1 r2 rf
          have HM : Hid (m = ((l.take p).map inc ++ l.drop (p + 1)).length) := by
            have h1 := HO.out.1
            rw [flat_length genc 3 genc_len] at h1
            unfold Hid; omega
          have hfin := Lib.hid (below_step HB2.out hb)
          have hs9 : w.heap.size + 1 < wr.heap.size := by omega
          go_wp2
          refine bodyPost_ret (v := .tuple #[.agg #[.int .i64 lim, .int .i64 next, .slice A1 m c1], .int .i64 gi, .int .i64 0]) (by simp [results, Try.results23, go_sem, r0, r1, r2]) rfl ?_
          unfold QPost callF
          rw [if_neg (by rw [HV.out]; simp), if_neg (by rw [← HN.out]; omega), ← HP.out, HG.out]
          have ho := own_set (b := w.heap.size + 1) (o := 2) (own_set (b := w.heap.size + 1) (o := 1) (own_set (b := w.heap.size + 1) (o := 0) (own_set (b := w.heap.size) (o := 2) HO.out (by omega) (.slice A1 m c1)) (by omega) (.int .i64 lim)) (by omega) (.int .i64 next)) (by omega) (.slice A1 m c1)
          obtain ⟨A', c', he, how⟩ := rd_of_own ho
          injection he with he1 _ he3
          subst he1
          refine ⟨A1, c1, ?_, how.mono (by omega), ?_⟩
          · simp only []
            rw [← HM.out]
            rfl
          · exact (((hfin.out.setCell (by simp) _).setCell (by simp) _).setCell (by simp) _).setCell (by simp) _
    · have hj : Hid (callF lim next l = (0, 0, [], 0, 6)) := by unfold Hid callF; rw [if_neg (by rw [hv]; simp), if_pos (by rw [← HN.out]; omega)]
      have HV := Lib.hid hv
      have hn0 : ((n : Int) == 0) = true := by simp; omega
      clear hv
      go_enter Try.func23, Try.ntmps23
      go_wp2_with fail
      refine (validQueue_any _ _ _ l _ _ _ (HR.out.below (below_more (below_alloc _ _) _)) HN.out hl).mono ?_
      rintro e w1 ⟨rfl, hb1⟩
      rw [HV.out]
      have hx1 := ((Box.new w 24 _).alloc _).ext hb1
      have hx2 := (Box.new _ 24 _).ext hb1
      obtain ⟨p0, p1, p2, pf⟩ := hx1.c3
      obtain ⟨q0, q1, q2, qf⟩ := hx2.c3
      simp only [World.size_alloc] at q0 q1 q2 qf
      have HB := Lib.hid (below_step (below_more (below_alloc w _) _) hb1)
      have hs1 : w.heap.size + 1 < w1.heap.size := by have := hb1.size; simp only [World.size_alloc] at this; omega
      have HX := Lib.hid (HR.out.below (below_step (below_more (below_alloc w _) _) hb1))
      clear hb1
      go_wp2
      refine bodyPost_ret (v := .tuple #[.agg #[.int .i64 0, .int .i64 0, .slice none 0 0], .int .i64 0, .int .i64 6]) (by simp [results, Try.results23, go_sem, q0, q1, q2]) rfl ?_
      unfold QPost
      rw [hj.out]
      exact ⟨none, 0, rfl, Ow.nil _ _ _, ((HB.out.setCell (by simp) _).setCell (by simp) _).setCell (by simp) _⟩
end Go.Proofs.Ytalmeokljamhdaa
