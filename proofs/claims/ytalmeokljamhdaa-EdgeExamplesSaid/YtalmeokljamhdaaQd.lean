/- Queues: who is next, and a guest that joins. -/
import Derived.Test.YtalmeokljamhdaaQc
namespace Go.Proofs.Ytalmeokljamhdaa
open Go.RowKit

def nextGo (lim : Int) : Nat → List Gst → Nat
  | _, [] => 0
  | i, g :: l => if g.fast then i else if g.skips = lim then 0 else nextGo lim (i + 1) l
theorem nextGo_fast {lim : Int} {i : Nat} {g : Gst} {t l : List Gst} (ht : t = g :: l) (h : g.fast = true) : nextGo lim i t = i := by subst ht; rw [nextGo, if_pos h]
theorem nextGo_lim {lim : Int} {i : Nat} {g : Gst} {t l : List Gst} (ht : t = g :: l) (h : g.fast = false) (h2 : g.skips = lim) : nextGo lim i t = 0 := by subst ht; rw [nextGo, if_neg (by rw [h]; simp), if_pos h2]
theorem nextGo_on {lim : Int} {i : Nat} {g : Gst} {t l : List Gst} (ht : t = g :: l) (h : g.fast = false) (h2 : g.skips ≠ lim) : nextGo lim i t = nextGo lim (i + 1) l := by subst ht; rw [nextGo, if_neg (by rw [h]; simp), if_neg h2]

set_option maxHeartbeats 1000000 in
theorem next_any (lim next : Int) (A : Option Addr) (l : List Gst) (n c : Nat) (w : World) (hr : Rd w A (flat genc l)) (hn : n = l.length) (hl : n ≤ 1000) :
    Calls Try.prog 56 #[.agg #[.int .i64 lim, .int .i64 next, .slice A n c]] w fun e w' => e = .returned (.int .i64 (nextGo lim 0 l)) ∧ Below w.heap.size w w' := by
  have HR := Lib.hid hr
  have HN := Lib.hid hn
  clear hr hn
  go_enter Try.func56, Try.ntmps56
  go_wp2
  have qb := below_alloc w (Obj.cells #[Value.int IntKind.i64 lim, Value.int IntKind.i64 next, Value.slice A n c] 24)
  go_loopw [3] (fun u3 wr => ∃ (k m : Nat), k ≤ n ∧ u3 = .int .i64 k ∧ wr = (w.alloc (Obj.cells #[Value.int IntKind.i64 lim, Value.int IntKind.i64 next, Value.slice A n c] 24)).drewN m ∧ Hid (nextGo lim 0 l = nextGo lim k (l.drop k))) (fun u3 _ => n - (intOf u3).toNat)
  case atStart => exact ⟨0, 0, Nat.zero_le _, rfl, rfl, rfl⟩
  case round =>
    obtain ⟨k, m, hk, rfl, rfl, hq⟩ := hrel
    by_cases hlt : k < n
    · have hlt' : k < l.length := by rw [← HN.out]; exact hlt
      obtain ⟨b, off, rfl, hbs, hc0, hc1, hc2⟩ := gst_at HR.out (Below.refl _ _) hlt'
      have HD := Lib.hid (List.drop_eq_getElem_cons hlt')
      generalize l[k] = g at hc0 hc1 hc2 HD
      rcases g with ⟨gi, gf, gs⟩
      simp only at hc0 hc1 hc2
      have hbs1 : b < w.heap.size + 1 := by omega
      have hk' : (k : Int) < n := by omega
      cases gf
      · by_cases hs : gs = lim
        · have hfin := Lib.hid (nextGo_lim (i := k) HD.out rfl hs)
          subst hs
          go_wp2
          go_quiet (fail)
          go_wp2
          go_ret
          exact ⟨by rw [hq.out, hfin.out]; rfl, below_drewN (below_drewN qb _) _⟩
        · have hs' : (gs == lim) = false := by simpa using hs
          have hfin := Lib.hid (nextGo_on (i := k) HD.out rfl hs)
          go_wp2
          go_quiet (fail)
          go_wp2
          go_roundw
          case rel => exact ⟨k + 1, m + nq, by omega, by go_num, rfl, hq.out.trans hfin.out⟩
          case measure => simp [intOf]; omega
      · have hfin := Lib.hid (nextGo_fast (lim := lim) (i := k) HD.out rfl)
        go_wp2
        go_ret
        exact ⟨by rw [hq.out, hfin.out]; rfl, below_drewN qb _⟩
    · have hfin : Hid (nextGo lim k (l.drop k) = 0) := by
        unfold Hid; rw [List.drop_eq_nil_of_le (by rw [← HN.out]; omega)]; rfl
      go_wp2
      go_ret
      exact ⟨by rw [hq.out, hfin.out]; rfl, below_drewN qb _⟩

def hit (lim : Int) (g : Gst) : Bool := g.fast || g.skips == lim
def idxGo (lim : Int) : Nat → List Gst → Int
  | _, [] => -1
  | i, g :: l => if hit lim g then i else idxGo lim (i + 1) l
theorem idxGo_hit {lim : Int} {i : Nat} {g : Gst} {t l : List Gst} (ht : t = g :: l) (h : hit lim g = true) : idxGo lim i t = i := by subst ht; rw [idxGo, if_pos h]
theorem idxGo_on {lim : Int} {i : Nat} {g : Gst} {t l : List Gst} (ht : t = g :: l) (h : hit lim g = false) : idxGo lim i t = idxGo lim (i + 1) l := by subst ht; rw [idxGo, if_neg (by rw [h]; simp)]

set_option maxHeartbeats 400000 in
theorem call1_any (gi : Int) (gf : Bool) (gs lim : Int) (B : Nat) (w : World) (hB : B < w.heap.size) (hc : w.cell? ⟨B, 0, none⟩ = some (.int .i64 lim)) :
    Calls Try.prog 54 #[.agg #[.int .i64 gi, .bool gf, .int .i64 gs], .pointer (some ⟨B, 0, none⟩)] w fun e w' => e = .returned (.bool (hit lim ⟨gi, gf, gs⟩)) ∧ Below w.heap.size w w' := by
  cases gf
  all_goals
    go_enter Try.func54, Try.ntmps54
    go_wp2
    go_ret
    exact ⟨by simp [hit], below_alloc _ _⟩

set_option maxHeartbeats 1000000 in
theorem indexFunc_any (lim : Int) (A : Option Addr) (l : List Gst) (n c B : Nat) (w : World) (hr : Rd w A (flat genc l)) (hn : n = l.length) (hl : n ≤ 1000) (hB : B < w.heap.size) (hc : w.cell? ⟨B, 0, none⟩ = some (.int .i64 lim)) :
    Calls Try.prog 53 #[.slice A n c, .func (.func 54) #[] #[.pointer (some ⟨B, 0, none⟩)]] w fun e w' => e = .returned (.int .i64 (idxGo lim 0 l)) ∧ Below w.heap.size w w' := by
  have HR := Lib.hid hr
  have HN := Lib.hid hn
  clear hr hn
  go_enter Try.func53, Try.ntmps53
  go_wp2
  go_loopw [8] (fun u8 wr => ∃ (k : Nat), k ≤ n ∧ u8 = .int .i64 k ∧ Below w.heap.size w wr ∧ Hid (idxGo lim 0 l = idxGo lim k (l.drop k))) (fun u8 _ => n - (intOf u8).toNat)
  case atStart => exact ⟨0, Nat.zero_le _, rfl, Below.refl _ _, rfl⟩
  case round =>
    obtain ⟨k, hk, rfl, hb, hq⟩ := hrel
    by_cases hlt : k < n
    · have hlt' : k < l.length := by rw [← HN.out]; exact hlt
      obtain ⟨b, off, rfl, hbs, hc0, hc1, hc2⟩ := gst_at HR.out hb hlt'
      have HD := Lib.hid (List.drop_eq_getElem_cons hlt')
      generalize l[k] = g at hc0 hc1 hc2 HD
      rcases g with ⟨gi, gf, gs⟩
      simp only at hc0 hc1 hc2
      have hcr : wr.cell? ⟨B, 0, none⟩ = some (.int .i64 lim) := (hb.cell (p := ⟨B, 0, none⟩) hB).trans hc
      cases hh : hit lim ⟨gi, gf, gs⟩
      · have hfin := Lib.hid (idxGo_on (i := k) HD.out hh)
        go_wp2_with (go_at_call 54; refine (call1_any gi gf gs lim B _ (by have := hb.size; omega) hcr).mono ?_; rintro e w1 ⟨rfl, hb1⟩)
        go_roundw
        case rel => exact ⟨k + 1, by omega, by go_num, below_step hb hb1, hq.out.trans hfin.out⟩
        case measure => simp [intOf]; omega
      · have hfin := Lib.hid (idxGo_hit (i := k) HD.out hh)
        go_wp2_with (go_at_call 54; refine (call1_any gi gf gs lim B _ (by have := hb.size; omega) hcr).mono ?_; rintro e w1 ⟨rfl, hb1⟩)
        go_ret
        exact ⟨by rw [hq.out, hfin.out]; rfl, below_step hb hb1⟩
    · have hfin : Hid (idxGo lim k (l.drop k) = -1) := by
        unfold Hid; rw [List.drop_eq_nil_of_le (by rw [← HN.out]; omega)]; rfl
      go_wp2
      go_ret
      exact ⟨by rw [hq.out, hfin.out]; rfl, hb⟩
def RowPost (l : List Gst) (w : World) (e : Ending) (w' : World) : Prop :=
  ∃ A c, e = .returned (.slice A l.length c) ∧ w'.ownsRow w.heap.size 41 3 (.slice A l.length c) l.length (flat genc l) ∧ Below w.heap.size w w'

set_option maxRecDepth 100000 in
set_option maxHeartbeats 1000000 in
theorem clone_any (b : Addr) (l : List Gst) (n c : Nat) (w : World) (hr : Rd w (some b) (flat genc l)) (hn : n = l.length) (hl : n ≤ 1000) :
    Calls Try.prog 55 #[.slice (some b) n c] w (RowPost l w) := by
  have HR := Lib.hid hr
  have HN := Lib.hid hn
  clear hr hn
  obtain ⟨i0, hi0, hz0, hz1, hz2⟩ := info_parts info41
  have HI := Lib.hid hi0
  have HZ0 := Lib.hid hz0
  have HZ1 := Lib.hid hz1
  have HZ2 := Lib.hid hz2
  clear hi0 hz0 hz1 hz2
  have heq := fun (W : World) (a : Option Addr) (n c : Nat) => Lib.run_eql_slice_nil (P := Try.prog) W 22 41 a n c 0 0 Try.underlying22
  go_enter Try.func55, Try.ntmps55
  go_wp2_with (at_builtin; refine wpList_app_own _ rfl (.tmp 5) (.tmp 6) _ rfl w.heap.size 41 i0 _ 3 24 Try.underlying22 HI.out HZ0.out HZ1.out HZ2.out rfl (by omega) (.slice (some ⟨w.heap.size, 0, none⟩) 0 0) 0 [] rfl (some b) n c (flat genc l) rfl n (flat genc l) ?_ (by omega) rfl ?h1 ?h2 ?h3 (genc_one l) ?h4 ?h5 ?h6; intro A1 c1 w1 hown1 hb1 _ _; have HO := Lib.hid hown1; have HB := Lib.hid hb1; clear hown1 hb1)
  case h1 => exact own_empty_new _ _ _ _ _ rfl (Nat.le_refl _)
  case h2 => exact HR.out.below (below_alloc _ _)
  case h3 => rw [flat_length genc 3 genc_len, HN.out]
  case h4 => simp only [maxLen]; omega
  case h5 => omega
  case h6 => simp only [World.size_alloc]; omega
  go_ret
  have h0 := HN.out
  subst h0
  exact ⟨A1, c1, rfl, HO.out, (below_alloc w _).trans (HB.out.mono (Nat.le_refl _))⟩

def joinF (lim next : Int) (l : List Gst) (fast : Bool) : Int × Int × List Gst × Int × Int :=
  if chkQ lim next l = false then (0, 0, [], 0, 8) else if l.length = 20 ∨ next = 1099511627776 then (0, 0, [], 0, 9) else (lim, next + 1, l ++ [⟨next, fast, 0⟩], next, 0)

def QPost (r : Int × Int × List Gst × Int × Int) (w : World) (e : Ending) (w' : World) : Prop :=
  ∃ A c, e = .returned (.tuple #[.agg #[.int .i64 r.1, .int .i64 r.2.1, .slice A r.2.2.1.length c], .int .i64 r.2.2.2.1, .int .i64 r.2.2.2.2]) ∧ Ow w' w.heap.size A (flat genc r.2.2.1) ∧ Below w.heap.size w w'
/-- The same, with room for what is in it. -/
def QPostC (r : Int × Int × List Gst × Int × Int) (w : World) (e : Ending) (w' : World) : Prop :=
  ∃ A c, r.2.2.1.length ≤ c ∧ e = .returned (.tuple #[.agg #[.int .i64 r.1, .int .i64 r.2.1, .slice A r.2.2.1.length c], .int .i64 r.2.2.2.1, .int .i64 r.2.2.2.2]) ∧ Ow w' w.heap.size A (flat genc r.2.2.1) ∧ Below w.heap.size w w'
theorem QPostC.post {r : Int × Int × List Gst × Int × Int} {w : World} {e : Ending} {w' : World} (h : QPostC r w e w') : QPost r w e w' := by
  obtain ⟨A, c, _, h1, h2, h3⟩ := h
  exact ⟨A, c, h1, h2, h3⟩

set_option maxRecDepth 100000 in
set_option maxHeartbeats 1000000 in
theorem join_cap (lim next : Int) (A : Option Addr) (l : List Gst) (n c : Nat) (fast : Bool) (w : World) (hr : Rd w A (flat genc l)) (hn : n = l.length) (hl : n ≤ 1000) (hcap : n ≤ c) :
    Calls Try.prog 20 #[.agg #[.int .i64 lim, .int .i64 next, .slice A n c], .bool fast] w (QPostC (joinF lim next l fast) w) := by
  have HR := Lib.hid hr
  have HN := Lib.hid hn
  clear hr hn
  obtain ⟨i0, hi0, hz0, hz1, hz2⟩ := info_parts info41
  have HI := Lib.hid hi0
  have HZ0 := Lib.hid hz0
  have HZ1 := Lib.hid hz1
  have HZ2 := Lib.hid hz2
  clear hi0 hz0 hz1 hz2
  cases hv : chkQ lim next l
  · have hj : Hid (joinF lim next l fast = (0, 0, [], 0, 8)) := by unfold Hid joinF; rw [if_pos hv]
    have HV := Lib.hid hv
    clear hv
    go_enter Try.func20, Try.ntmps20
    go_wp2_with fail
    refine (checkQueue_any _ _ _ l _ _ _ (HR.out.below (below_more (below_alloc _ _) _)) HN.out hl).mono ?_
    rintro e w1 ⟨rfl, hb1⟩
    rw [HV.out]
    obtain ⟨p0, p1, p2, pf⟩ := (((Box.new w 24 _).alloc _).ext hb1).c3
    obtain ⟨q0, q1, q2, qf⟩ := ((Box.new _ 24 _).ext hb1).c3
    simp only [World.size_alloc] at q0 q1 q2 qf
    have HB := Lib.hid (below_step (below_more (below_alloc w _) _) hb1)
    have hs1 : w.heap.size + 1 < w1.heap.size := by have := hb1.size; simp only [World.size_alloc] at this; omega
    have HX := Lib.hid (HR.out.below (below_step (below_more (below_alloc w _) _) hb1))
    clear hb1
    simp only [errB, Bool.false_eq_true, if_false]
    go_wp2
    refine bodyPost_ret (v := .tuple #[.agg #[.int .i64 0, .int .i64 0, .slice none 0 0], .int .i64 0, .int .i64 8]) (by simp [results, Try.results20, go_sem, q0, q1, q2]) rfl ?_
    unfold QPostC
    rw [hj.out]
    exact ⟨none, 0, Nat.le_refl _, rfl, Ow.nil _ _ _, ((HB.out.setCell (by simp) _).setCell (by simp) _).setCell (by simp) _⟩
  · obtain ⟨hn20, hnx⟩ : n ≤ 20 ∧ (0 ≤ next ∧ next ≤ 1099511627776) := by
      rw [HN.out]
      simp only [chkQ, Bool.and_eq_true, decide_eq_true_eq, inB] at hv
      omega
    by_cases hfull : n = 20 ∨ next = 1099511627776
    · have hj : Hid (joinF lim next l fast = (0, 0, [], 0, 9)) := by
        unfold Hid joinF; rw [if_neg (by rw [hv]; simp), if_pos (by rw [← HN.out]; exact hfull)]
      have HV := Lib.hid hv
      clear hv
      have hrest : n = 20 ∨ ((n == 20) = false ∧ next = 1099511627776) := by
        by_cases h : n = 20
        · exact .inl h
        · exact .inr ⟨by simpa using h, hfull.resolve_left h⟩
      clear hfull
      rcases hrest with hx | ⟨hx1, hx⟩
      · have h20 : ((n : Int) == 20) = true := by simp; omega
        have HH := Lib.hid hx
        clear hx
        go_enter Try.func20, Try.ntmps20
        go_wp2_with fail
        refine (checkQueue_any _ _ _ l _ _ _ (HR.out.below (below_more (below_alloc _ _) _)) HN.out hl).mono ?_
        rintro e w1 ⟨rfl, hb1⟩
        rw [HV.out]
        obtain ⟨p0, p1, p2, pf⟩ := (((Box.new w 24 _).alloc _).ext hb1).c3
        obtain ⟨q0, q1, q2, qf⟩ := ((Box.new _ 24 _).ext hb1).c3
        simp only [World.size_alloc] at q0 q1 q2 qf
        have HB := Lib.hid (below_step (below_more (below_alloc w _) _) hb1)
        have hs1 : w.heap.size + 1 < w1.heap.size := by have := hb1.size; simp only [World.size_alloc] at this; omega
        have HX := Lib.hid (HR.out.below (below_step (below_more (below_alloc w _) _) hb1))
        clear hb1
        simp only [errB, if_true]
        go_wp2
        refine bodyPost_ret (v := .tuple #[.agg #[.int .i64 0, .int .i64 0, .slice none 0 0], .int .i64 0, .int .i64 9]) (by simp [results, Try.results20, go_sem, q0, q1, q2]) rfl ?_
        unfold QPostC
        rw [hj.out]
        exact ⟨none, 0, Nat.le_refl _, rfl, Ow.nil _ _ _, ((HB.out.setCell (by simp) _).setCell (by simp) _).setCell (by simp) _⟩
      · have h20 : ((n : Int) == 20) = false := by simp at hx1 ⊢; omega
        have hnm : (next == 1099511627776) = true := by simpa using hx
        have HH := Lib.hid hx
        clear hx hx1
        go_enter Try.func20, Try.ntmps20
        go_wp2_with fail
        refine (checkQueue_any _ _ _ l _ _ _ (HR.out.below (below_more (below_alloc _ _) _)) HN.out hl).mono ?_
        rintro e w1 ⟨rfl, hb1⟩
        rw [HV.out]
        obtain ⟨p0, p1, p2, pf⟩ := (((Box.new w 24 _).alloc _).ext hb1).c3
        obtain ⟨q0, q1, q2, qf⟩ := ((Box.new _ 24 _).ext hb1).c3
        simp only [World.size_alloc] at q0 q1 q2 qf
        have HB := Lib.hid (below_step (below_more (below_alloc w _) _) hb1)
        have hs1 : w.heap.size + 1 < w1.heap.size := by have := hb1.size; simp only [World.size_alloc] at this; omega
        have HX := Lib.hid (HR.out.below (below_step (below_more (below_alloc w _) _) hb1))
        clear hb1
        simp only [errB, if_true]
        go_wp2
        refine bodyPost_ret (v := .tuple #[.agg #[.int .i64 0, .int .i64 0, .slice none 0 0], .int .i64 0, .int .i64 9]) (by simp [results, Try.results20, go_sem, q0, q1, q2]) rfl ?_
        unfold QPostC
        rw [hj.out]
        exact ⟨none, 0, Nat.le_refl _, rfl, Ow.nil _ _ _, ((HB.out.setCell (by simp) _).setCell (by simp) _).setCell (by simp) _⟩
    · have hj : Hid (joinF lim next l fast = (lim, next + 1, l ++ [⟨next, fast, 0⟩], next, 0)) := by
        unfold Hid joinF; rw [if_neg (by rw [hv]; simp), if_neg (by rw [← HN.out]; exact hfull)]
      have HV := Lib.hid hv
      clear hv
      have h20 : ((n : Int) == 20) = false := by simp; omega
      have hnm : (next == 1099511627776) = false := by simp; omega
      have hlt : next < 1099511627776 := by omega
      clear hfull
      go_enter Try.func20, Try.ntmps20
      go_wp2_with fail
      refine (checkQueue_any _ _ _ l _ _ _ (HR.out.below (below_more (below_alloc _ _) _)) HN.out hl).mono ?_
      rintro e w1 ⟨rfl, hb1⟩
      rw [HV.out]
      obtain ⟨p0, p1, p2, pf⟩ := (((Box.new w 24 _).alloc _).ext hb1).c3
      obtain ⟨q0, q1, q2, qf⟩ := ((Box.new _ 24 _).ext hb1).c3
      simp only [World.size_alloc] at q0 q1 q2 qf
      have HB := Lib.hid (below_step (below_more (below_alloc w _) _) hb1)
      have hs1 : w.heap.size + 1 < w1.heap.size := by have := hb1.size; simp only [World.size_alloc] at this; omega
      have HX := Lib.hid (HR.out.below (below_step (below_more (below_alloc w _) _) hb1))
      clear hb1
      simp only [errB, if_true]
      go_wp2_with (at_builtin; refine wpList_app_full _ rfl (.tmp 35) (.tmp 39) _ rfl w.heap.size 41 i0 _ 3 24 Try.underlying22 HI.out HZ0.out HZ1.out HZ2.out rfl (by omega) A n (flat genc l) rfl _ 1 1 (genc ⟨next, fast, 0⟩) rfl (n + 1) (flat genc (l ++ [⟨next, fast, 0⟩])) ?_ rfl ?h0 ?h1 ?h2 ?h3 rfl ?h4 ?h5 ?h6; intro A1 c1 w2 hfa; have hz : w1.heap.size + 1 ≤ w2.heap.size := (by have := hfa.1.size; simp only [World.size_alloc] at this; omega); have HF := Lib.hid hfa; have hu0 := (World.cell?_alloc_lt w1 (Obj.cells #[Value.int IntKind.i64 next, Value.bool fast, Value.int IntKind.i64 0] 41) ⟨w.heap.size, 0, none⟩ (by simp only; omega)).trans p0; have hbx : Box w1 w.heap.size [.int .i64 lim, .int .i64 next, .slice A n c] := ⟨by rintro (_ | _ | _ | i) u hu <;> simp at hu <;> subst hu <;> assumption, pf, by omega⟩; have hby : Box w1 (w.heap.size + 1) [.int .i64 0, .int .i64 0, .slice none 0 0] := ⟨by rintro (_ | _ | _ | i) u hu <;> simp at hu <;> subst hu <;> assumption, qf, by omega⟩; obtain ⟨s0, s1, s2, sf⟩ := ((hbx.alloc _).ext hfa.1).c3; obtain ⟨r0, r1, r2, rf⟩ := ((hby.alloc _).ext hfa.1).c3; clear hfa hu0 hbx hby p0 p1 p2 pf q0 q1 q2 qf; have hs3 : w.heap.size < w2.heap.size := (by omega); have hs4 : w.heap.size + 1 < w2.heap.size := (by omega))
      case h0 => rw [flat_append, flat_cons, flat_nil, List.append_nil]
      case h1 => exact HX.out.below (below_alloc _ _)
      case h2 => rw [flat_length genc 3 genc_len, HN.out]
      case h3 => exact .inr ⟨w1.heap.size, 0, rfl, by simp, fun j u hu => by rw [Nat.zero_add, World.cell?_alloc_new]; simpa [genc] using hu⟩
      case h4 => intro u hu; exact genc_one [⟨next, fast, 0⟩] u (by simpa [flat] using hu)
      case h5 => simp only [maxLen]; omega
      case h6 => omega
      refine bodyPost_ret (v := .tuple #[.agg #[.int .i64 lim, .int .i64 (next + 1), .slice A1 (n + 1) c1], .int .i64 next, .int .i64 0]) (by simp [results, Try.results20, go_sem, r0, r1, r2]) rfl ?_
      unfold QPostC
      rw [hj.out]
      have ho := HF.out.2.2.2.1 (by omega)
      simp only [World.size_alloc] at ho
      have ho := own_set (b := w.heap.size + 1) (o := 2) (own_set (b := w.heap.size + 1) (o := 1) (own_set (b := w.heap.size + 1) (o := 0) (own_set (b := w.heap.size) (o := 1) (own_set (b := w.heap.size) (o := 2) ho (by omega) (.slice A1 (n + 1) c1)) (by omega) (.int .i64 (next + 1))) (by omega) (.int .i64 lim)) (by omega) (.int .i64 (next + 1))) (by omega) (.slice A1 (n + 1) c1)
      obtain ⟨A', c', he, how⟩ := rd_of_own ho
      injection he with he1 _ he3
      subst he1
      have hfin := below_step HB.out (below_step (below_alloc _ _) HF.out.1)
      refine ⟨A1, c1, by have := HF.out.2.2.2.2; simp; rw [← HN.out]; exact this, by simp [HN.out], how.mono (by omega), ?_⟩
      exact ((((hfin.setCell (by simp) _).setCell (by simp) _).setCell (by simp) _).setCell (by simp) _).setCell (by simp) _
theorem join_any (lim next : Int) (A : Option Addr) (l : List Gst) (n c : Nat) (fast : Bool) (w : World) (hr : Rd w A (flat genc l)) (hn : n = l.length) (hl : n ≤ 1000) (hcap : n ≤ c) :
    Calls Try.prog 20 #[.agg #[.int .i64 lim, .int .i64 next, .slice A n c], .bool fast] w (QPost (joinF lim next l fast) w) := (join_cap lim next A l n c fast w hr hn hl hcap).mono fun _ _ h => h.post
end Go.Proofs.Ytalmeokljamhdaa
