/- Queues: the reference's check, new queues, comparison, and a queue in new memory. -/
import Derived.Test.YtalmeokljamhdaaQb
namespace Go.Proofs.Ytalmeokljamhdaa
open Go.RowKit

set_option maxHeartbeats 400000 in
theorem refCheckQueue_any (lim next : Int) (A : Option Addr) (l : List Gst) (n c : Nat) (w : World) (hr : Rd w A (flat genc l)) (hn : n = l.length) (hl : n ≤ 1000) :
    Calls Try.prog 26 #[.agg #[.int .i64 lim, .int .i64 next, .slice A n c]] w fun e w' => e = .returned (.int .i64 (errB (chkQ lim next l))) ∧ Below w.heap.size w w' := by
  have HR := Lib.hid hr
  have HN := Lib.hid hn
  clear hr hn
  cases hb : chkQ lim next l
  all_goals
    have HB := Lib.hid hb
    clear hb
    go_enter Try.func26, Try.ntmps26
    go_wp2_with fail
    refine (validQueue_any _ _ _ l _ _ _ (HR.out.below (below_alloc _ _)) HN.out hl).mono ?_
    rintro e w' ⟨rfl, hb⟩
    rw [HB.out]
    go_wp2
    go_ret
    exact ⟨rfl, below_step (below_alloc _ _) hb⟩

def newF (limit : Int) : Int × Int := if inB 0 8 limit then (limit, 0) else (0, 2)

theorem newF_no {limit : Int} (h : inB 0 8 limit = false) : newF limit = (0, 2) := by simp [newF, h]
theorem newF_yes {limit : Int} (h : inB 0 8 limit = true) : newF limit = (limit, 0) := by simp [newF, h]
set_option maxHeartbeats 400000 in
theorem newQueue_any (limit : Int) (w : World) :
    Calls Try.prog 18 #[.int .i64 limit] w fun e w' => e = .returned (.tuple #[.agg #[.int .i64 (newF limit).1, .int .i64 0, .slice none 0 0], .int .i64 (newF limit).2]) ∧ Below w.heap.size w w' := by
  cases hb : inB 0 8 limit
  · have HN := Lib.hid (newF_no hb)
    go_enter Try.func18, Try.ntmps18
    go_wp2_with (go_at_call 50; refine (from_any _ _ _ _).mono ?_; rintro e w' ⟨rfl, rfl⟩)
    refine bodyPost_ret (v := .tuple #[.agg #[.int .i64 0, .int .i64 0, .slice none 0 0], .int .i64 2]) (by simp [results, Try.results18, go_sem]) rfl ⟨?_, below_alloc _ _⟩
    rw [HN.out]
  · have HN := Lib.hid (newF_yes hb)
    go_enter Try.func18, Try.ntmps18
    go_wp2_with (go_at_call 50; refine (from_any _ _ _ _).mono ?_; rintro e w' ⟨rfl, rfl⟩)
    refine bodyPost_ret (v := .tuple #[.agg #[.int .i64 limit, .int .i64 0, .slice none 0 0], .int .i64 0]) (by simp [results, Try.results18, go_sem]) rfl ⟨?_, below_alloc _ _⟩
    rw [HN.out]
set_option maxHeartbeats 400000 in
theorem refNewQueue_any (limit : Int) (w : World) :
    Calls Try.prog 19 #[.int .i64 limit] w fun e w' => e = .returned (.tuple #[.agg #[.int .i64 (newF limit).1, .int .i64 0, .slice none 0 0], .int .i64 (newF limit).2]) ∧ Below w.heap.size w w' := by
  cases hb : inB 0 8 limit
  · have HN := Lib.hid (newF_no hb)
    go_enter Try.func19, Try.ntmps19
    go_wp2_with (go_at_call 51; refine (within_any _ _ _ _).mono ?_; rintro e w' ⟨rfl, rfl⟩)
    refine bodyPost_ret (v := .tuple #[.agg #[.int .i64 0, .int .i64 0, .slice none 0 0], .int .i64 2]) (by simp [results, Try.results19, go_sem]) rfl ⟨?_, below_alloc _ _⟩
    rw [HN.out]
  · have HN := Lib.hid (newF_yes hb)
    go_enter Try.func19, Try.ntmps19
    go_wp2_with (go_at_call 51; refine (within_any _ _ _ _).mono ?_; rintro e w' ⟨rfl, rfl⟩)
    refine bodyPost_ret (v := .tuple #[.agg #[.int .i64 limit, .int .i64 0, .slice none 0 0], .int .i64 0]) (by simp [results, Try.results19, go_sem]) rfl ⟨?_, below_alloc _ _⟩
    rw [HN.out]

set_option maxHeartbeats 1000000 in
theorem sameQueue_true (lim next : Int) (A A' : Option Addr) (l : List Gst) (n c c' : Nat) (w : World) (hr : Rd w A (flat genc l)) (hr' : Rd w A' (flat genc l)) (hn : n = l.length) (hl : n ≤ 1000) :
    Calls Try.prog 24 #[.agg #[.int .i64 lim, .int .i64 next, .slice A n c], .agg #[.int .i64 lim, .int .i64 next, .slice A' n c']] w fun e w' => e = .returned (.bool true) ∧ Below w.heap.size w w' := by
  have HR := Lib.hid hr
  have HR' := Lib.hid hr'
  have HN := Lib.hid hn
  clear hr hr' hn
  go_enter Try.func24, Try.ntmps24
  go_wp2
  have qb : Below w.heap.size w ((w.alloc (Obj.cells #[Value.int IntKind.i64 lim, Value.int IntKind.i64 next, Value.slice A n c] 24)).alloc (Obj.cells #[Value.int IntKind.i64 lim, Value.int IntKind.i64 next, Value.slice A' n c'] 24)) := (below_alloc _ _).alloc (by simp) _
  go_loopw [5] (fun u5 wr => ∃ (k m : Nat), k ≤ n ∧ u5 = .int .i64 k ∧ wr = ((w.alloc (Obj.cells #[Value.int IntKind.i64 lim, Value.int IntKind.i64 next, Value.slice A n c] 24)).alloc (Obj.cells #[Value.int IntKind.i64 lim, Value.int IntKind.i64 next, Value.slice A' n c'] 24)).drewN m) (fun u5 _ => n - (intOf u5).toNat)
  case atStart => exact ⟨0, 0, Nat.zero_le _, rfl, rfl⟩
  case round =>
    obtain ⟨k, m, hk, rfl, rfl⟩ := hrel
    by_cases hlt : k < n
    · have hlt' : k < l.length := by rw [← HN.out]; exact hlt
      obtain ⟨b, off, rfl, hbs, hc0, hc1, hc2⟩ := gst_at HR.out (Below.refl _ _) hlt'
      obtain ⟨b', off', rfl, hbs', hc0', hc1', hc2'⟩ := gst_at HR'.out (Below.refl _ _) hlt'
      generalize l[k] = g at hc0 hc1 hc2 hc0' hc1' hc2'
      rcases g with ⟨gi, gf, gs⟩
      simp only at hc0 hc1 hc2 hc0' hc1' hc2'
      have hk' : (k : Int) < n := by omega
      have hbs1 : b < w.heap.size + 1 := by omega
      have hbs1' : b' < w.heap.size + 1 := by omega
      go_wp2
      go_quiet (fail)
      go_wp2
      go_roundw
      case rel => exact ⟨k + 1, m + nq, by omega, by go_num, rfl⟩
      case measure => simp [intOf]; omega
    · go_wp2
      go_ret
      exact ⟨rfl, below_drewN qb _⟩
theorem info41 : (Try.prog.info? 41).map (fun i => (i.zero, i.size, i.bytes)) = some (some (.agg #[.int .i64 0, .bool false, .int .i64 0]), 3, 24) := by kernel_rfl
theorem genc_one (l : List Gst) : ∀ u ∈ flat genc l, u.oneCell' = true := by
  intro u hu
  simp only [flat, List.mem_flatMap, genc] at hu
  obtain ⟨g, _, hg⟩ := hu
  simp at hg
  rcases hg with rfl | rfl | rfl <;> rfl
def TwinPost (lim next : Int) (l : List Gst) (w : World) (e : Ending) (w' : World) : Prop :=
  ∃ v, e = .returned (.agg #[.int .i64 lim, .int .i64 next, v]) ∧ w'.ownsRow w.heap.size 41 3 v l.length (flat genc l) ∧ Below w.heap.size w w'

set_option maxRecDepth 100000 in
set_option maxHeartbeats 1000000 in
theorem twin_any (lim next : Int) (A : Option Addr) (l : List Gst) (n c : Nat) (w : World) (hr : Rd w A (flat genc l)) (hn : n = l.length) (hl : n ≤ 1000) :
    Calls Try.prog 17 #[.agg #[.int .i64 lim, .int .i64 next, .slice A n c]] w (TwinPost lim next l w) := by
  have HR := Lib.hid hr
  have HN := Lib.hid hn
  clear hr hn
  obtain ⟨i0, hi0, hz0, hz1, hz2⟩ := info_parts info41
  have HI := Lib.hid hi0
  have HZ0 := Lib.hid hz0
  have HZ1 := Lib.hid hz1
  have HZ2 := Lib.hid hz2
  clear hi0 hz0 hz1 hz2
  go_enter Try.func17, Try.ntmps17
  go_wp2_with (at_builtin; refine wpList_app_own _ rfl (.tmp 3) (.tmp 5) _ rfl (w.heap.size + 2) 41 i0 _ 3 24 Try.underlying22 HI.out HZ0.out HZ1.out HZ2.out rfl (by omega) (.slice (some ⟨w.heap.size + 2, 0, none⟩) 0 0) 0 [] rfl A n c (flat genc l) rfl n (flat genc l) ?_ (by omega) rfl ?h1 ?h2 ?h3 (genc_one l) ?h4 ?h5 ?h6; intro A1 c1 w1 hown1 hb1 _ _; have HO := Lib.hid hown1; have HB := Lib.hid hb1; have hz : w.heap.size + 3 ≤ w1.heap.size := (by have := hb1.size; simp only [World.size_alloc] at this; omega); obtain ⟨p0, p1, p2, pf⟩ := ((((Box.new w 24 _).alloc _).alloc _).below hb1 (by omega)).c3;  obtain ⟨q0, q1, q2, qf⟩ := (((Box.new _ 24 _).alloc _).below hb1 (by simp)).c3; simp only [World.size_alloc] at q0 q1 q2 qf; have hs0 : w.heap.size < w1.heap.size := (by omega); have hs1 : w.heap.size + 1 < w1.heap.size := (by omega); clear hown1 hb1)
  case h1 => exact own_empty_new _ _ _ _ _ (by simp only [World.size_alloc]) (Nat.le_refl _)
  case h2 => exact HR.out.below (below_more (below_more (below_alloc _ _) _) _)
  case h3 => rw [flat_length genc 3 genc_len, HN.out]
  case h4 => simp only [maxLen]; omega
  case h5 => omega
  case h6 => simp only [World.size_alloc]; omega
  refine bodyPost_ret (v := .agg #[.int .i64 lim, .int .i64 next, .slice A1 n c1]) (by simp [results, Try.results17, go_sem, q0, q1, q2]) rfl ⟨_, rfl, ?_, ?_⟩
  · rw [← HN.out]
    exact own_mono (own_set (own_set (own_set (own_set HO.out (by omega) _) (by omega) _) (by omega) _) (by omega) _) (by omega)
  · have fin := ((below_more (below_more (below_alloc w _) _) _).trans (HB.out.mono (by omega)))
    exact (((fin.setCell (by simp) _).setCell (by simp) _).setCell (by simp) _).setCell (by simp) _
end Go.Proofs.Ytalmeokljamhdaa
