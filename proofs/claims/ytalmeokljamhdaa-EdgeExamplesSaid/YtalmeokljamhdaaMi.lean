/- Copies: a copy of the list, in the program and in the reference. -/
import Derived.Test.YtalmeokljamhdaaMf
namespace Go.Proofs.Ytalmeokljamhdaa
open Go.RowKit

theorem BelX.below {B X b : Nat} {w w' : World} (h : BelX B X w w') (hb : b ≤ B) (hx : b ≤ X) : Below b w w' := ⟨h.os, h.tape, h.output, h.size, fun k hk => h.block k (by omega) (by omega)⟩
theorem BelX.box {B X C : Nat} {w w' : World} {cs : List Value} (h : BelX B X w w') (hb : Box w C cs) (hC : C < B) (hx : C ≠ X) : Box w' C cs :=
  ⟨fun i u hu => (h.cell (p := ⟨C, i, none⟩) hC hx).trans (hb.1 i u hu), fun i => (World.frozen?_of_block (w := w) (a := ⟨C, i, none⟩) (h.block C hC hx)).trans (hb.2.1 i), by have := h.size; have := hb.2.2; omega⟩
theorem BelX.high {B X : Nat} {a w : World} (h : BelX B X a w) {b o : Nat} (hb : B ≤ b) (u : Value) : BelX B X a (w.setCell ⟨b, o, none⟩ u) :=
  ⟨h.os, h.tape, h.output, by simpa using h.size, fun k hk hx => (Below.heap_setCell w ⟨b, o, none⟩ u k (by simp only; omega)).trans (h.block k hk hx)⟩

set_option maxHeartbeats 1000000 in
theorem sealed_any (B : Nat) (a m s se key : Int) (w : World) (hbx : Box w B [.int .i64 a, .int .i64 m, .int .u64 s, .int .u64 se, .int .u64 key]) :
    Calls Try.prog 75 #[.pointer (some ⟨B, 0, none⟩), .func (.func 76) #[.pointer (some ⟨B, 0, none⟩)] #[]] w fun e w' => e = .returned (.agg #[.int .i64 a, .int .i64 m, .int .u64 s, .int .u64 (sealI a m s key)]) ∧ BelX w.heap.size B w w' := by
  have hlt := hbx.2.2
  have HBX := Lib.hid hbx
  clear hbx
  go_enter Try.func75, Try.ntmps75
  go_wp2_with fail
  refine (seal_any B a m s se key _ (HBX.out.alloc _)).mono ?_
  rintro e w1 ⟨rfl, hb1⟩
  obtain ⟨p0, p1, p2, p3, p4, pf⟩ := ((HBX.out.alloc _).ext hb1).c5
  obtain ⟨q0, q1, q2, q3, qf⟩ := ((Box.new w 65 _).ext hb1).c4
  have HB := Lib.hid (below_step (below_alloc w _) hb1)
  have hne : w.heap.size ≠ B := by omega
  have hne' : B ≠ w.heap.size := by omega
  have hs1 : w.heap.size < w1.heap.size := by have := hb1.size; simp only [World.size_alloc] at this; omega
  clear hb1
  go_wp2
  refine bodyPost_ret (v := .agg #[.int .i64 a, .int .i64 m, .int .u64 s, .int .u64 (sealI a m s key)]) (by simp [results, Try.results75, go_sem, q0, q1, q2, q3]) rfl ⟨rfl, ?_⟩
  exact (((((belX_of HB.out B).set 3 _).high (Nat.le_refl _) _).high (Nat.le_refl _) _).high (Nat.le_refl _) _).high (Nat.le_refl _) _

/-- A copy and an error. -/
def KPost (r : Int × Int × BitVec 64 × Int × Int) (w : World) (e : Ending) (w' : World) : Prop :=
  e = .returned (.tuple #[.agg #[.int .i64 r.1, .int .i64 r.2.1, .int .u64 r.2.2.1.toNat, .int .u64 r.2.2.2.1], .int .i64 r.2.2.2.2]) ∧ Below w.heap.size w w'
def copyF (l : List Chg) (t m key : Int) : Int × Int × BitVec 64 × Int × Int :=
  if chkC l = false then (0, 0, 0#64, 0, 8) else if inB 0 1099511627776 t = false ∨ inB 0 1099511627776 m = false then (0, 0, 0#64, 0, 2)
  else (t, m, aftF 0#64 (betF l (-1) t), sealI t m (aftF 0#64 (betF l (-1) t)).toNat key, 0)
theorem copy_cases (l : List Chg) (t m key : Int) :
    (chkC l = false ∧ copyF l t m key = (0, 0, 0#64, 0, 8)) ∨ (chkC l = true ∧ inB 0 1099511627776 t = false ∧ copyF l t m key = (0, 0, 0#64, 0, 2)) ∨
    (chkC l = true ∧ inB 0 1099511627776 t = true ∧ inB 0 1099511627776 m = false ∧ copyF l t m key = (0, 0, 0#64, 0, 2)) ∨
    (chkC l = true ∧ inB 0 1099511627776 t = true ∧ inB 0 1099511627776 m = true ∧ copyF l t m key = (t, m, aftF 0#64 (betF l (-1) t), sealI t m (aftF 0#64 (betF l (-1) t)).toNat key, 0)) := by
  cases h1 : chkC l
  · exact .inl ⟨rfl, by simp [copyF, h1]⟩
  cases h2 : inB 0 1099511627776 t
  · exact .inr (.inl ⟨rfl, rfl, by simp [copyF, h1, h2]⟩)
  cases h3 : inB 0 1099511627776 m
  · exact .inr (.inr (.inl ⟨rfl, rfl, rfl, by simp [copyF, h1, h3]⟩))
  · exact .inr (.inr (.inr ⟨rfl, rfl, rfl, by simp [copyF, h1, h2, h3]⟩))

set_option maxHeartbeats 2000000 in
theorem copy_any (A : Option Addr) (l : List Chg) (n c : Nat) (t m key : Int) (w : World) (hr : Rd w A (flat cenc l)) (hn : n = l.length) (hl : n ≤ 1000) :
    Calls Try.prog 42 #[.slice A n c, .int .i64 t, .int .i64 m, .int .u64 key] w (KPost (copyF l t m key) w) := by
  have HR := Lib.hid hr
  have HN := Lib.hid hn
  clear hr hn
  rcases copy_cases l t m key with ⟨hv, hf⟩ | ⟨hv, h2, hf⟩ | ⟨hv, h2, h3, hf⟩ | ⟨hv, h2, h3, hf⟩
  case inr.inr.inr =>
    have HF := Lib.hid hf
    have HL := Lib.hid (listF_ok hv h2)
    clear hf hv
    generalize aftF 0#64 (betF l (-1) t) = S at HL HF
    go_enter Try.func42, Try.ntmps42
    go_wp2_with fail
    refine (list_any _ l _ _ _ _ (HR.out.below (below_alloc _ _)) HN.out hl).mono ?_
    rintro e w1 ⟨rfl, hb1⟩
    rw [HL.out]
    have HX := Lib.hid ((Box.new w 65 _).ext hb1)
    have HB := Lib.hid (below_step (below_alloc w _) hb1)
    have hs1 : w.heap.size < w1.heap.size := by have := hb1.size; simp only [World.size_alloc] at this; omega
    clear hb1
    go_wp2_with (go_at_call 57; refine (isTime_any _ _).mono ?_; rintro e w' ⟨rfl, rfl⟩)
    refine (sealed_any w1.heap.size t m S.toNat 0 key _ (Box.new w1 121 _)).mono ?_
    rintro e w2 ⟨rfl, hb2⟩
    have hx2 := hb2.box (HX.out.alloc _) (by simp only [World.size_alloc]; omega) (by omega)
    obtain ⟨q0, q1, q2, q3, qf⟩ := hx2.c4
    have HB2 := Lib.hid (HB.out.trans ((below_alloc w1 _).mono (Nat.le_of_lt hs1) |>.trans (hb2.below (b := w.heap.size) (by simp only [World.size_alloc]; omega) (by omega))))
    clear hb2 hx2
    go_wp2
    refine bodyPost_ret (v := .tuple #[.agg #[.int .i64 t, .int .i64 m, .int .u64 S.toNat, .int .u64 (sealI t m S.toNat key)], .int .i64 0]) (by simp [results, Try.results42, go_sem, q0, q1, q2, q3]) rfl ?_
    unfold KPost
    rw [HF.out]
    exact ⟨rfl, (((HB2.out.setCell (by simp) _).setCell (by simp) _).setCell (by simp) _).setCell (by simp) _⟩
  · have HF := Lib.hid hf
    have HL := Lib.hid (listF_bad (t := t) hv)
    clear hf hv
    go_enter Try.func42, Try.ntmps42
    go_wp2_with fail
    refine (list_any _ l _ _ _ _ (HR.out.below (below_alloc _ _)) HN.out hl).mono ?_
    rintro e w1 ⟨rfl, hb1⟩
    rw [HL.out]
    obtain ⟨q0, q1, q2, q3, qf⟩ := ((Box.new w 65 _).ext hb1).c4
    have HB := Lib.hid (below_step (below_alloc w _) hb1)
    have hs1 : w.heap.size < w1.heap.size := by have := hb1.size; simp only [World.size_alloc] at this; omega
    clear hb1
    go_wp2_with (go_at_call 57; refine (isTime_any _ _).mono ?_; rintro e w' ⟨rfl, rfl⟩)
    refine bodyPost_ret (v := .tuple #[.agg #[.int .i64 0, .int .i64 0, .int .u64 0, .int .u64 0], .int .i64 8]) (by simp [results, Try.results42, go_sem, q0, q1, q2, q3]) rfl ?_
    unfold KPost
    rw [HF.out]
    exact ⟨rfl, (((HB.out.setCell (by simp) _).setCell (by simp) _).setCell (by simp) _).setCell (by simp) _⟩
  · have HF := Lib.hid hf
    have HL := Lib.hid (listF_arg hv h2)
    clear hf hv
    go_enter Try.func42, Try.ntmps42
    go_wp2_with fail
    refine (list_any _ l _ _ _ _ (HR.out.below (below_alloc _ _)) HN.out hl).mono ?_
    rintro e w1 ⟨rfl, hb1⟩
    rw [HL.out]
    obtain ⟨q0, q1, q2, q3, qf⟩ := ((Box.new w 65 _).ext hb1).c4
    have HB := Lib.hid (below_step (below_alloc w _) hb1)
    have hs1 : w.heap.size < w1.heap.size := by have := hb1.size; simp only [World.size_alloc] at this; omega
    clear hb1
    go_wp2_with (go_at_call 57; refine (isTime_any _ _).mono ?_; rintro e w' ⟨rfl, rfl⟩)
    refine bodyPost_ret (v := .tuple #[.agg #[.int .i64 0, .int .i64 0, .int .u64 0, .int .u64 0], .int .i64 2]) (by simp [results, Try.results42, go_sem, q0, q1, q2, q3]) rfl ?_
    unfold KPost
    rw [HF.out]
    exact ⟨rfl, (((HB.out.setCell (by simp) _).setCell (by simp) _).setCell (by simp) _).setCell (by simp) _⟩
  · have HF := Lib.hid hf
    have HL := Lib.hid (listF_ok hv h2)
    clear hf hv
    go_enter Try.func42, Try.ntmps42
    go_wp2_with fail
    refine (list_any _ l _ _ _ _ (HR.out.below (below_alloc _ _)) HN.out hl).mono ?_
    rintro e w1 ⟨rfl, hb1⟩
    rw [HL.out]
    obtain ⟨q0, q1, q2, q3, qf⟩ := ((Box.new w 65 _).ext hb1).c4
    have HB := Lib.hid (below_step (below_alloc w _) hb1)
    have hs1 : w.heap.size < w1.heap.size := by have := hb1.size; simp only [World.size_alloc] at this; omega
    clear hb1
    go_wp2_with (go_at_call 57; refine (isTime_any _ _).mono ?_; rintro e w' ⟨rfl, rfl⟩)
    refine bodyPost_ret (v := .tuple #[.agg #[.int .i64 0, .int .i64 0, .int .u64 0, .int .u64 0], .int .i64 2]) (by simp [results, Try.results42, go_sem, q0, q1, q2, q3]) rfl ?_
    unfold KPost
    rw [HF.out]
    exact ⟨rfl, (((HB.out.setCell (by simp) _).setCell (by simp) _).setCell (by simp) _).setCell (by simp) _⟩
end Go.Proofs.Ytalmeokljamhdaa
