/- Ridge: the fill of the program, where it stops at once. No condition. -/
import Derived.Test.YtjelnbfnoliocaaPd
import Derived.Test.YtjelnbfnoliocaaRa
namespace Go.Proofs.Ytjelnbfnoliocaa
open Go.RowKit

/-- Below a number nothing has changed but one block. -/
structure BelX (B X : Nat) (w w' : World) : Prop where
  os : w'.os = w.os
  tape : w'.tape = w.tape
  output : w'.output = w.output
  size : w.heap.size ≤ w'.heap.size
  block : ∀ k, k < B → k ≠ X → w'.heap[k]? = w.heap[k]?
theorem belX_of {B : Nat} {w w' : World} (h : Below B w w') (X : Nat) : BelX B X w w' := ⟨h.os, h.tape, h.output, h.size, fun k hk _ => h.block k hk⟩
theorem BelX.trans {B X : Nat} {a b c : World} (h : BelX B X a b) (k : BelX B X b c) : BelX B X a c :=
  ⟨k.os.trans h.os, k.tape.trans h.tape, k.output.trans h.output, Nat.le_trans h.size k.size, fun i hi hx => (k.block i hi hx).trans (h.block i hi hx)⟩
theorem BelX.mono {B B' X : Nat} {w w' : World} (h : BelX B X w w') (hB : B' ≤ B) : BelX B' X w w' := ⟨h.os, h.tape, h.output, h.size, fun k hk hx => h.block k (by omega) hx⟩
theorem BelX.set {B X : Nat} {a w : World} (h : BelX B X a w) (o : Nat) (u : Value) : BelX B X a (w.setCell ⟨X, o, none⟩ u) :=
  ⟨h.os, h.tape, h.output, by simpa using h.size, fun k hk hx => (Below.heap_setCell w ⟨X, o, none⟩ u k hx).trans (h.block k hk hx)⟩
theorem BelX.cell {B X : Nat} {w w' : World} (h : BelX B X w w') {p : Addr} (hp : p.block < B) (hx : p.block ≠ X) : w'.cell? p = w.cell? p := World.cell?_of_block (w := w) (h.block p.block hp hx)
theorem BelX.box {B X C : Nat} {w w' : World} {cs : List Value} (h : BelX B X w w') (hb : Box w C cs) (hC : C < B) (hx : C ≠ X) : Box w' C cs :=
  ⟨fun i u hu => (h.cell (p := ⟨C, i, none⟩) hC hx).trans (hb.1 i u hu), fun i => (World.frozen?_of_block (w := w) (a := ⟨C, i, none⟩) (h.block C hC hx)).trans (hb.2.1 i), by have := h.size; have := hb.2.2; omega⟩

/-- The blocks that a search of the program shares with its closure. -/
structure Blk where
  bw : Nat
  bh : Nat
  bs : Nat
  bp : Nat
  bb : Nat
  bd : Nat
  bf : Nat
  m : Nat
/-- The picture and the colour that a search is for. -/
structure Pic where
  W : Int
  H : Int
  l : List Bool
  A : Option Addr
  n : Nat
  c : Nat
  black : Bool
  diag : Bool
  ok : sized1B W H n = true
  len : n = l.length
def Blk.ptrs (b : Blk) : Array Value := #[.pointer (some ⟨b.bw, 0, none⟩), .pointer (some ⟨b.bh, 0, none⟩), .pointer (some ⟨b.bs, 0, none⟩), .pointer (some ⟨b.bp, 0, none⟩), .pointer (some ⟨b.bb, 0, none⟩), .pointer (some ⟨b.bd, 0, none⟩), .pointer (some ⟨b.bf, 0, none⟩)]
structure Env (P : Pic) (b : Blk) (marks : List Bool) (w : World) : Prop where
  bw : Box w b.bw [.int .i64 (P.W + 2)]
  bh : Box w b.bh [.int .i64 (P.H + 2)]
  bs : Box w b.bs [.slice (some ⟨b.m, 0, none⟩) marks.length marks.length]
  bp : Box w b.bp [.int .i64 P.W, .int .i64 P.H, .slice P.A P.n P.c]
  bb : Box w b.bb [.bool P.black]
  bd : Box w b.bd [.bool P.diag]
  bf : Box w b.bf [.func (.func 79) #[] b.ptrs]
  bm : Box w b.m (bools marks)
  rd : Rd w P.A (bools P.l)
  far : b.bw ≠ b.m ∧ b.bh ≠ b.m ∧ b.bs ≠ b.m ∧ b.bp ≠ b.m ∧ b.bb ≠ b.m ∧ b.bd ≠ b.m ∧ b.bf ≠ b.m
  apart : ∀ o, P.A ≠ some ⟨b.m, o, none⟩
  len : (marks.length : Int) = (P.W + 2) * (P.H + 2)
theorem Env.below {P : Pic} {b : Blk} {marks : List Bool} {w w' : World} (h : Env P b marks w) (hb : Below w.heap.size w w') : Env P b marks w' :=
  ⟨h.bw.ext hb, h.bh.ext hb, h.bs.ext hb, h.bp.ext hb, h.bb.ext hb, h.bd.ext hb, h.bf.ext hb, h.bm.ext hb, h.rd.below hb, h.far, h.apart, h.len⟩

/-- Whether a fill goes on at a place. -/
def goesF (P : Pic) (marks : List Bool) (x y : Int) : Bool := inB 0 (P.W + 1) x && (inB 0 (P.H + 1) y && (!marks.getD (y * (P.W + 2) + x).toNat false && (isF P.W P.H P.l (x - 1) (y - 1) == P.black)))
set_option maxRecDepth 100000 in
set_option maxHeartbeats 2000000 in
theorem fill_x (P : Pic) (b : Blk) (marks : List Bool) (x y : Int) (w : World) (he : Env P b marks w) (hg : inB 0 (P.W + 1) x = false) :
    Calls Try.prog 79 (#[.int .i64 x, .int .i64 y] ++ b.ptrs) w fun e w' => e = .returned (.bool false) ∧ Below w.heap.size w w' := by
  obtain ⟨hW, hH, _⟩ := valid_bd P.ok
  have HX := fun (w1 : World) => Lib.hid (show Calls Try.prog 58 #[.int .i64 x, .int .i64 0, .int .i64 (P.W + 1)] w1 fun e w' => e = .returned (.bool false) ∧ w1 = w' by have := within_any 0 (P.W + 1) x w1; rw [hg] at this; exact this)
  have c0 := he.bw.1 0 _ rfl
  have hl := he.bw.2.2
  obtain ⟨W, H, l, A, n, c, black, diag, ok, len⟩ := P
  obtain ⟨bw, bh, bs, bp, bb, bd, bf, m⟩ := b
  simp only at *
  clear he ok len hg
  show Calls Try.prog 79 #[.int .i64 x, .int .i64 y, .pointer (some ⟨bw, 0, none⟩), .pointer (some ⟨bh, 0, none⟩), .pointer (some ⟨bs, 0, none⟩), .pointer (some ⟨bp, 0, none⟩), .pointer (some ⟨bb, 0, none⟩), .pointer (some ⟨bd, 0, none⟩), .pointer (some ⟨bf, 0, none⟩)] w _
  have e1 : IntKind.i64.wrap (W + 2 - 1) = W + 1 := by rw [show W + 2 - 1 = W + 1 by omega]; exact IntWalk.i64_in _ (by omega)
  have e2 : IntKind.i64.wrap (H + 2 - 1) = H + 1 := by rw [show H + 2 - 1 = H + 1 by omega]; exact IntWalk.i64_in _ (by omega)
  go_enter Try.func79, Try.ntmps79
  go_wp2_with fail
  have hne : Nonempty (ExtOf w) := ⟨⟨w, Below.refl _ _⟩⟩
  refine wp_region_ext (by kernel_rfl) (by kernel_rfl) ?_
  iterate 3 (go_big_quiet_step (fail))
  go_big_quiet_step ((go_at_call 58; exact ext_same (HX _).out))
  iterate 28 (go_big_quiet_step (fail))
  refine wpQuiet_nil ?_
  rintro _ ⟨z, rfl⟩
  go_wp2_with fail
  go_ret
  exact ⟨rfl, z.ext⟩
set_option maxRecDepth 100000 in
set_option maxHeartbeats 2000000 in
theorem fill_y (P : Pic) (b : Blk) (marks : List Bool) (x y : Int) (w : World) (he : Env P b marks w) (hg1 : inB 0 (P.W + 1) x = true) (hg : inB 0 (P.H + 1) y = false) :
    Calls Try.prog 79 (#[.int .i64 x, .int .i64 y] ++ b.ptrs) w fun e w' => e = .returned (.bool false) ∧ Below w.heap.size w w' := by
  obtain ⟨hW, hH, _⟩ := valid_bd P.ok
  have HX := fun (w1 : World) => Lib.hid (show Calls Try.prog 58 #[.int .i64 x, .int .i64 0, .int .i64 (P.W + 1)] w1 fun e w' => e = .returned (.bool true) ∧ w1 = w' by have := within_any 0 (P.W + 1) x w1; rw [hg1] at this; exact this)
  have HY := fun (w1 : World) => Lib.hid (show Calls Try.prog 58 #[.int .i64 y, .int .i64 0, .int .i64 (P.H + 1)] w1 fun e w' => e = .returned (.bool false) ∧ w1 = w' by have := within_any 0 (P.H + 1) y w1; rw [hg] at this; exact this)
  have c0 := he.bw.1 0 _ rfl
  have hl := he.bw.2.2
  have c1 := he.bh.1 0 _ rfl
  have hl1 := he.bh.2.2
  obtain ⟨W, H, l, A, n, c, black, diag, ok, len⟩ := P
  obtain ⟨bw, bh, bs, bp, bb, bd, bf, m⟩ := b
  simp only at *
  clear he ok len hg hg1
  show Calls Try.prog 79 #[.int .i64 x, .int .i64 y, .pointer (some ⟨bw, 0, none⟩), .pointer (some ⟨bh, 0, none⟩), .pointer (some ⟨bs, 0, none⟩), .pointer (some ⟨bp, 0, none⟩), .pointer (some ⟨bb, 0, none⟩), .pointer (some ⟨bd, 0, none⟩), .pointer (some ⟨bf, 0, none⟩)] w _
  have e1 : IntKind.i64.wrap (W + 2 - 1) = W + 1 := by rw [show W + 2 - 1 = W + 1 by omega]; exact IntWalk.i64_in _ (by omega)
  have e2 : IntKind.i64.wrap (H + 2 - 1) = H + 1 := by rw [show H + 2 - 1 = H + 1 by omega]; exact IntWalk.i64_in _ (by omega)
  go_enter Try.func79, Try.ntmps79
  go_wp2_with fail
  have hne : Nonempty (ExtOf w) := ⟨⟨w, Below.refl _ _⟩⟩
  refine wp_region_ext (by kernel_rfl) (by kernel_rfl) ?_
  iterate 3 (go_big_quiet_step (fail))
  go_big_quiet_step ((go_at_call 58; exact ext_same (HX _).out))
  iterate 5 (go_big_quiet_step (fail))
  go_big_quiet_step ((go_at_call 58; exact ext_same (HY _).out))
  iterate 22 (go_big_quiet_step (fail))
  refine wpQuiet_nil ?_
  rintro _ ⟨z, rfl⟩
  go_wp2_with fail
  go_ret
  exact ⟨rfl, z.ext⟩
set_option maxRecDepth 100000 in
set_option maxHeartbeats 2000000 in
theorem fill_seen (P : Pic) (b : Blk) (marks : List Bool) (x y : Int) (w : World) (he : Env P b marks w) (hg1 : inB 0 (P.W + 1) x = true) (hg2 : inB 0 (P.H + 1) y = true) (hg3 : marks.getD (y * (P.W + 2) + x).toNat false = true) :
    Calls Try.prog 79 (#[.int .i64 x, .int .i64 y] ++ b.ptrs) w fun e w' => e = .returned (.bool false) ∧ Below w.heap.size w w' := by
  obtain ⟨hW, hH, _⟩ := valid_bd P.ok
  have HX := fun (w1 : World) => Lib.hid (show Calls Try.prog 58 #[.int .i64 x, .int .i64 0, .int .i64 (P.W + 1)] w1 fun e w' => e = .returned (.bool true) ∧ w1 = w' by have := within_any 0 (P.W + 1) x w1; rw [hg1] at this; exact this)
  have HY := fun (w1 : World) => Lib.hid (show Calls Try.prog 58 #[.int .i64 y, .int .i64 0, .int .i64 (P.H + 1)] w1 fun e w' => e = .returned (.bool true) ∧ w1 = w' by have := within_any 0 (P.H + 1) y w1; rw [hg2] at this; exact this)
  have hx : 0 ≤ x ∧ x ≤ P.W + 1 := by simpa [inB] using hg1
  have hy : 0 ≤ y ∧ y ≤ P.H + 1 := by simpa [inB] using hg2
  obtain ⟨p1, p2, p3, p4⟩ := place_lt (W := P.W + 2) (H := P.H + 2) he.len (by omega : 0 ≤ x ∧ x ≤ P.W + 2 - 1) (by omega : 0 ≤ y ∧ y ≤ P.H + 2 - 1)
  have hn4 : marks.length ≤ 484 := by
    have := he.len
    have b2 : (P.W + 2) * (P.H + 2) ≤ 22 * 22 := Int.mul_le_mul (by omega) (by omega) (by omega) (by omega)
    omega
  obtain ⟨k, hk⟩ := Int.eq_ofNat_of_zero_le p1
  have hkl : k < marks.length := by omega
  have hgd : marks.getD (y * (P.W + 2) + x).toNat false = marks[k] := by rw [hk, Int.toNat_natCast, List.getD_eq_getElem?_getD, List.getElem?_eq_getElem hkl]; rfl
  rw [hgd] at hg3
  have c3 := he.bm.1 k _ (bools_get hkl)
  rw [hg3] at c3
  have c2 := he.bs.1 0 _ rfl
  have hl2 := he.bs.2.2
  have hl3 := he.bm.2.2
  have c0 := he.bw.1 0 _ rfl
  have hl := he.bw.2.2
  have c1 := he.bh.1 0 _ rfl
  have hl1 := he.bh.2.2
  obtain ⟨W, H, l, A, n, c, black, diag, ok, len⟩ := P
  obtain ⟨bw, bh, bs, bp, bb, bd, bf, m⟩ := b
  simp only at *
  generalize hq : y * (W + 2) = q at *
  have HQ := Lib.hid hq
  clear hq
  have e3 : IntKind.i64.wrap (y * (W + 2)) = q := by rw [HQ.out]; exact IntWalk.i64_in _ (by omega)
  have e4 : IntKind.i64.wrap (q + x) = (k : Int) := by rw [hk]; exact IntWalk.i64_in _ (by omega)
  clear hgd hg3 he
  generalize hN : marks.length = N at *
  have hkn : (k : Int) < (N : Int) := by omega
  have HK := Lib.hid hk
  have HNN := Lib.hid hN
  clear hk hN
  clear ok len hg1 hg2
  show Calls Try.prog 79 #[.int .i64 x, .int .i64 y, .pointer (some ⟨bw, 0, none⟩), .pointer (some ⟨bh, 0, none⟩), .pointer (some ⟨bs, 0, none⟩), .pointer (some ⟨bp, 0, none⟩), .pointer (some ⟨bb, 0, none⟩), .pointer (some ⟨bd, 0, none⟩), .pointer (some ⟨bf, 0, none⟩)] w _
  have e1 : IntKind.i64.wrap (W + 2 - 1) = W + 1 := by rw [show W + 2 - 1 = W + 1 by omega]; exact IntWalk.i64_in _ (by omega)
  have e2 : IntKind.i64.wrap (H + 2 - 1) = H + 1 := by rw [show H + 2 - 1 = H + 1 by omega]; exact IntWalk.i64_in _ (by omega)
  go_enter Try.func79, Try.ntmps79
  go_wp2_with fail
  have hne : Nonempty (ExtOf w) := ⟨⟨w, Below.refl _ _⟩⟩
  refine wp_region_ext (by kernel_rfl) (by kernel_rfl) ?_
  iterate 3 (go_big_quiet_step (fail))
  go_big_quiet_step ((go_at_call 58; exact ext_same (HX _).out))
  iterate 5 (go_big_quiet_step (fail))
  go_big_quiet_step ((go_at_call 58; exact ext_same (HY _).out))
  iterate 22 (go_big_quiet_step (fail))
  refine wpQuiet_nil ?_
  rintro _ ⟨z, rfl⟩
  go_wp2_with fail
  go_ret
  exact ⟨rfl, z.ext⟩
set_option maxRecDepth 100000 in
set_option maxHeartbeats 2000000 in
theorem fill_else (P : Pic) (b : Blk) (marks : List Bool) (x y : Int) (w : World) (he : Env P b marks w) (hg1 : inB 0 (P.W + 1) x = true) (hg2 : inB 0 (P.H + 1) y = true) (hg3 : marks.getD (y * (P.W + 2) + x).toNat false = false) (hg4 : isF P.W P.H P.l (x - 1) (y - 1) = !P.black) :
    Calls Try.prog 79 (#[.int .i64 x, .int .i64 y] ++ b.ptrs) w fun e w' => e = .returned (.bool false) ∧ Below w.heap.size w w' := by
  obtain ⟨hW, hH, _⟩ := valid_bd P.ok
  have HX := fun (w1 : World) => Lib.hid (show Calls Try.prog 58 #[.int .i64 x, .int .i64 0, .int .i64 (P.W + 1)] w1 fun e w' => e = .returned (.bool true) ∧ w1 = w' by have := within_any 0 (P.W + 1) x w1; rw [hg1] at this; exact this)
  have HY := fun (w1 : World) => Lib.hid (show Calls Try.prog 58 #[.int .i64 y, .int .i64 0, .int .i64 (P.H + 1)] w1 fun e w' => e = .returned (.bool true) ∧ w1 = w' by have := within_any 0 (P.H + 1) y w1; rw [hg2] at this; exact this)
  have hx : 0 ≤ x ∧ x ≤ P.W + 1 := by simpa [inB] using hg1
  have hy : 0 ≤ y ∧ y ≤ P.H + 1 := by simpa [inB] using hg2
  obtain ⟨p1, p2, p3, p4⟩ := place_lt (W := P.W + 2) (H := P.H + 2) he.len (by omega : 0 ≤ x ∧ x ≤ P.W + 2 - 1) (by omega : 0 ≤ y ∧ y ≤ P.H + 2 - 1)
  have hn4 : marks.length ≤ 484 := by
    have := he.len
    have b2 : (P.W + 2) * (P.H + 2) ≤ 22 * 22 := Int.mul_le_mul (by omega) (by omega) (by omega) (by omega)
    omega
  obtain ⟨k, hk⟩ := Int.eq_ofNat_of_zero_le p1
  have hkl : k < marks.length := by omega
  have hgd : marks.getD (y * (P.W + 2) + x).toNat false = marks[k] := by rw [hk, Int.toNat_natCast, List.getD_eq_getElem?_getD, List.getElem?_eq_getElem hkl]; rfl
  rw [hgd] at hg3
  have c3 := he.bm.1 k _ (bools_get hkl)
  rw [hg3] at c3
  have c2 := he.bs.1 0 _ rfl
  have hl2 := he.bs.2.2
  have hl3 := he.bm.2.2
  have c0 := he.bw.1 0 _ rfl
  have hl := he.bw.2.2
  have c1 := he.bh.1 0 _ rfl
  have hl1 := he.bh.2.2
  have HI := Lib.hid (fun (z : ExtOf w) => is_any P.W P.H (x - 1) (y - 1) P.A P.l P.n P.c z.wld P.ok (he.rd.below z.ext) P.len)
  have c4 := he.bp.1 0 _ rfl
  have c5 := he.bp.1 1 _ rfl
  have c6 := he.bp.1 2 _ rfl
  have hl4 := he.bp.2.2
  have c7 := he.bb.1 0 _ rfl
  have hl7 := he.bb.2.2
  rw [hg4] at HI
  obtain ⟨W, H, l, A, n, c, black, diag, ok, len⟩ := P
  obtain ⟨bw, bh, bs, bp, bb, bd, bf, m⟩ := b
  simp only at *
  generalize hq : y * (W + 2) = q at *
  have HQ := Lib.hid hq
  clear hq
  have e3 : IntKind.i64.wrap (y * (W + 2)) = q := by rw [HQ.out]; exact IntWalk.i64_in _ (by omega)
  have e4 : IntKind.i64.wrap (q + x) = (k : Int) := by rw [hk]; exact IntWalk.i64_in _ (by omega)
  clear hgd hg3 he
  generalize hN : marks.length = N at *
  have hkn : (k : Int) < (N : Int) := by omega
  have HK := Lib.hid hk
  have HNN := Lib.hid hN
  clear hk hN
  clear ok len hg1 hg2 hg4
  cases black
  all_goals simp only [Bool.not_true, Bool.not_false] at HI
  all_goals as_aux_lemma =>
    show Calls Try.prog 79 #[.int .i64 x, .int .i64 y, .pointer (some ⟨bw, 0, none⟩), .pointer (some ⟨bh, 0, none⟩), .pointer (some ⟨bs, 0, none⟩), .pointer (some ⟨bp, 0, none⟩), .pointer (some ⟨bb, 0, none⟩), .pointer (some ⟨bd, 0, none⟩), .pointer (some ⟨bf, 0, none⟩)] w _
    have e1 : IntKind.i64.wrap (W + 2 - 1) = W + 1 := by rw [show W + 2 - 1 = W + 1 by omega]; exact IntWalk.i64_in _ (by omega)
    have e2 : IntKind.i64.wrap (H + 2 - 1) = H + 1 := by rw [show H + 2 - 1 = H + 1 by omega]; exact IntWalk.i64_in _ (by omega)
    go_enter Try.func79, Try.ntmps79
    go_wp2_with fail
    have hne : Nonempty (ExtOf w) := ⟨⟨w, Below.refl _ _⟩⟩
    refine wp_region_ext (by kernel_rfl) (by kernel_rfl) ?_
    iterate 3 (go_big_quiet_step (fail))
    go_big_quiet_step ((go_at_call 58; exact ext_same (HX _).out))
    iterate 5 (go_big_quiet_step (fail))
    go_big_quiet_step ((go_at_call 58; exact ext_same (HY _).out))
    iterate 18 (go_big_quiet_step (fail))
    go_big_quiet_step ((go_at_call 80; exact ext_of (HI.out _)))
    iterate 3 (go_big_quiet_step (fail))
    refine wpQuiet_nil ?_
    rintro _ ⟨z, rfl⟩
    go_wp2_with fail
    go_ret
    exact ⟨rfl, z.ext⟩
end Go.Proofs.Ytjelnbfnoliocaa
