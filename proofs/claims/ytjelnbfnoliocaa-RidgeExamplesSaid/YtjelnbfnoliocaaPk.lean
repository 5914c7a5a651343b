/- Ridge: the number of parts, of the program. No condition. -/
import Derived.Test.YtjelnbfnoliocaaPj
import Derived.Test.YtjelnbfnoliocaaBase
import Derived.Deep.OwnRows
import Derived.StillTailTactics
namespace Go.Proofs.Ytjelnbfnoliocaa
open Go.RowKit

theorem goes_iff {P : Pic} {T : List Bool} {i : Nat} (hW : 1 ≤ P.W) (hi : (i : Int) < (P.W + 2) * (P.H + 2)) : goesF P T (cx P i) (cy P i) = true ↔ KP P i ∧ ¬ mkd T i := by
  obtain ⟨⟨⟨a, b⟩, c, d⟩, e⟩ := idx_of hW hi
  have h1 : inB 0 (P.W + 1) (cx P i) = true := by simp [inB, a, b]
  have h2 : inB 0 (P.H + 1) (cy P i) = true := by simp [inB, c, d]
  have h3 : (cy P i * (P.W + 2) + cx P i).toNat = i := e
  unfold goesF
  rw [h1, h2, h3]
  simp only [Bool.true_and, Bool.and_eq_true, KP, mkd, hi, true_and]
  constructor
  · rintro ⟨p, q⟩; exact ⟨by simpa using q, by simpa using p⟩
  · rintro ⟨p, q⟩; exact ⟨by simpa using q, by simpa using p⟩
theorem cx_eq {P : Pic} (hW : 1 ≤ P.W) (i : Nat) : cx P i = (i : Int) % (P.W + 2) ∧ cy P i = (i : Int) / (P.W + 2) := by
  obtain ⟨m, hm⟩ : ∃ m : Nat, P.W + 2 = m := ⟨(P.W + 2).toNat, by omega⟩
  unfold cx cy
  rw [hm, Int.toNat_natCast]
  exact ⟨Int.natCast_emod _ _, Int.natCast_ediv _ _⟩
theorem made_bools (N : Nat) : (madeCells #[Value.bool false] N).toList = bools (List.replicate N false) := by
  apply List.ext_getElem
  · simp [madeCells, bools]
  · intro i h1 h2
    simp [madeCells, bools, Nat.mod_one]
theorem below_of_belX {B X : Nat} {w0 w w' : World} (h : Below B w0 w) (k : BelX w.heap.size X w w') (hX : B ≤ X) (hB : B ≤ w.heap.size) : Below B w0 w' :=
  ⟨k.os.trans h.os, k.tape.trans h.tape, k.output.trans h.output, Nat.le_trans h.size k.size, fun i hi => (k.block i (by omega) (by omega)).trans (h.block i hi)⟩
theorem env_start (P : Pic) {w wc W3 : World} {bw bh N : Nat} {ts : Array Value}
    (h : Own w W3 [box (wc.heap.size + 1 + 1) 113 [.func (.func 79) #[] #[.pointer (some ⟨bw, 0, none⟩), .pointer (some ⟨bh, 0, none⟩), .pointer (some ⟨wc.heap.size + 1, 0, none⟩), .pointer (some ⟨w.heap.size, 0, none⟩), .pointer (some ⟨w.heap.size + 1, 0, none⟩), .pointer (some ⟨w.heap.size + 1 + 1, 0, none⟩), .pointer (some ⟨wc.heap.size + 1 + 1, 0, none⟩)]],
      box (wc.heap.size + 1) 32 [.slice (some ⟨wc.heap.size, 0, none⟩) N N], box wc.heap.size 4 ts.toList,
      box bw 3 [.int .i64 (P.W + 2)], box bh 3 [.int .i64 (P.H + 2)], box (w.heap.size + 1 + 1) 4 [.bool P.diag], box (w.heap.size + 1) 4 [.bool P.black], box w.heap.size 34 [.int .i64 P.W, .int .i64 P.H, .slice P.A P.n P.c]])
    (ht : ts.toList = bools (List.replicate N false)) (hr : Rd w P.A (bools P.l)) (hN : (P.W + 2) * (P.H + 2) = N)
    (hc : Own w wc [box bw 3 [.int .i64 (P.W + 2)], box bh 3 [.int .i64 (P.H + 2)], box (w.heap.size + 1 + 1) 4 [.bool P.diag], box (w.heap.size + 1) 4 [.bool P.black], box w.heap.size 34 [.int .i64 P.W, .int .i64 P.H, .slice P.A P.n P.c]]) :
    Env P ⟨bw, bh, wc.heap.size + 1, w.heap.size, w.heap.size + 1, w.heap.size + 1 + 1, wc.heap.size + 1 + 1, wc.heap.size⟩ (List.replicate N false) W3 := by
  have l0 := (hc.bx 0 rfl).2.2
  have l1 := (hc.bx 1 rfl).2.2
  have l2 := (hc.bx 2 rfl).2.2
  obtain ⟨hW, hH, h3⟩ := valid_bd P.ok
  refine ⟨h.bx 3 rfl, h.bx 4 rfl, by rw [List.length_replicate]; exact h.bx 1 rfl, h.bx 7 rfl, h.bx 6 rfl, h.bx 5 rfl, h.bx 0 rfl, ht ▸ h.bx 2 rfl, hr.below h.bel, ?_, ?_, by rw [List.length_replicate]; exact hN.symm⟩
  · simp only
    omega
  · intro o e
    rcases hr with h' | ⟨b, off, e1, e2, _⟩
    · have := P.len
      have e0 : P.l.length = 0 := by
        have := congrArg List.length h'
        simpa [bools] using this
      have : P.W * P.H ≥ 1 * 1 := Int.mul_le_mul hW.1 hH.1 (by omega) (by omega)
      omega
    · rw [e1] at e
      injection e with e
      injection e with e
      simp only at e
      omega
set_option maxRecDepth 100000 in
set_option maxHeartbeats 400000 in
theorem parts_any (P : Pic) (w : World) (hr : Rd w P.A (bools P.l)) :
    Calls Try.prog 60 #[.agg #[.int .i64 P.W, .int .i64 P.H, .slice P.A P.n P.c], .bool P.black, .bool P.diag] w fun e w' => e = .returned (.int .i64 (comps (KP P) (AP P) ((P.W + 2) * (P.H + 2)).toNat : Nat)) ∧ Below w.heap.size w w' := by
  obtain ⟨hW, hH, _⟩ := valid_bd P.ok
  have S0 := Lib.hid (((Own.start w).new 34 #[.int .i64 P.W, .int .i64 P.H, .slice P.A P.n P.c]).new' 4 #[.bool P.black] (B := w.heap.size + 1) (by simp))
  have S1 := Lib.hid (S0.out.new' 4 #[.bool P.diag] (B := w.heap.size + 1 + 1) (by simp))
  obtain ⟨t0, t1, t2, _⟩ := (S1.out.bx 2 rfl).c3
  have hN0 : 0 ≤ (P.W + 2) * (P.H + 2) := Int.mul_nonneg (by omega) (by omega)
  have hN1 : (P.W + 2) * (P.H + 2) ≤ 22 * 22 := Int.mul_le_mul (by omega) (by omega) (by omega) (by omega)
  obtain ⟨N, hN⟩ := Int.eq_ofNat_of_zero_le hN0
  have e1 : IntKind.i64.wrap ((P.W + 2) * (P.H + 2)) = (N : Int) := by rw [← hN]; exact IntWalk.i64_in _ (by omega)
  have hNb : N ≤ 484 := by omega
  have HN := Lib.hid hN
  rw [hN, Int.toNat_natCast]
  clear hN hN0 hN1
  have hmk := fun W => run_make_row' (P := Try.prog) 32 4 (.bool false) 1 Try.underlying32 (by kernel_rfl) rfl .i64 .i64 N (by omega) (by omega) W
  go_enter Try.func60, Try.ntmps60
  go_upto_region 1 with fail
  go_cut [7, 8] (fun s7 s8 wx => ∃ bw bh : Nat, s7 = .pointer (some ⟨bw, 0, none⟩) ∧ s8 = .pointer (some ⟨bh, 0, none⟩) ∧ Hid (Own w wx [box bw 3 [.int .i64 (P.W + 2)], box bh 3 [.int .i64 (P.H + 2)], box (w.heap.size + 1 + 1) 4 [.bool P.diag], box (w.heap.size + 1) 4 [.bool P.black], box w.heap.size 34 [.int .i64 P.W, .int .i64 P.H, .slice P.A P.n P.c]]))
  case first =>
    as_aux_lemma =>
    go_region
    all_goals
      go_wp2_with fail
      go_meet
      first
        | exact ⟨_, _, rfl, rfl, (((S1.out.new' 3 #[.int .i64 (P.W + 2)] (B := w.heap.size + 1 + 1 + 1) (by simp)).new' 3 #[.int .i64 (P.H + 2)] (B := w.heap.size + 1 + 1 + 1 + 1) (by simp)).ext ((Below.refl _ _).drew)).swap⟩
        | exact ⟨_, _, rfl, rfl, ((S1.out.new' 3 #[.int .i64 (P.H + 2)] (B := w.heap.size + 1 + 1 + 1) (by simp)).new' 3 #[.int .i64 (P.W + 2)] (B := w.heap.size + 1 + 1 + 1 + 1) (by simp)).ext ((Below.refl _ _).drew)⟩
  case rest =>
    obtain ⟨bw, bh, rfl, rfl, hS⟩ := hcut
    have cw := (hS.out.bx 0 rfl).c1.1
    have ch := (hS.out.bx 1 rfl).c1.1
    have lw := (hS.out.bx 0 rfl).2.2
    have lh := (hS.out.bx 1 rfl).2.2
    have ls := hS.out.size
    clear t0 t1 t2
    go_wp2_with fail
    have S3 := Lib.hid (((hS.out.new 4 (madeCells #[.bool false] N)).new' 32 #[.slice (some ⟨wc.heap.size, 0, none⟩) N N] (B := wc.heap.size + 1) (by simp)).new' 113 #[.func (.func 79) #[] #[.pointer (some ⟨bw, 0, none⟩), .pointer (some ⟨bh, 0, none⟩), .pointer (some ⟨wc.heap.size + 1, 0, none⟩), .pointer (some ⟨w.heap.size, 0, none⟩), .pointer (some ⟨w.heap.size + 1, 0, none⟩), .pointer (some ⟨w.heap.size + 1 + 1, 0, none⟩), .pointer (some ⟨wc.heap.size + 1 + 1, 0, none⟩)]] (B := wc.heap.size + 1 + 1) (by simp))
    have HE := Lib.hid (env_start P S3.out (made_bools N) hr HN.out hS.out)
    have HB := Lib.hid S3.out.bel
    generalize (((wc.alloc _).alloc _).alloc _) = W3 at *
    have hgl := hS.out.size
    generalize hm : wc.heap.size = m at *
    have HM := Lib.hid hgl
    clear cw ch lw lh hmk e1 S0 S1 S3 hS ls hm hgl
    have HC := Lib.hid (fun (T : List Bool) (X Y : Int) (w1 : World) h1 h2 h3 h4 => (show Calls Try.prog 79 #[.int .i64 X, .int .i64 Y, .pointer (some ⟨bw, 0, none⟩), .pointer (some ⟨bh, 0, none⟩), .pointer (some ⟨m + 1, 0, none⟩), .pointer (some ⟨w.heap.size, 0, none⟩), .pointer (some ⟨w.heap.size + 1, 0, none⟩), .pointer (some ⟨w.heap.size + 1 + 1, 0, none⟩), .pointer (some ⟨m + 1 + 1, 0, none⟩)] w1 _ from fill_any P ⟨bw, bh, m + 1, w.heap.size, w.heap.size + 1, w.heap.size + 1 + 1, m + 1 + 1, m⟩ N T X Y w1 h1 h2 h3 h4))
    go_loopw [11, 12, 26] (fun u11 _ u26 wr => ∃ (i c : Nat) (T : List Bool), i ≤ N ∧ c ≤ i ∧ u26 = .int .i64 i ∧ u11 = .int .i64 c ∧ Hid (c = upToN (KP P) (AP P) i ∧ T.length = N ∧ Env P ⟨bw, bh, m + 1, w.heap.size, w.heap.size + 1, w.heap.size + 1 + 1, m + 1 + 1, m⟩ T wr ∧ Below w.heap.size w wr ∧ Scan (KP P) (AP P) (mkd T) i)) (fun _ _ u26 _ => N - (intOf u26).toNat)
    case atStart => exact ⟨0, 0, _, by omega, by omega, rfl, rfl, rfl, by simp, HE.out, HB.out, fun v => ⟨fun h => by simp [mkd, List.getD_eq_getElem?_getD, List.getElem?_replicate] at h; split at h <;> simp_all, fun ⟨m, h, _⟩ => by omega⟩⟩
    case round =>
      obtain ⟨i, c, T, hi, hc, rfl, rfl, hI⟩ := hrel
      by_cases hlt : i < N
      · obtain ⟨i1, i2, i3, i4, i5⟩ := hI.out
        have cw := i3.bw.1 0 _ rfl
        have cf := i3.bf.1 0 _ rfl
        simp only [Blk.ptrs] at cw cf
        obtain ⟨cx1, cy1⟩ := cx_eq hW.1 i
        have hiN : (i : Int) < (P.W + 2) * (P.H + 2) := by have := HN.out; omega
        obtain ⟨⟨⟨p1, p2⟩, p3, p4⟩, p5⟩ := idx_of hW.1 hiN
        rw [cx1] at p1 p2 p5
        rw [cy1] at p3 p4 p5
        have HG := Lib.hid (goes_iff (T := T) hW.1 hiN)
        rw [cx1, cy1] at HG
        have HC2 := Lib.hid (fun w1 h => HC.out T ((i : Int) % (P.W + 2)) ((i : Int) / (P.W + 2)) w1 (by have := openN_le T; omega) h (by omega) (by omega))
        have HP5 := Lib.hid p5
        have z1 : ¬ P.W + 2 = 0 := by omega
        have z2 : ¬ P.W = -2 := by omega
        have z3 : (i : Int).tmod (P.W + 2) = (i : Int) % (P.W + 2) := Int.tmod_eq_emod_of_nonneg (by omega)
        have z4 : IntKind.i64.wrap ((i : Int) / (P.W + 2)) = (i : Int) / (P.W + 2) := IntWalk.i64_in _ (by omega)
        cases hg : goesF P T ((i : Int) % (P.W + 2)) ((i : Int) / (P.W + 2))
        all_goals
          rw [hg] at HC2 HG
          have I := Lib.hid i3
          have I1 := Lib.hid i1
          have I2 := Lib.hid i2
          have I4 := Lib.hid i4
          have I5 := Lib.hid i5
          clear i1 i2 i3 i4 i5 hg hI cx1 cy1
          go_wp2_with fail
          go_region_held3 (fun w' => w'.cell? ⟨m + 1 + 1, 0, none⟩ = some (.func (.func 79) #[] #[.pointer (some ⟨bw, 0, none⟩), .pointer (some ⟨bh, 0, none⟩), .pointer (some ⟨m + 1, 0, none⟩), .pointer (some ⟨w.heap.size, 0, none⟩), .pointer (some ⟨w.heap.size + 1, 0, none⟩), .pointer (some ⟨w.heap.size + 1 + 1, 0, none⟩), .pointer (some ⟨m + 1 + 1, 0, none⟩)]) ∧ w'.cell? ⟨bw, 0, none⟩ = some (.int .i64 (P.W + 2))) (first | go_keep | exact ⟨k3.out.bf.1 0 _ rfl, k3.out.bw.1 0 _ rfl⟩) (((with_reducible refine (HC2.out _ (I.out.below ((Below.refl _ _).drew))).mono ?_); rintro e w2 ⟨T', rfl, k1, k2, k3', k4, k5⟩; have k3 := Lib.hid k3'; clear k3'))
          have hF := Lib.hid (I5.out.step (by have := k5.1 ⟨⟨p1, p2⟩, p3, p4⟩; rw [HP5.out] at this; exact this))
          have hB := Lib.hid (below_of_belX (I4.out.drew) k4 HM.out (by simpa using I4.out.size))
          have hL := Lib.hid (k1.trans I2.out)
          clear k1 k2 k4 k5
          go_wp2_with fail
          go_roundw
          case rel => first
            | (have hh := HG.out.1 (by trivial); exact ⟨i + 1, c + 1, T', by omega, by omega, by go_num, by go_num, Lib.hid ⟨by rw [upToN_yes I5.out hh.1 hh.2, ← I1.out], hL.out, k3.out, hB.out, hF.out⟩⟩)
            | exact ⟨i + 1, c, T', by omega, by omega, by go_num, rfl, Lib.hid ⟨by rw [upToN_no I5.out fun hk => Classical.byContradiction fun h => absurd (HG.out.2 ⟨hk, h⟩) (by simp), ← I1.out], hL.out, k3.out, hB.out, hF.out⟩⟩
          case measure => simp [intOf]; omega
      · obtain rfl : i = N := by omega
        have J1 := Lib.hid hI.out.1
        have J4 := Lib.hid hI.out.2.2.2.1
        clear hI
        go_wp2_with fail
        go_ret
        exact ⟨ret_int (by rw [J1.out, upToN_all]), J4.out⟩
end Go.Proofs.Ytjelnbfnoliocaa
