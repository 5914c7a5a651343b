/- Ridge: the walk of RidgeMoved. No condition. -/
import Derived.Test.YtjelnbfnoliocaaTs
import Derived.Test.YtjelnbfnoliocaaQc
namespace Go.Proofs.Ytjelnbfnoliocaa
open Go.RowKit Go.Shelf
attribute [local go_sem] Oper.semAt_some

/-- The minutiae, the first i of them moved. -/
def shM (x0 y0 : Int) (p : Int × Int) : Int × Int := (p.1 + x0, p.2 + y0)
def mixM (W H W' H' x0 y0 : Int) (l l' : List Bool) (ms : List (Int × Int)) (i : Nat) : List Value := flat (mntE W' H' l') ((ms.take i).map (shM x0 y0)) ++ flat (mntE W H l) (ms.drop i)
section
variable {W H W' H' x0 y0 : Int} {l l' : List Bool} {ms : List (Int × Int)}
theorem mix_zero : mixM W H W' H' x0 y0 l l' ms 0 = flat (mntE W H l) ms := by simp [mixM, flat]
theorem mix_all : mixM W H W' H' x0 y0 l l' ms ms.length = flat (mntE W' H' l') (ms.map (shM x0 y0)) := by simp [mixM, flat]
theorem mix_split {i : Nat} (h : i < ms.length) : ∃ P R, P.length = i * 4 ∧ mixM W H W' H' x0 y0 l l' ms i = P ++ (mntE W H l ms[i] ++ R) ∧ mixM W H W' H' x0 y0 l l' ms (i + 1) = P ++ (mntE W' H' l' (shM x0 y0 ms[i]) ++ R) := by
  refine ⟨flat (mntE W' H' l') ((ms.take i).map (shM x0 y0)), flat (mntE W H l) (ms.drop (i + 1)), ?_, ?_, ?_⟩
  · rw [flat_length _ 4 (mntE_len W' H' l')]
    simp
    omega
  · unfold mixM
    rw [List.drop_eq_getElem_cons h, flat_cons]
  · unfold mixM
    rw [List.take_add_one, List.getElem?_eq_getElem h, List.map_append, flat_append, List.append_assoc]
    congr 1
theorem mix_at {i : Nat} (h : i < ms.length) (m : ∀ p, mntE W' H' l' (p.1 + x0, p.2 + y0) = ((mntE W H l p).set 0 (.int .i64 (p.1 + x0))).set 1 (.int .i64 (p.2 + y0))) :
    (mixM W H W' H' x0 y0 l l' ms i)[i * 4]? = some (.int .i64 ms[i].1) ∧ ((mixM W H W' H' x0 y0 l l' ms i).set (i * 4) (.int .i64 (ms[i].1 + x0)))[i * 4 + 1]? = some (.int .i64 ms[i].2) ∧
    ((mixM W H W' H' x0 y0 l l' ms i).set (i * 4) (.int .i64 (ms[i].1 + x0))).set (i * 4 + 1) (.int .i64 (ms[i].2 + y0)) = mixM W H W' H' x0 y0 l l' ms (i + 1) := by
  obtain ⟨P, R, h1, h2, h3⟩ := mix_split (W := W) (H := H) (W' := W') (H' := H') (x0 := x0) (y0 := y0) (l := l) (l' := l') h
  rw [h2, h3]
  have e0 : P.length ≤ i * 4 := by omega
  refine ⟨?_, ?_, ?_⟩
  · rw [List.getElem?_append_right e0, h1, Nat.sub_self]; rfl
  · rw [List.getElem?_set_ne (by omega), List.getElem?_append_right (by omega), h1]
    have : i * 4 + 1 - i * 4 = 1 := by omega
    rw [this]; rfl
  · rw [List.set_append_right _ _ e0, List.set_append_right _ _ (by omega), h1]
    have : i * 4 + 1 - i * 4 = 1 := by omega
    rw [this, Nat.sub_self]
    unfold shM
    rw [m]
    rfl
end
def WideN (W' H' : Int) (N : Nat) (l' : List Bool) (w : World) (e : Ending) (w' : World) : Prop :=
  ∃ A c, e = .returned (.agg #[.int .i64 W', .int .i64 H', .slice A N c]) ∧ Own w w' [row 4 1 (.slice A N c) N (bools l')]
theorem wideN {W' H' : Int} {N : Nat} {l' : List Bool} (h : l'.length = N) (w : World) : WidePost W' H' l' w = WideN W' H' N l' w := by subst h; rfl
/-- What the plain mathematics says of a trace and the same with background around it. -/
structure Moved (W H W' H' x0 y0 : Int) (l : List Bool) (n N : Nat) (T l' T' : List Bool) (ms ms' : List (Int × Int)) : Prop where
  pad : padI W H W' x0 y0 l N = l'
  thin : padI W H W' x0 y0 T N = T'
  rid : ridgesF W' H' l' = ridgesF W H l
  lak : lakesF W' H' l' = lakesF W H l
  min : ms' = ms.map fun p => (p.1 + x0, p.2 + y0)
  mnt : ∀ p, mntE W' H' l' (p.1 + x0, p.2 + y0) = ((mntE W H l p).set 0 (.int .i64 (p.1 + x0))).set 1 (.int .i64 (p.2 + y0))
theorem moved_of {W H W' H' x0 y0 r b : Int} {l : List Bool} {n N : Nat} (ok : sized1B W H n = true) (hn : n = l.length) (hx : 0 ≤ x0) (hy : 0 ≤ y0) (hr : 0 ≤ r) (hb : 0 ≤ b) (hW : W' = W + x0 + r) (hH : H' = H + y0 + b) (hN : (N : Int) = W' * H') :
    Moved W H W' H' x0 y0 l n N (thinF W H l) (padI W H W' x0 y0 l N) (thinF W' H' (padI W H W' x0 y0 l N)) (minI W H l 0 n) (minI W' H' (padI W H W' x0 y0 l N) 0 N) := by
  obtain ⟨p, q, rfl, rfl, hpq, hp0, hq0, _, _⟩ := sized_nat ok
  obtain ⟨a, rfl⟩ := Int.eq_ofNat_of_zero_le hx
  obtain ⟨d, rfl⟩ := Int.eq_ofNat_of_zero_le hy
  obtain ⟨r, rfl⟩ := Int.eq_ofNat_of_zero_le hr
  obtain ⟨b, rfl⟩ := Int.eq_ofNat_of_zero_le hb
  obtain rfl : W' = ((p + a + r : Nat) : Int) := by rw [hW]; push_cast; rfl
  obtain rfl : H' = ((q + d + b : Nat) : Int) := by rw [hH]; push_cast; rfl
  obtain rfl : N = (p + a + r) * (q + d + b) := by rw [← Int.natCast_mul] at hN; exact Int.ofNat.inj hN
  have h1 : a + p ≤ p + a + r := by omega
  have h2 : d + q ≤ q + d + b := by omega
  have hl : l.length = p * q := by rw [← hn, hpq]
  have m := pad_mv (x0 := a) (y0 := d) (l := l) hl h1 h2
  have mt := thin_mv m h1 h2
  have mp := pad_mv (x0 := a) (y0 := d) (l := thinF p q l) (by rw [thinF_len]; exact hl) h1 h2
  obtain ⟨p1, p2⟩ := parts_mv m h1 h2 hp0 hq0
  refine ⟨rfl, mp.uniq mt, p1, p2, ?_, fun x => ?_⟩
  · have := min_mv m h1 h2
    rw [hpq]
    exact this
  · exact mnt_mv m x
set_option maxRecDepth 100000 in
set_option maxHeartbeats 16000000 in
theorem ridgeMoved_walk (W H x0 r y0 b : Int) (A : Option Addr) (l : List Bool) (n c : Nat) (w : World) (hr : Rd w A (bools l)) (hn : n = l.length) (hx : 0 ≤ x0 ∧ x0 ≤ 255) (hr0 : 0 ≤ r ∧ r ≤ 255) (hy : 0 ≤ y0 ∧ y0 ≤ 255) (hb0 : 0 ≤ b ∧ b ≤ 255) :
    Calls Try.prog 10 #[.agg #[.int .i64 W, .int .i64 H, .slice A n c], .int .u8 x0, .int .u8 r, .int .u8 y0, .int .u8 b] w fun e w' => e = .returned (.bool true) ∧ Below w.heap.size w w' := by
  have S0 := Lib.hid ((((Own.start w).new 34 #[.int .i64 W, .int .i64 H, .slice A n c]).new' 5 #[.int .u8 r] (B := w.heap.size + 1) (by simp)).new' 5 #[.int .u8 b] (B := w.heap.size + 1 + 1) (by simp))
  have HF := Lib.hid (fun W1 (h : Below w.heap.size w W1) => hr.below h)
  have K44 := fun W1 => valid_any W H A n c W1
  cases ok : sized1B W H n
  · as_aux_lemma =>
    rw [ok] at K44
    replace K44 := Lib.hid K44
    clear hr hn ok hx hr0 hy hb0
    go_enter Try.func10, Try.ntmps10
    go_wp2_with fail
    refine (alive_any _).mono ?_
    rintro e w1 ⟨rfl, hb1⟩
    have S1 := Lib.hid (S0.out.ext hb1)
    clear hb1 S0
    obtain ⟨t2_0, t2_1, t2_2, _⟩ := (S1.out.bx 2 rfl).c3
    have lt2 := (S1.out.bx 2 rfl).2.2
    go_wp2_with fail
    refine (K44.out _).mono ?_
    rintro e w2 ⟨rfl, hb2⟩
    have S2 := Lib.hid (S1.out.ext hb2)
    clear hb2 S1 t2_0 t2_1 t2_2 lt2
    go_wp2_with fail
    go_ret
    exact ⟨rfl, S2.out.bel⟩
  rw [ok] at K44
  replace K44 := Lib.hid K44
  obtain ⟨hW, hH, hnn⟩ := valid_bd ok
  have e1 : IntKind.i64.wrap (W + x0) = W + x0 := IntWalk.i64_in _ (by omega)
  have e2 : IntKind.i64.wrap (W + x0 + r) = W + x0 + r := IntWalk.i64_in _ (by omega)
  have e3 : IntKind.i64.wrap (H + y0) = H + y0 := IntWalk.i64_in _ (by omega)
  have e4 : IntKind.i64.wrap (H + y0 + b) = H + y0 + b := IntWalk.i64_in _ (by omega)
  by_cases hf1 : 20 < W + x0 + r
  · as_aux_lemma =>
    have d1 : decide (20 < W + x0 + r) = true := by simpa using hf1
    clear hr hn ok hnn
    go_enter Try.func10, Try.ntmps10
    go_wp2_with fail
    refine (alive_any _).mono ?_
    rintro e w1 ⟨rfl, hb1⟩
    have S1 := Lib.hid (S0.out.ext hb1)
    clear hb1 S0
    obtain ⟨t2_0, t2_1, t2_2, _⟩ := (S1.out.bx 2 rfl).c3
    have lt2 := (S1.out.bx 2 rfl).2.2
    go_wp2_with fail
    refine (K44.out _).mono ?_
    rintro e w2 ⟨rfl, hb2⟩
    have S2 := Lib.hid (S1.out.ext hb2)
    clear hb2 S1 t2_0 t2_1 t2_2 lt2
    obtain ⟨t2_0, t2_1, t2_2, _⟩ := (S2.out.bx 2 rfl).c3
    have lt2 := (S2.out.bx 2 rfl).2.2
    obtain ⟨t1_0, _⟩ := (S2.out.bx 1 rfl).c1
    have lt1 := (S2.out.bx 1 rfl).2.2
    obtain ⟨t0_0, _⟩ := (S2.out.bx 0 rfl).c1
    have lt0 := (S2.out.bx 0 rfl).2.2
    go_wp2_with fail
    go_ret
    exact ⟨rfl, S2.out.bel⟩
  by_cases hf2 : 20 < H + y0 + b
  · as_aux_lemma =>
    have d1 : decide (20 < W + x0 + r) = false := by simp; omega
    have d2 : decide (20 < H + y0 + b) = true := by simpa using hf2
    clear hr hn ok hnn
    go_enter Try.func10, Try.ntmps10
    go_wp2_with fail
    refine (alive_any _).mono ?_
    rintro e w1 ⟨rfl, hb1⟩
    have S1 := Lib.hid (S0.out.ext hb1)
    clear hb1 S0
    obtain ⟨t2_0, t2_1, t2_2, _⟩ := (S1.out.bx 2 rfl).c3
    have lt2 := (S1.out.bx 2 rfl).2.2
    go_wp2_with fail
    refine (K44.out _).mono ?_
    rintro e w2 ⟨rfl, hb2⟩
    have S2 := Lib.hid (S1.out.ext hb2)
    clear hb2 S1 t2_0 t2_1 t2_2 lt2
    obtain ⟨t2_0, t2_1, t2_2, _⟩ := (S2.out.bx 2 rfl).c3
    have lt2 := (S2.out.bx 2 rfl).2.2
    obtain ⟨t1_0, _⟩ := (S2.out.bx 1 rfl).c1
    have lt1 := (S2.out.bx 1 rfl).2.2
    obtain ⟨t0_0, _⟩ := (S2.out.bx 0 rfl).c1
    have lt0 := (S2.out.bx 0 rfl).2.2
    go_wp2_with fail
    go_ret
    exact ⟨rfl, S2.out.bel⟩
  have d1 : decide (20 < W + x0 + r) = false := by simp; omega
  have d2 : decide (20 < H + y0 + b) = false := by simp; omega
  obtain ⟨W', hW'⟩ : ∃ W', W' = W + x0 + r := ⟨_, rfl⟩
  obtain ⟨H', hH'⟩ : ∃ H', H' = H + y0 + b := ⟨_, rfl⟩
  obtain ⟨N, hN⟩ : ∃ N : Nat, (N : Int) = W' * H' := ⟨(W' * H').toNat, Int.toNat_of_nonneg (Int.mul_nonneg (by omega) (by omega))⟩
  have ok' : sized1B W' H' N = true := by
    have a1 : 1 ≤ W' := by omega
    have a2 : W' ≤ 20 := by omega
    have a3 : 1 ≤ H' := by omega
    have a4 : H' ≤ 20 := by omega
    simp [sized1B, sidesB, inB, hN, a1, a2, a3, a4]
  obtain ⟨T, l', T', ms, ms', HM⟩ : ∃ T l' T' ms ms', Hid (Moved W H W' H' x0 y0 l n N T l' T' ms ms' ∧ T = thinF W H l ∧ T' = thinF W' H' l' ∧ ms = minI W H l 0 n ∧ ms' = minI W' H' l' 0 N) := ⟨_, _, _, _, _, Lib.hid ⟨moved_of ok hn hx.1 hy.1 hr0.1 hb0.1 hW' hH' hN, rfl, rfl, rfl, rfl⟩⟩
  have HTL := Lib.hid (show T.length = n by rw [HM.out.2.1, thinF_len, hn])
  have HL' := Lib.hid (show l'.length = N by rw [← HM.out.1.pad, padI_len])
  have HTL' := Lib.hid (show T'.length = N by rw [HM.out.2.2.1, thinF_len, HL'.out])
  have K47 := Lib.hid (fun bx br bY bb W1 (h : Rd W1 A (bools l)) (hc : Caps W1 bx br bY bb x0 r y0 b) => (show Calls Try.prog 47 #[.agg #[.int .i64 W, .int .i64 H, .slice A n c], .pointer (some ⟨bx, 0, none⟩), .pointer (some ⟨br, 0, none⟩), .pointer (some ⟨bY, 0, none⟩), .pointer (some ⟨bb, 0, none⟩)] W1 (WideN W' H' N l' W1) by
    have := wide_any W H W' H' x0 r y0 b bx br bY bb A l n c N W1 ok h hn hc hx hy hr0 hb0 hW' hH' (by omega) (by omega) hN
    rwa [HM.out.1.pad, wideN HL'.out] at this))
  have K47t := Lib.hid (fun bx br bY bb A1 c1 W1 (h : Rd W1 A1 (bools T)) (hc : Caps W1 bx br bY bb x0 r y0 b) => (show Calls Try.prog 47 #[.agg #[.int .i64 W, .int .i64 H, .slice A1 n c1], .pointer (some ⟨bx, 0, none⟩), .pointer (some ⟨br, 0, none⟩), .pointer (some ⟨bY, 0, none⟩), .pointer (some ⟨bb, 0, none⟩)] W1 (WideN W' H' N T' W1) by
    have := wide_any W H W' H' x0 r y0 b bx br bY bb A1 T n c1 N W1 ok h HTL.out.symm hc hx hy hr0 hb0 hW' hH' (by omega) (by omega) hN
    rwa [HM.out.1.thin, wideN HTL'.out] at this))
  have K37 := Lib.hid (fun W1 h => (show Calls Try.prog 37 #[.agg #[.int .i64 W, .int .i64 H, .slice A n c]] W1 (ThinPost W H n T 0 W1) by rw [HM.out.2.1]; exact thin_ok W H A l n c W1 ok h hn))
  have K37b := Lib.hid (fun A1 c1 W1 h => (show Calls Try.prog 37 #[.agg #[.int .i64 W', .int .i64 H', .slice A1 N c1]] W1 (ThinPost W' H' N T' 0 W1) by rw [HM.out.2.2.1]; exact thin_ok W' H' A1 l' N c1 W1 ok' h HL'.out.symm))
  obtain ⟨pn, hpn⟩ : ∃ x, x = ridgesF W H l := ⟨_, rfl⟩
  obtain ⟨pm, hpm⟩ : ∃ x, x = lakesF W H l := ⟨_, rfl⟩
  have K29 := Lib.hid (fun W1 h => (show Calls Try.prog 29 #[.agg #[.int .i64 W, .int .i64 H, .slice A n c]] W1 fun e w' => e = .returned (.tuple #[.int .i64 pn, .int .i64 pm, .int .i64 0]) ∧ Below W1.heap.size W1 w' by rw [hpn, hpm]; exact parts_ok W H A l n c W1 ok h hn))
  have K29b := Lib.hid (fun A1 c1 W1 h => (show Calls Try.prog 29 #[.agg #[.int .i64 W', .int .i64 H', .slice A1 N c1]] W1 fun e w' => e = .returned (.tuple #[.int .i64 pn, .int .i64 pm, .int .i64 0]) ∧ Below W1.heap.size W1 w' by rw [hpn, hpm, ← HM.out.1.rid, ← HM.out.1.lak]; exact parts_ok W' H' A1 l' N c1 W1 ok' h HL'.out.symm))
  have K39 := Lib.hid (fun W1 h => (show Calls Try.prog 39 #[.agg #[.int .i64 W, .int .i64 H, .slice A n c], .int .i64 0] W1 (MinPost W H l ms 0 W1) by rw [HM.out.2.2.2.1]; exact min_ok W H 0 A l n c W1 ok (by decide) h hn))
  have K39b := Lib.hid (fun A1 c1 W1 h => (show Calls Try.prog 39 #[.agg #[.int .i64 W', .int .i64 H', .slice A1 N c1], .int .i64 0] W1 (MinPost W' H' l' ms' 0 W1) by rw [HM.out.2.2.2.2]; exact min_ok W' H' 0 A1 l' N c1 W1 ok' (by decide) h HL'.out.symm))
  have HN4 : n ≤ 400 ∧ N ≤ 400 := by
    have a1 : W * H ≤ 20 * 20 := Int.mul_le_mul (by omega) (by omega) (by omega) (by omega)
    have a2 : W' * H' ≤ 20 * 20 := Int.mul_le_mul (by omega) (by omega) (by omega) (by omega)
    omega
  obtain ⟨hn4, hN4⟩ := HN4
  have HML := Lib.hid (show ms'.length = ms.length by rw [HM.out.1.min, List.length_map])
  have HMB := Lib.hid (show ms.length ≤ 400 by have := minI_len W H l 0 n; rw [HM.out.2.2.2.1]; omega)
  have K44b := Lib.hid (fun A1 c1 W1 => (show Calls Try.prog 44 #[.agg #[.int .i64 W, .int .i64 H, .slice A1 n c1]] W1 fun e w' => e = .returned (.bool true) ∧ Below W1.heap.size W1 w' by have := valid_any W H A1 n c1 W1; rwa [ok] at this))
  have K22 := Lib.hid (fun A1 A2 c1 c2 W1 h h' => same_self W' H' A1 A2 T' N c1 c2 W1 h h' HTL'.out.symm (by omega))
  have K41 := Lib.hid (fun A1 A2 c1 c2 W1 h h' => sameMin_yes W' H' l' ms' A1 A2 ms.length c1 c2 W1 h h' HML.out.symm (by have := HMB.out; omega))
  have HMV := Lib.hid HM.out.1.mnt
  have HMM := Lib.hid HM.out.1.min
  have HBD := Lib.hid (show ∀ i (hi : i < ms.length), (0 ≤ ms[i].1 ∧ ms[i].1 ≤ 20) ∧ 0 ≤ ms[i].2 ∧ ms[i].2 ≤ 20 from fun i hi => by
    have hm : ms[i] ∈ minI W H l 0 n := by rw [← HM.out.2.2.2.1]; exact List.getElem_mem hi
    have hg := (List.mem_filter.1 hm).2
    simp only [goodP, Bool.and_eq_true, decide_eq_true_eq] at hg
    omega)
  have CAP := Lib.hid (fun (W1 : World) bx br bY bb h1 h2 h3 h4 => (⟨h1, h2, h3, h4⟩ : Caps W1 bx br bY bb x0 r y0 b))
  obtain ⟨z1, z2⟩ := hx
  obtain ⟨z3, z4⟩ := hy
  clear hr hn ok ok' hnn HM hpn hpm hN hf1 hf2 hW' hH' HTL HL' HTL'
  as_aux_lemma =>
    go_enter Try.func10, Try.ntmps10
    go_wp2_with fail
    refine (alive_any _).mono ?_
    rintro e w1 ⟨rfl, hb1⟩
    have S1 := Lib.hid (S0.out.ext hb1)
    clear hb1 S0
    obtain ⟨t2_0, t2_1, t2_2, _⟩ := (S1.out.bx 2 rfl).c3
    have lt2 := (S1.out.bx 2 rfl).2.2
    go_wp2_with fail
    refine (K44.out _).mono ?_
    rintro e w2 ⟨rfl, hb2⟩
    have S2 := Lib.hid (S1.out.ext hb2)
    clear hb2 S1 t2_0 t2_1 t2_2 lt2
    obtain ⟨t2_0, t2_1, t2_2, _⟩ := (S2.out.bx 2 rfl).c3
    have lt2 := (S2.out.bx 2 rfl).2.2
    obtain ⟨t1_0, _⟩ := (S2.out.bx 1 rfl).c1
    have lt1 := (S2.out.bx 1 rfl).2.2
    obtain ⟨t0_0, _⟩ := (S2.out.bx 0 rfl).c1
    have lt0 := (S2.out.bx 0 rfl).2.2
    clear K44
    go_upto_region 5 with fail
    have S3 := Lib.hid ((S2.out.new' 3 #[.int .i64 x0] (B := w2.heap.size) rfl).new' 3 #[.int .i64 y0] (B := w2.heap.size + 1) (by simp))
    generalize ((w2.alloc _).alloc _) = w3 at *
    generalize w2.heap.size = m at *
    clear S2 t2_0 t2_1 t2_2 lt2 t1_0 lt1 t0_0 lt0
    clear e1 e2 e3 e4 d1 d2
    obtain ⟨t4_0, t4_1, t4_2, _⟩ := (S3.out.bx 4 rfl).c3
    have lt4 := (S3.out.bx 4 rfl).2.2
    go_wp2_with fail
    refine (K37.out _ (HF.out _ S3.out.bel)).mono ?_
    rintro e w4 ⟨A1, c1, rfl, hO4⟩
    have S4 := Lib.hid ((S3.out.call hO4).cast (qs := [row 4 1 (.slice A1 n c1) n (bools T), box (m + 1) 3 [.int .i64 y0], box m 3 [.int .i64 x0], box (w.heap.size + 1 + 1) 5 [.int .u8 b], box (w.heap.size + 1) 5 [.int .u8 r], box w.heap.size 34 [.int .i64 W, .int .i64 H, .slice A n c]]) rfl)
    clear hO4 S3 t4_0 t4_1 t4_2 lt4
    go_upto_region 7 with fail
    have S5 := Lib.hid ((S4.out.new' 34 #[.int .i64 W, .int .i64 H, .slice A1 n c1] (B := w4.heap.size) rfl).cast (qs := [box w4.heap.size 34 [.int .i64 W, .int .i64 H, .slice A1 n c1], row 4 1 (.slice A1 n c1) n (bools T), box (m + 1) 3 [.int .i64 y0], box m 3 [.int .i64 x0], box (w.heap.size + 1 + 1) 5 [.int .u8 b], box (w.heap.size + 1) 5 [.int .u8 r], box w.heap.size 34 [.int .i64 W, .int .i64 H, .slice A n c]]) rfl)
    generalize w4.alloc (.cells #[.int .i64 W, .int .i64 H, .slice A1 n c1] 34) = w5 at *
    generalize w4.heap.size = Ba at *
    clear S4
    obtain ⟨t6_0, t6_1, t6_2, _⟩ := (S5.out.bx 6 rfl).c3
    have lt6 := (S5.out.bx 6 rfl).2.2
    go_wp2_with fail
    refine (K47.out m (w.heap.size + 1) (m + 1) (w.heap.size + 1 + 1) _ (HF.out _ S5.out.bel) (CAP.out _ m (w.heap.size + 1) (m + 1) (w.heap.size + 1 + 1) (S5.out.bx 3 rfl) (S5.out.bx 5 rfl) (S5.out.bx 2 rfl) (S5.out.bx 4 rfl))).mono ?_
    rintro e w6 ⟨A2, c2, rfl, hO6⟩
    have S6 := Lib.hid ((S5.out.call hO6).cast (qs := [row 4 1 (.slice A2 N c2) N (bools l'), box Ba 34 [.int .i64 W, .int .i64 H, .slice A1 n c1], row 4 1 (.slice A1 n c1) n (bools T), box (m + 1) 3 [.int .i64 y0], box m 3 [.int .i64 x0], box (w.heap.size + 1 + 1) 5 [.int .u8 b], box (w.heap.size + 1) 5 [.int .u8 r], box w.heap.size 34 [.int .i64 W, .int .i64 H, .slice A n c]]) rfl)
    clear hO6 S5 t6_0 t6_1 t6_2 lt6
    go_wp2_with fail
    refine (K37b.out A2 c2 _ (S6.out.rd 0 rfl)).mono ?_
    rintro e w7 ⟨A3, c3, rfl, hO7⟩
    have S7 := Lib.hid ((S6.out.call hO7).cast (qs := [row 4 1 (.slice A3 N c3) N (bools T'), row 4 1 (.slice A2 N c2) N (bools l'), box Ba 34 [.int .i64 W, .int .i64 H, .slice A1 n c1], row 4 1 (.slice A1 n c1) n (bools T), box (m + 1) 3 [.int .i64 y0], box m 3 [.int .i64 x0], box (w.heap.size + 1 + 1) 5 [.int .u8 b], box (w.heap.size + 1) 5 [.int .u8 r], box w.heap.size 34 [.int .i64 W, .int .i64 H, .slice A n c]]) rfl)
    clear hO7 S6
    go_upto_region 8 with fail
    have S8 := Lib.hid ((S7.out.new' 34 #[.int .i64 W', .int .i64 H', .slice A3 N c3] (B := w7.heap.size) rfl).cast (qs := [box w7.heap.size 34 [.int .i64 W', .int .i64 H', .slice A3 N c3], row 4 1 (.slice A3 N c3) N (bools T'), row 4 1 (.slice A2 N c2) N (bools l'), box Ba 34 [.int .i64 W, .int .i64 H, .slice A1 n c1], row 4 1 (.slice A1 n c1) n (bools T), box (m + 1) 3 [.int .i64 y0], box m 3 [.int .i64 x0], box (w.heap.size + 1 + 1) 5 [.int .u8 b], box (w.heap.size + 1) 5 [.int .u8 r], box w.heap.size 34 [.int .i64 W, .int .i64 H, .slice A n c]]) rfl)
    generalize w7.alloc (.cells #[.int .i64 W', .int .i64 H', .slice A3 N c3] 34) = w8 at *
    generalize w7.heap.size = Bb at *
    clear S7
    obtain ⟨t9_0, t9_1, t9_2, _⟩ := (S8.out.bx 9 rfl).c3
    have lt9 := (S8.out.bx 9 rfl).2.2
    go_wp2_with fail
    refine (K29.out _ (HF.out _ S8.out.bel)).mono ?_
    rintro e w9 ⟨rfl, hb9⟩
    have S9 := Lib.hid (S8.out.ext hb9)
    clear hb9 S8 t9_0 t9_1 t9_2 lt9
    obtain ⟨t9_0, t9_1, t9_2, _⟩ := (S9.out.bx 9 rfl).c3
    have lt9 := (S9.out.bx 9 rfl).2.2
    go_wp2_with fail
    refine (K47.out m (w.heap.size + 1) (m + 1) (w.heap.size + 1 + 1) _ (HF.out _ S9.out.bel) (CAP.out _ m (w.heap.size + 1) (m + 1) (w.heap.size + 1 + 1) (S9.out.bx 6 rfl) (S9.out.bx 8 rfl) (S9.out.bx 5 rfl) (S9.out.bx 7 rfl))).mono ?_
    rintro e w10 ⟨A4, c4, rfl, hO10⟩
    have S10 := Lib.hid ((S9.out.call hO10).cast (qs := [row 4 1 (.slice A4 N c4) N (bools l'), box Bb 34 [.int .i64 W', .int .i64 H', .slice A3 N c3], row 4 1 (.slice A3 N c3) N (bools T'), row 4 1 (.slice A2 N c2) N (bools l'), box Ba 34 [.int .i64 W, .int .i64 H, .slice A1 n c1], row 4 1 (.slice A1 n c1) n (bools T), box (m + 1) 3 [.int .i64 y0], box m 3 [.int .i64 x0], box (w.heap.size + 1 + 1) 5 [.int .u8 b], box (w.heap.size + 1) 5 [.int .u8 r], box w.heap.size 34 [.int .i64 W, .int .i64 H, .slice A n c]]) rfl)
    clear hO10 S9 t9_0 t9_1 t9_2 lt9
    go_wp2_with fail
    refine (K29b.out A4 c4 _ (S10.out.rd 0 rfl)).mono ?_
    rintro e w11 ⟨rfl, hb11⟩
    have S11 := Lib.hid (S10.out.ext hb11)
    clear hb11 S10
    have S12 := Lib.hid (S11.out.sub [1, 2, 4, 5, 6, 7, 8, 9, 10] (by decide) (qs := [box Bb 34 [.int .i64 W', .int .i64 H', .slice A3 N c3], row 4 1 (.slice A3 N c3) N (bools T'), box Ba 34 [.int .i64 W, .int .i64 H, .slice A1 n c1], row 4 1 (.slice A1 n c1) n (bools T), box (m + 1) 3 [.int .i64 y0], box m 3 [.int .i64 x0], box (w.heap.size + 1 + 1) 5 [.int .u8 b], box (w.heap.size + 1) 5 [.int .u8 r], box w.heap.size 34 [.int .i64 W, .int .i64 H, .slice A n c]]) rfl)
    clear S11
    obtain ⟨t8_0, t8_1, t8_2, _⟩ := (S12.out.bx 8 rfl).c3
    have lt8 := (S12.out.bx 8 rfl).2.2
    go_wp2_with fail
    refine (K39.out _ (HF.out _ S12.out.bel)).mono ?_
    rintro e w13 ⟨A5, c5, rfl, hO13⟩
    have S13 := Lib.hid ((S12.out.call hO13).cast (qs := [row 77 4 (.slice A5 ms.length c5) ms.length (flat (mntE W H l) ms), box Bb 34 [.int .i64 W', .int .i64 H', .slice A3 N c3], row 4 1 (.slice A3 N c3) N (bools T'), box Ba 34 [.int .i64 W, .int .i64 H, .slice A1 n c1], row 4 1 (.slice A1 n c1) n (bools T), box (m + 1) 3 [.int .i64 y0], box m 3 [.int .i64 x0], box (w.heap.size + 1 + 1) 5 [.int .u8 b], box (w.heap.size + 1) 5 [.int .u8 r], box w.heap.size 34 [.int .i64 W, .int .i64 H, .slice A n c]]) rfl)
    clear hO13 S12 t8_0 t8_1 t8_2 lt8
    obtain ⟨t9_0, t9_1, t9_2, _⟩ := (S13.out.bx 9 rfl).c3
    have lt9 := (S13.out.bx 9 rfl).2.2
    go_wp2_with fail
    refine (K47.out m (w.heap.size + 1) (m + 1) (w.heap.size + 1 + 1) _ (HF.out _ S13.out.bel) (CAP.out _ m (w.heap.size + 1) (m + 1) (w.heap.size + 1 + 1) (S13.out.bx 6 rfl) (S13.out.bx 8 rfl) (S13.out.bx 5 rfl) (S13.out.bx 7 rfl))).mono ?_
    rintro e w14 ⟨A6, c6, rfl, hO14⟩
    have S14 := Lib.hid ((S13.out.call hO14).cast (qs := [row 4 1 (.slice A6 N c6) N (bools l'), row 77 4 (.slice A5 ms.length c5) ms.length (flat (mntE W H l) ms), box Bb 34 [.int .i64 W', .int .i64 H', .slice A3 N c3], row 4 1 (.slice A3 N c3) N (bools T'), box Ba 34 [.int .i64 W, .int .i64 H, .slice A1 n c1], row 4 1 (.slice A1 n c1) n (bools T), box (m + 1) 3 [.int .i64 y0], box m 3 [.int .i64 x0], box (w.heap.size + 1 + 1) 5 [.int .u8 b], box (w.heap.size + 1) 5 [.int .u8 r], box w.heap.size 34 [.int .i64 W, .int .i64 H, .slice A n c]]) rfl)
    clear hO14 S13 t9_0 t9_1 t9_2 lt9
    replace K39b := Lib.hid (fun A1 c1 W1 h => (show Calls Try.prog 39 #[.agg #[.int .i64 W', .int .i64 H', .slice A1 N c1], .int .i64 0] W1 (fun e w' => ∃ A c, e = .returned (.tuple #[.slice A ms.length c, .int .i64 0]) ∧ Own W1 w' [row 77 4 (.slice A ms.length c) ms.length (flat (mntE W' H' l') ms')]) by have := K39b.out A1 c1 W1 h; unfold MinPost at this; rwa [HML.out] at this))
    go_wp2_with fail
    refine (K39b.out A6 c6 _ (S14.out.rd 0 rfl)).mono ?_
    rintro e w15 ⟨A7, c7, rfl, hO15⟩
    have S15 := Lib.hid ((S14.out.call hO15).cast (qs := [row 77 4 (.slice A7 ms.length c7) ms.length (flat (mntE W' H' l') ms'), row 4 1 (.slice A6 N c6) N (bools l'), row 77 4 (.slice A5 ms.length c5) ms.length (flat (mntE W H l) ms), box Bb 34 [.int .i64 W', .int .i64 H', .slice A3 N c3], row 4 1 (.slice A3 N c3) N (bools T'), box Ba 34 [.int .i64 W, .int .i64 H, .slice A1 n c1], row 4 1 (.slice A1 n c1) n (bools T), box (m + 1) 3 [.int .i64 y0], box m 3 [.int .i64 x0], box (w.heap.size + 1 + 1) 5 [.int .u8 b], box (w.heap.size + 1) 5 [.int .u8 r], box w.heap.size 34 [.int .i64 W, .int .i64 H, .slice A n c]]) rfl)
    clear hO15 S14
    have S16 := Lib.hid (S15.out.sub [0, 2, 3, 4, 5, 6, 7, 8, 9, 10] (by decide) (qs := [row 77 4 (.slice A7 ms.length c7) ms.length (flat (mntE W' H' l') ms'), row 77 4 (.slice A5 ms.length c5) ms.length (flat (mntE W H l) ms), box Bb 34 [.int .i64 W', .int .i64 H', .slice A3 N c3], row 4 1 (.slice A3 N c3) N (bools T'), box Ba 34 [.int .i64 W, .int .i64 H, .slice A1 n c1], row 4 1 (.slice A1 n c1) n (bools T), box (m + 1) 3 [.int .i64 y0], box m 3 [.int .i64 x0], box (w.heap.size + 1 + 1) 5 [.int .u8 b], box (w.heap.size + 1) 5 [.int .u8 r]]) rfl)
    clear S15
    go_upto_region 12 with fail
    refine wp_region_table 182 [(100, .is (.int .i64 0)), (101, .is (.bool false)), (102, .is (.bool false)), (103, .is (.int .i64 0)), (104, .is (.bool false)), (105, .is (.bool false)), (106, .is (.bool false)), (107, .is (.int .i64 0)), (108, .is (.bool false)), (109, .is (.bool false)), (110, .is (.bool false)), (111, .is (.int .i64 0)), (112, .is (.bool false)), (113, .is (.bool false)), (114, .is (.bool false)), (115, .is (.int .i64 0)), (116, .is (.bool false)), (117, .is (.bool false)), (118, .is (.bool false)), (119, .is (.int .i64 0)), (120, .is (.bool false)), (121, .is (.bool false)), (122, .is (.bool false)), (123, .is (.agg #[.int .i64 W, .int .i64 H, .slice A1 n c1])), (124, .is (.bool true)), (125, .is (.bool false)), (126, .is (.bool false)), (127, .is (.bool false)), (128, .is (.func (.func 47) #[] #[.pointer (some ⟨m, 0, none⟩), .pointer (some ⟨w.heap.size + 1, 0, none⟩), .pointer (some ⟨m + 1, 0, none⟩), .pointer (some ⟨w.heap.size + 1 + 1, 0, none⟩)])), (129, .is (.agg #[.int .i64 W, .int .i64 H, .slice A1 n c1])), (130, .rd (fun A c => .agg #[.int .i64 W', .int .i64 H', .slice A N c]) (bools T')), (131, .is (.agg #[.int .i64 W', .int .i64 H', .slice A3 N c3])), (132, .is (.bool true)), (133, .is (.bool false)), (134, .is (.bool false)), (135, .is (.bool false)), (136, .is (.int .i64 pn)), (137, .is (.int .i64 pn)), (138, .is (.bool false)), (139, .is (.bool false)), (140, .is (.bool false)), (141, .is (.int .i64 pm)), (142, .is (.int .i64 pm)), (143, .is (.bool false)), (144, .is (.bool false)), (145, .is (.bool false)), (146, .is (.slice A5 ms.length c5)), (147, .is (.int .i64 (ms.length : Nat))), (148, .is (.slice A7 ms.length c7)), (149, .is (.int .i64 (ms.length : Nat))), (150, .is (.bool false)), (151, .is (.bool false))] (S16.out) (by kernel_rfl) (by kernel_rfl) [100, 101, 102, 103, 104, 105, 106, 107, 108, 109, 110, 111, 112, 113, 114, 115, 116, 117, 118, 119, 120, 121, 122, 123, 124, 125, 126, 127, 128, 129, 130, 131, 132, 133, 134, 135, 136, 137, 138, 139, 140, 141, 142, 143, 144, 145, 146, 147, 148, 149, 150, 151] (by kernel_rfl) rfl (by kernel_rfl) ?_ ?_
    · refine ⟨StepT.of [] (by kernel_rfl) ?_, ?_⟩
      · intro v hO
        exact StepG.val 100 (by kernel_rfl) (by kernel_rfl) rfl (by simp) rfl (Below.refl _ _) rfl
      refine ⟨StepT.of [100] (by kernel_rfl) ?_, ?_⟩
      · intro v hO x100 h100
        obtain rfl : x100 = (.int .i64 0) := h100
        exact StepG.val 101 (by kernel_rfl) (by kernel_rfl) rfl (by simp [Act.put]) rfl (Below.refl _ _) rfl
      refine ⟨StepT.of [101] (by kernel_rfl) ?_, ?_⟩
      · intro v hO x101 h101
        obtain rfl : x101 = (.bool false) := h101
        exact StepG.val 102 (by kernel_rfl) (by kernel_rfl) rfl (by simp [Act.put]) rfl (Below.refl _ _) rfl
      refine ⟨StepT.of [102] (by kernel_rfl) ?_, ?_⟩
      · intro v hO x102 h102
        obtain rfl : x102 = (.bool false) := h102
        exact StepG.val 103 (by kernel_rfl) (by kernel_rfl) rfl (by simp [Act.put]) rfl (Below.refl _ _) rfl
      refine ⟨StepT.of [103, 102] (by kernel_rfl) ?_, ?_⟩
      · intro v hO x103 h103 x102 h102
        obtain rfl : x103 = (.int .i64 0) := h103
        obtain rfl : x102 = (.bool false) := h102
        exact StepG.val 104 (by kernel_rfl) (by kernel_rfl) rfl (by simp [Act.put]) rfl (Below.refl _ _) rfl
      refine ⟨StepT.of [102, 104] (by kernel_rfl) ?_, ?_⟩
      · intro v hO x102 h102 x104 h104
        obtain rfl : x102 = (.bool false) := h102
        obtain rfl : x104 = (.bool false) := h104
        exact StepG.val 105 (by kernel_rfl) (by kernel_rfl) rfl (by simp [Act.put]) rfl (Below.refl _ _) rfl
      refine ⟨StepT.of [105] (by kernel_rfl) ?_, ?_⟩
      · intro v hO x105 h105
        obtain rfl : x105 = (.bool false) := h105
        exact StepG.val 106 (by kernel_rfl) (by kernel_rfl) rfl (by simp [Act.put]) rfl (Below.refl _ _) rfl
      refine ⟨StepT.of [106] (by kernel_rfl) ?_, ?_⟩
      · intro v hO x106 h106
        obtain rfl : x106 = (.bool false) := h106
        exact StepG.val 107 (by kernel_rfl) (by kernel_rfl) rfl (by simp [Act.put]) rfl (Below.refl _ _) rfl
      refine ⟨StepT.of [107, 106] (by kernel_rfl) ?_, ?_⟩
      · intro v hO x107 h107 x106 h106
        obtain rfl : x107 = (.int .i64 0) := h107
        obtain rfl : x106 = (.bool false) := h106
        exact StepG.val 108 (by kernel_rfl) (by kernel_rfl) rfl (by simp [Act.put]) rfl (Below.refl _ _) rfl
      refine ⟨StepT.of [106, 108] (by kernel_rfl) ?_, ?_⟩
      · intro v hO x106 h106 x108 h108
        obtain rfl : x106 = (.bool false) := h106
        obtain rfl : x108 = (.bool false) := h108
        exact StepG.val 109 (by kernel_rfl) (by kernel_rfl) rfl (by simp [Act.put]) rfl (Below.refl _ _) rfl
      refine ⟨StepT.of [109] (by kernel_rfl) ?_, ?_⟩
      · intro v hO x109 h109
        obtain rfl : x109 = (.bool false) := h109
        exact StepG.val 110 (by kernel_rfl) (by kernel_rfl) rfl (by simp [Act.put]) rfl (Below.refl _ _) rfl
      refine ⟨StepT.of [110] (by kernel_rfl) ?_, ?_⟩
      · intro v hO x110 h110
        obtain rfl : x110 = (.bool false) := h110
        exact StepG.val 111 (by kernel_rfl) (by kernel_rfl) rfl (by simp [Act.put]) rfl (Below.refl _ _) rfl
      refine ⟨StepT.of [111, 110] (by kernel_rfl) ?_, ?_⟩
      · intro v hO x111 h111 x110 h110
        obtain rfl : x111 = (.int .i64 0) := h111
        obtain rfl : x110 = (.bool false) := h110
        exact StepG.val 112 (by kernel_rfl) (by kernel_rfl) rfl (by simp [Act.put]) rfl (Below.refl _ _) rfl
      refine ⟨StepT.of [110, 112] (by kernel_rfl) ?_, ?_⟩
      · intro v hO x110 h110 x112 h112
        obtain rfl : x110 = (.bool false) := h110
        obtain rfl : x112 = (.bool false) := h112
        exact StepG.val 113 (by kernel_rfl) (by kernel_rfl) rfl (by simp [Act.put]) rfl (Below.refl _ _) rfl
      refine ⟨StepT.of [113] (by kernel_rfl) ?_, ?_⟩
      · intro v hO x113 h113
        obtain rfl : x113 = (.bool false) := h113
        exact StepG.val 114 (by kernel_rfl) (by kernel_rfl) rfl (by simp [Act.put]) rfl (Below.refl _ _) rfl
      refine ⟨StepT.of [114] (by kernel_rfl) ?_, ?_⟩
      · intro v hO x114 h114
        obtain rfl : x114 = (.bool false) := h114
        exact StepG.val 115 (by kernel_rfl) (by kernel_rfl) rfl (by simp [Act.put]) rfl (Below.refl _ _) rfl
      refine ⟨StepT.of [115, 114] (by kernel_rfl) ?_, ?_⟩
      · intro v hO x115 h115 x114 h114
        obtain rfl : x115 = (.int .i64 0) := h115
        obtain rfl : x114 = (.bool false) := h114
        exact StepG.val 116 (by kernel_rfl) (by kernel_rfl) rfl (by simp [Act.put]) rfl (Below.refl _ _) rfl
      refine ⟨StepT.of [114, 116] (by kernel_rfl) ?_, ?_⟩
      · intro v hO x114 h114 x116 h116
        obtain rfl : x114 = (.bool false) := h114
        obtain rfl : x116 = (.bool false) := h116
        exact StepG.val 117 (by kernel_rfl) (by kernel_rfl) rfl (by simp [Act.put]) rfl (Below.refl _ _) rfl
      refine ⟨StepT.of [117] (by kernel_rfl) ?_, ?_⟩
      · intro v hO x117 h117
        obtain rfl : x117 = (.bool false) := h117
        exact StepG.val 118 (by kernel_rfl) (by kernel_rfl) rfl (by simp [Act.put]) rfl (Below.refl _ _) rfl
      refine ⟨StepT.of [118] (by kernel_rfl) ?_, ?_⟩
      · intro v hO x118 h118
        obtain rfl : x118 = (.bool false) := h118
        exact StepG.val 119 (by kernel_rfl) (by kernel_rfl) rfl (by simp [Act.put]) rfl (Below.refl _ _) rfl
      refine ⟨StepT.of [119, 118] (by kernel_rfl) ?_, ?_⟩
      · intro v hO x119 h119 x118 h118
        obtain rfl : x119 = (.int .i64 0) := h119
        obtain rfl : x118 = (.bool false) := h118
        exact StepG.val 120 (by kernel_rfl) (by kernel_rfl) rfl (by simp [Act.put]) rfl (Below.refl _ _) rfl
      refine ⟨StepT.of [118, 120] (by kernel_rfl) ?_, ?_⟩
      · intro v hO x118 h118 x120 h120
        obtain rfl : x118 = (.bool false) := h118
        obtain rfl : x120 = (.bool false) := h120
        exact StepG.val 121 (by kernel_rfl) (by kernel_rfl) rfl (by simp [Act.put]) rfl (Below.refl _ _) rfl
      refine ⟨StepT.of [121] (by kernel_rfl) ?_, ?_⟩
      · intro v hO x121 h121
        obtain rfl : x121 = (.bool false) := h121
        exact StepG.val 122 (by kernel_rfl) (by kernel_rfl) rfl (by simp [Act.put]) rfl (Below.refl _ _) rfl
      refine ⟨StepT.of [122] (by kernel_rfl) ?_, ?_⟩
      · intro v hO x122 h122
        obtain rfl : x122 = (.bool false) := h122
        obtain ⟨t0, t1, t2, _⟩ := (hO.bx 4 rfl).c3
        exact StepG.val 123 (by kernel_rfl) (by go_simp) rfl (by simp [Act.put]) rfl (Below.refl _ _) rfl
      refine ⟨StepT.of [123, 122] (by kernel_rfl) ?_, ?_⟩
      · intro v hO x123 h123 x122 h122
        obtain rfl : x123 = (.agg #[.int .i64 W, .int .i64 H, .slice A1 n c1]) := h123
        obtain rfl : x122 = (.bool false) := h122
        exact StepG.call 124 (by kernel_rfl) (by kernel_rfl) rfl (by simp [Act.put]) rfl (call_true (K44b.out A1 c1 v))
      refine ⟨StepT.of [124, 122] (by kernel_rfl) ?_, ?_⟩
      · intro v hO x124 h124 x122 h122
        obtain rfl : x124 = (.bool true) := h124
        obtain rfl : x122 = (.bool false) := h122
        exact StepG.val 125 (by kernel_rfl) (by kernel_rfl) rfl (by simp [Act.put]) rfl (Below.refl _ _) rfl
      refine ⟨StepT.of [122, 125] (by kernel_rfl) ?_, ?_⟩
      · intro v hO x122 h122 x125 h125
        obtain rfl : x122 = (.bool false) := h122
        obtain rfl : x125 = (.bool false) := h125
        exact StepG.val 126 (by kernel_rfl) (by kernel_rfl) rfl (by simp [Act.put]) rfl (Below.refl _ _) rfl
      refine ⟨StepT.of [126] (by kernel_rfl) ?_, ?_⟩
      · intro v hO x126 h126
        obtain rfl : x126 = (.bool false) := h126
        exact StepG.val 127 (by kernel_rfl) (by kernel_rfl) rfl (by simp [Act.put]) rfl (Below.refl _ _) rfl
      refine ⟨StepT.of [127] (by kernel_rfl) ?_, ?_⟩
      · intro v hO x127 h127
        obtain rfl : x127 = (.bool false) := h127
        exact StepG.val 128 (by kernel_rfl) (by kernel_rfl) rfl (by simp [Act.put]) rfl (Below.refl _ _) rfl
      refine ⟨StepT.of [127] (by kernel_rfl) ?_, ?_⟩
      · intro v hO x127 h127
        obtain rfl : x127 = (.bool false) := h127
        obtain ⟨t0, t1, t2, _⟩ := (hO.bx 4 rfl).c3
        exact StepG.val 129 (by kernel_rfl) (by go_simp) rfl (by simp [Act.put]) rfl (Below.refl _ _) rfl
      refine ⟨StepT.of [128, 129, 127] (by kernel_rfl) ?_, ?_⟩
      · intro v hO x128 h128 x129 h129 x127 h127
        obtain rfl : x128 = (.func (.func 47) #[] #[.pointer (some ⟨m, 0, none⟩), .pointer (some ⟨w.heap.size + 1, 0, none⟩), .pointer (some ⟨m + 1, 0, none⟩), .pointer (some ⟨w.heap.size + 1 + 1, 0, none⟩)]) := h128
        obtain rfl : x129 = (.agg #[.int .i64 W, .int .i64 H, .slice A1 n c1]) := h129
        obtain rfl : x127 = (.bool false) := h127
        refine StepG.call (f := 47) (w1 := v) (args := #[.agg #[.int .i64 W, .int .i64 H, .slice A1 n c1], .pointer (some ⟨m, 0, none⟩), .pointer (some ⟨w.heap.size + 1, 0, none⟩), .pointer (some ⟨m + 1, 0, none⟩), .pointer (some ⟨w.heap.size + 1 + 1, 0, none⟩)]) 130 (by kernel_rfl) (by kernel_rfl) rfl (by simp [Act.put]) rfl ?_
        refine (K47t.out m (w.heap.size + 1) (m + 1) (w.heap.size + 1 + 1) A1 c1 v (hO.rd 5 rfl) (CAP.out _ _ _ _ _ (hO.bx 7 rfl) (hO.bx 9 rfl) (hO.bx 6 rfl) (hO.bx 8 rfl))).mono ?_
        rintro e w9 ⟨A9, c9, rfl, hO9⟩
        exact ⟨_, rfl, hO9.bel, (show ∃ A c, _ = Value.agg #[.int .i64 W', .int .i64 H', .slice A N c] ∧ Rd w9 A (bools T') from ⟨A9, c9, rfl, hO9.rd 0 rfl⟩)⟩
      refine ⟨StepT.of [127] (by kernel_rfl) ?_, ?_⟩
      · intro v hO x127 h127
        obtain rfl : x127 = (.bool false) := h127
        obtain ⟨t0, t1, t2, _⟩ := (hO.bx 2 rfl).c3
        exact StepG.val 131 (by kernel_rfl) (by go_simp) rfl (by simp [Act.put]) rfl (Below.refl _ _) rfl
      refine ⟨StepT.of [130, 131, 127] (by kernel_rfl) ?_, ?_⟩
      · intro v hO x130 h130 x131 h131 x127 h127
        obtain ⟨A130, c130, rfl, r130⟩ := h130
        obtain rfl : x131 = (.agg #[.int .i64 W', .int .i64 H', .slice A3 N c3]) := h131
        obtain rfl : x127 = (.bool false) := h127
        exact StepG.call 132 (by kernel_rfl) (by kernel_rfl) rfl (by simp [Act.put]) rfl (call_true (K22.out A130 A3 c130 c3 v r130 (hO.rd 3 rfl)))
      refine ⟨StepT.of [132, 127] (by kernel_rfl) ?_, ?_⟩
      · intro v hO x132 h132 x127 h127
        obtain rfl : x132 = (.bool true) := h132
        obtain rfl : x127 = (.bool false) := h127
        exact StepG.val 133 (by kernel_rfl) (by kernel_rfl) rfl (by simp [Act.put]) rfl (Below.refl _ _) rfl
      refine ⟨StepT.of [127, 133] (by kernel_rfl) ?_, ?_⟩
      · intro v hO x127 h127 x133 h133
        obtain rfl : x127 = (.bool false) := h127
        obtain rfl : x133 = (.bool false) := h133
        exact StepG.val 134 (by kernel_rfl) (by kernel_rfl) rfl (by simp [Act.put]) rfl (Below.refl _ _) rfl
      refine ⟨StepT.of [134] (by kernel_rfl) ?_, ?_⟩
      · intro v hO x134 h134
        obtain rfl : x134 = (.bool false) := h134
        exact StepG.val 135 (by kernel_rfl) (by kernel_rfl) rfl (by simp [Act.put]) rfl (Below.refl _ _) rfl
      refine ⟨StepT.of [135] (by kernel_rfl) ?_, ?_⟩
      · intro v hO x135 h135
        obtain rfl : x135 = (.bool false) := h135
        exact StepG.val 136 (by kernel_rfl) (by kernel_rfl) rfl (by simp [Act.put]) rfl (Below.refl _ _) rfl
      refine ⟨StepT.of [135] (by kernel_rfl) ?_, ?_⟩
      · intro v hO x135 h135
        obtain rfl : x135 = (.bool false) := h135
        exact StepG.val 137 (by kernel_rfl) (by kernel_rfl) rfl (by simp [Act.put]) rfl (Below.refl _ _) rfl
      refine ⟨StepT.of [136, 137, 135] (by kernel_rfl) ?_, ?_⟩
      · intro v hO x136 h136 x137 h137 x135 h135
        obtain rfl : x136 = (.int .i64 pn) := h136
        obtain rfl : x137 = (.int .i64 pn) := h137
        obtain rfl : x135 = (.bool false) := h135
        exact StepG.val 138 (by kernel_rfl) (by go_simp; try simp) rfl (by simp [Act.put]) rfl (Below.refl _ _) rfl
      refine ⟨StepT.of [135, 138] (by kernel_rfl) ?_, ?_⟩
      · intro v hO x135 h135 x138 h138
        obtain rfl : x135 = (.bool false) := h135
        obtain rfl : x138 = (.bool false) := h138
        exact StepG.val 139 (by kernel_rfl) (by kernel_rfl) rfl (by simp [Act.put]) rfl (Below.refl _ _) rfl
      refine ⟨StepT.of [139] (by kernel_rfl) ?_, ?_⟩
      · intro v hO x139 h139
        obtain rfl : x139 = (.bool false) := h139
        exact StepG.val 140 (by kernel_rfl) (by kernel_rfl) rfl (by simp [Act.put]) rfl (Below.refl _ _) rfl
      refine ⟨StepT.of [140] (by kernel_rfl) ?_, ?_⟩
      · intro v hO x140 h140
        obtain rfl : x140 = (.bool false) := h140
        exact StepG.val 141 (by kernel_rfl) (by kernel_rfl) rfl (by simp [Act.put]) rfl (Below.refl _ _) rfl
      refine ⟨StepT.of [140] (by kernel_rfl) ?_, ?_⟩
      · intro v hO x140 h140
        obtain rfl : x140 = (.bool false) := h140
        exact StepG.val 142 (by kernel_rfl) (by kernel_rfl) rfl (by simp [Act.put]) rfl (Below.refl _ _) rfl
      refine ⟨StepT.of [141, 142, 140] (by kernel_rfl) ?_, ?_⟩
      · intro v hO x141 h141 x142 h142 x140 h140
        obtain rfl : x141 = (.int .i64 pm) := h141
        obtain rfl : x142 = (.int .i64 pm) := h142
        obtain rfl : x140 = (.bool false) := h140
        exact StepG.val 143 (by kernel_rfl) (by go_simp; try simp) rfl (by simp [Act.put]) rfl (Below.refl _ _) rfl
      refine ⟨StepT.of [140, 143] (by kernel_rfl) ?_, ?_⟩
      · intro v hO x140 h140 x143 h143
        obtain rfl : x140 = (.bool false) := h140
        obtain rfl : x143 = (.bool false) := h143
        exact StepG.val 144 (by kernel_rfl) (by kernel_rfl) rfl (by simp [Act.put]) rfl (Below.refl _ _) rfl
      refine ⟨StepT.of [144] (by kernel_rfl) ?_, ?_⟩
      · intro v hO x144 h144
        obtain rfl : x144 = (.bool false) := h144
        exact StepG.val 145 (by kernel_rfl) (by kernel_rfl) rfl (by simp [Act.put]) rfl (Below.refl _ _) rfl
      refine ⟨StepT.of [145] (by kernel_rfl) ?_, ?_⟩
      · intro v hO x145 h145
        obtain rfl : x145 = (.bool false) := h145
        exact StepG.val 146 (by kernel_rfl) (by kernel_rfl) rfl (by simp [Act.put]) rfl (Below.refl _ _) rfl
      refine ⟨StepT.of [146, 145] (by kernel_rfl) ?_, ?_⟩
      · intro v hO x146 h146 x145 h145
        obtain rfl : x146 = (.slice A5 ms.length c5) := h146
        obtain rfl : x145 = (.bool false) := h145
        exact StepG.val 147 (by kernel_rfl) (by kernel_rfl) rfl (by simp [Act.put]) rfl (Below.refl _ _) rfl
      refine ⟨StepT.of [145] (by kernel_rfl) ?_, ?_⟩
      · intro v hO x145 h145
        obtain rfl : x145 = (.bool false) := h145
        exact StepG.val 148 (by kernel_rfl) (by kernel_rfl) rfl (by simp [Act.put]) rfl (Below.refl _ _) rfl
      refine ⟨StepT.of [148, 145] (by kernel_rfl) ?_, ?_⟩
      · intro v hO x148 h148 x145 h145
        obtain rfl : x148 = (.slice A7 ms.length c7) := h148
        obtain rfl : x145 = (.bool false) := h145
        exact StepG.val 149 (by kernel_rfl) (by kernel_rfl) rfl (by simp [Act.put]) rfl (Below.refl _ _) rfl
      refine ⟨StepT.of [147, 149, 145] (by kernel_rfl) ?_, ?_⟩
      · intro v hO x147 h147 x149 h149 x145 h145
        obtain rfl : x147 = (.int .i64 (ms.length : Nat)) := h147
        obtain rfl : x149 = (.int .i64 (ms.length : Nat)) := h149
        obtain rfl : x145 = (.bool false) := h145
        exact StepG.val 150 (by kernel_rfl) (by go_simp; try simp) rfl (by simp [Act.put]) rfl (Below.refl _ _) rfl
      refine ⟨StepT.of [145, 150] (by kernel_rfl) ?_, ?_⟩
      · intro v hO x145 h145 x150 h150
        obtain rfl : x145 = (.bool false) := h145
        obtain rfl : x150 = (.bool false) := h150
        exact StepG.val 151 (by kernel_rfl) (by kernel_rfl) rfl (by simp [Act.put]) rfl (Below.refl _ _) rfl
      exact trivial
    · intro v hO x100 h100 x101 h101 x102 h102 x103 h103 x104 h104 x105 h105 x106 h106 x107 h107 x108 h108 x109 h109 x110 h110 x111 h111 x112 h112 x113 h113 x114 h114 x115 h115 x116 h116 x117 h117 x118 h118 x119 h119 x120 h120 x121 h121 x122 h122 x123 h123 x124 h124 x125 h125 x126 h126 x127 h127 x128 h128 x129 h129 x130 h130 x131 h131 x132 h132 x133 h133 x134 h134 x135 h135 x136 h136 x137 h137 x138 h138 x139 h139 x140 h140 x141 h141 x142 h142 x143 h143 x144 h144 x145 h145 x146 h146 x147 h147 x148 h148 x149 h149 x150 h150 x151 h151
      obtain rfl : x100 = (.int .i64 0) := h100
      obtain rfl : x101 = (.bool false) := h101
      obtain rfl : x102 = (.bool false) := h102
      obtain rfl : x103 = (.int .i64 0) := h103
      obtain rfl : x104 = (.bool false) := h104
      obtain rfl : x105 = (.bool false) := h105
      obtain rfl : x106 = (.bool false) := h106
      obtain rfl : x107 = (.int .i64 0) := h107
      obtain rfl : x108 = (.bool false) := h108
      obtain rfl : x109 = (.bool false) := h109
      obtain rfl : x110 = (.bool false) := h110
      obtain rfl : x111 = (.int .i64 0) := h111
      obtain rfl : x112 = (.bool false) := h112
      obtain rfl : x113 = (.bool false) := h113
      obtain rfl : x114 = (.bool false) := h114
      obtain rfl : x115 = (.int .i64 0) := h115
      obtain rfl : x116 = (.bool false) := h116
      obtain rfl : x117 = (.bool false) := h117
      obtain rfl : x118 = (.bool false) := h118
      obtain rfl : x119 = (.int .i64 0) := h119
      obtain rfl : x120 = (.bool false) := h120
      obtain rfl : x121 = (.bool false) := h121
      obtain rfl : x122 = (.bool false) := h122
      obtain rfl : x123 = (.agg #[.int .i64 W, .int .i64 H, .slice A1 n c1]) := h123
      obtain rfl : x124 = (.bool true) := h124
      obtain rfl : x125 = (.bool false) := h125
      obtain rfl : x126 = (.bool false) := h126
      obtain rfl : x127 = (.bool false) := h127
      obtain rfl : x128 = (.func (.func 47) #[] #[.pointer (some ⟨m, 0, none⟩), .pointer (some ⟨w.heap.size + 1, 0, none⟩), .pointer (some ⟨m + 1, 0, none⟩), .pointer (some ⟨w.heap.size + 1 + 1, 0, none⟩)]) := h128
      obtain rfl : x129 = (.agg #[.int .i64 W, .int .i64 H, .slice A1 n c1]) := h129
      obtain ⟨A130, c130, rfl, r130⟩ := h130
      obtain rfl : x131 = (.agg #[.int .i64 W', .int .i64 H', .slice A3 N c3]) := h131
      obtain rfl : x132 = (.bool true) := h132
      obtain rfl : x133 = (.bool false) := h133
      obtain rfl : x134 = (.bool false) := h134
      obtain rfl : x135 = (.bool false) := h135
      obtain rfl : x136 = (.int .i64 pn) := h136
      obtain rfl : x137 = (.int .i64 pn) := h137
      obtain rfl : x138 = (.bool false) := h138
      obtain rfl : x139 = (.bool false) := h139
      obtain rfl : x140 = (.bool false) := h140
      obtain rfl : x141 = (.int .i64 pm) := h141
      obtain rfl : x142 = (.int .i64 pm) := h142
      obtain rfl : x143 = (.bool false) := h143
      obtain rfl : x144 = (.bool false) := h144
      obtain rfl : x145 = (.bool false) := h145
      obtain rfl : x146 = (.slice A5 ms.length c5) := h146
      obtain rfl : x147 = (.int .i64 (ms.length : Nat)) := h147
      obtain rfl : x148 = (.slice A7 ms.length c7) := h148
      obtain rfl : x149 = (.int .i64 (ms.length : Nat)) := h149
      obtain rfl : x150 = (.bool false) := h150
      obtain rfl : x151 = (.bool false) := h151
      have S30 := Lib.hid hO
      clear hO r130 S16
      simp only [stepFor, Act.put, List.setIfInBounds_toArray, List.set_cons_zero, List.set_cons_succ]
      have S31 := Lib.hid (S30.out.sub [0, 1, 6, 7] (by decide) (qs := [row 77 4 (.slice A7 ms.length c7) ms.length (flat (mntE W' H' l') ms'), row 77 4 (.slice A5 ms.length c5) ms.length (flat (mntE W H l) ms), box (m + 1) 3 [.int .i64 y0], box m 3 [.int .i64 x0]]) rfl)
      clear S30
      have hm4 := HMB.out
      go_wp2_with fail
      go_loopg [154] ms.length (fun q u154 wr => ∃ i : Nat, i ≤ ms.length ∧ u154 = .int .i64 i ∧ Hid (i + q = ms.length ∧ Own w wr [row 77 4 (.slice A7 ms.length c7) ms.length (flat (mntE W' H' l') ms'), row 77 4 (.slice A5 ms.length c5) ms.length (mixM W H W' H' x0 y0 l l' ms i), box (m + 1) 3 [.int .i64 y0], box m 3 [.int .i64 x0]]))
      case atStart => exact ⟨0, by omega, rfl, by omega, by rw [mix_zero]; exact S31.out⟩
      case round =>
        obtain ⟨i, hi, rfl, hI⟩ := hrel
        have I1 := Lib.hid hI.out.1
        have I2 := Lib.hid hI.out.2
        clear hI S31
        by_cases hlt : i < ms.length
        case neg => as_aux_lemma =>
          have hE := mix_all (W := W) (H := H) (W' := W') (H' := H') (x0 := x0) (y0 := y0) (l := l) (l' := l') (ms := ms)
          have hms : ms' = ms.map (shM x0 y0) := HMM.out
          rw [← hms] at hE
          have HI := Lib.hid (show i = ms.length by omega)
          have RL : Rd wr A5 (flat (mntE W' H' l') ms') := by have := I2.out.rd 1 rfl; rwa [HI.out, hE] at this
          have RK := Lib.hid (I2.out.rd 0 rfl)
          replace RL := Lib.hid RL
          have hni : ¬ (i : Int) < (ms.length : Int) := by omega
          clear hE hms hlt
          go_wp2_with fail
          refine (K41.out A5 A7 c5 c7 _ RL.out RK.out).mono ?_
          rintro e w40 ⟨rfl, hb40⟩
          have S40 := Lib.hid (I2.out.ext hb40)
          clear hb40 I2
          go_wp2_with fail
          go_ret
          exact ⟨rfl, S40.out.bel⟩
        as_aux_lemma =>
        obtain ⟨g, rfl⟩ := I2.out.rowAddr 1 rfl (by omega)
        have HAT := Lib.hid (mix_at (W := W) (H := H) (W' := W') (H' := H') (x0 := x0) (y0 := y0) (l := l) (l' := l') hlt HMV.out)
        have hbd := HBD.out i hlt
        have q0 := HAT.out.1
        have HAT2 := Lib.hid HAT.out.2.1
        have HAT3 := Lib.hid HAT.out.2.2
        clear HAT
        generalize ms[i] = p at *
        obtain ⟨px, py⟩ := p
        simp only at hbd q0 HAT2 HAT3
        obtain ⟨⟨v1, v2⟩, v3, v4⟩ := hbd
        have w1 : IntKind.i64.wrap (px + x0) = px + x0 := IntWalk.i64_in _ (by omega)
        have w2 : IntKind.i64.wrap (py + y0) = py + y0 := IntWalk.i64_in _ (by omega)
        have i1 : (i : Int) < (ms.length : Int) := by omega
        have c0 := I2.out.rowAt 1 rfl q0
        have cx := (I2.out.bx 3 rfl).c1.1
        have lx := (I2.out.bx 3 rfl).2.2
        have lg := (I2.out.rowLt 1 rfl).1
        have lf := (I2.out.rowLt 1 rfl).2
        go_wp2_with fail
        refine wp_region_state 182 [(157, .slice (some ⟨g, 0, none⟩) ms.length c5), (158, .int .i64 (i : Nat)), (159, .pointer (some ⟨g, i * 4, none⟩)), (160, .pointer (some ⟨g, i * 4, none⟩)), (161, .int .i64 px), (162, .int .i64 x0), (163, .int .i64 (px + x0)), (164, .pointer (some ⟨g, i * 4, none⟩)), (165, .pointer (some ⟨g, i * 4, none⟩))] (fun L _ w' => Own w w' [row 77 4 (.slice A7 ms.length c7) ms.length (flat (mntE W' H' l') ms'), row 77 4 (.slice (some ⟨g, 0, none⟩) ms.length c5) ms.length (cond (L 9) ((mixM W H W' H' x0 y0 l l' ms i).set (i * 4) (.int .i64 (px + x0))) (mixM W H W' H' x0 y0 l l' ms i)), box (m + 1) 3 [.int .i64 y0], box m 3 [.int .i64 x0]]) (by kernel_rfl) (by kernel_rfl) [157, 158, 159, 160, 161, 162, 163, 164, 165] (by kernel_rfl) rfl (by kernel_rfl) 10 rfl ?_ ?_ ?_
        · exact fun L hL => (I2.out.ext (Below.refl _ _).drew).cast (by simp [hL 9 (by decide)])
        · refine ⟨StepS.of [] (by kernel_rfl) ?_, ?_⟩
          · intro L vs wq hL hA hC hJ
            unfold forAll
            exact StepV.val 157 (by kernel_rfl) (by kernel_rfl) rfl (by simp) rfl rfl hJ
          refine ⟨StepS.of [] (by kernel_rfl) ?_, ?_⟩
          · intro L vs wq hL hA hC hJ
            unfold forAll
            exact StepV.val 158 (by kernel_rfl) (by kernel_rfl) rfl (by simp) rfl rfl hJ
          refine ⟨StepS.of [157, 158] (by kernel_rfl) ?_, ?_⟩
          · intro L vs wq hL hA hC hJ h157 h158
            rw [(show vs 157 = .slice (some ⟨g, 0, none⟩) ms.length c5 from h157), (show vs 158 = .int .i64 (i : Nat) from h158)]
            unfold forAll
            exact StepV.val 159 (by kernel_rfl) (by go_simp) rfl (by simp [Act.put]) rfl rfl hJ
          refine ⟨StepS.of [159] (by kernel_rfl) ?_, ?_⟩
          · intro L vs wq hL hA hC hJ h159
            rw [(show vs 159 = .pointer (some ⟨g, i * 4, none⟩) from h159)]
            unfold forAll
            exact StepV.val 160 (by kernel_rfl) (by kernel_rfl) rfl (by simp [Act.put]) rfl rfl hJ
          refine ⟨StepS.of [160] (by kernel_rfl) ?_, ?_⟩
          · intro L vs wq hL hA hC hJ h160
            rw [(show vs 160 = .pointer (some ⟨g, i * 4, none⟩) from h160)]
            unfold forAll
            have n9 := hC.no (j := 9) (i := 4) (by kernel_rfl) hL
            have K := Own.cast (qs := [row 77 4 (.slice A7 ms.length c7) ms.length (flat (mntE W' H' l') ms'), row 77 4 (.slice (some ⟨g, 0, none⟩) ms.length c5) ms.length ((mixM W H W' H' x0 y0 l l' ms i)), box (m + 1) 3 [.int .i64 y0], box m 3 [.int .i64 x0]]) hJ (by simp [n9])
            have c1 := K.rowAt 1 rfl q0
            exact StepV.val 161 (by kernel_rfl) (by go_simp) rfl (by simp [Act.put]) rfl rfl hJ
          refine ⟨StepS.of [] (by kernel_rfl) ?_, ?_⟩
          · intro L vs wq hL hA hC hJ
            unfold forAll
            have c1 := (hJ.bx 3 rfl).c1.1
            exact StepV.val 162 (by kernel_rfl) (by go_simp) rfl (by simp) rfl rfl hJ
          refine ⟨StepS.of [161, 162] (by kernel_rfl) ?_, ?_⟩
          · intro L vs wq hL hA hC hJ h161 h162
            rw [(show vs 161 = .int .i64 px from h161), (show vs 162 = .int .i64 x0 from h162)]
            unfold forAll
            exact StepV.val 163 (by kernel_rfl) (by go_simp) rfl (by simp [Act.put]) rfl rfl hJ
          refine ⟨StepS.of [157, 158] (by kernel_rfl) ?_, ?_⟩
          · intro L vs wq hL hA hC hJ h157 h158
            rw [(show vs 157 = .slice (some ⟨g, 0, none⟩) ms.length c5 from h157), (show vs 158 = .int .i64 (i : Nat) from h158)]
            unfold forAll
            exact StepV.val 164 (by kernel_rfl) (by go_simp) rfl (by simp [Act.put]) rfl rfl hJ
          refine ⟨StepS.of [164] (by kernel_rfl) ?_, ?_⟩
          · intro L vs wq hL hA hC hJ h164
            rw [(show vs 164 = .pointer (some ⟨g, i * 4, none⟩) from h164)]
            unfold forAll
            exact StepV.val 165 (by kernel_rfl) (by kernel_rfl) rfl (by simp [Act.put]) rfl rfl hJ
          refine ⟨StepS.of [165, 163] (by kernel_rfl) ?_, ?_⟩
          · intro L vs wq hL hA hC hJ h165 h163
            rw [(show vs 165 = .pointer (some ⟨g, i * 4, none⟩) from h165), (show vs 163 = .int .i64 (px + x0) from h163)]
            unfold forAll
            have K := Own.cast (qs := [row 77 4 (.slice A7 ms.length c7) ms.length (flat (mntE W' H' l') ms'), row 77 4 (.slice (some ⟨g, 0, none⟩) ms.length c5) ms.length ((mixM W H W' H' x0 y0 l l' ms i)), box (m + 1) 3 [.int .i64 y0], box m 3 [.int .i64 x0]]) hJ (by simp [hL])
            have c1 := K.rowAt 1 rfl q0
            have lf9 := (K.rowLt 1 rfl).2
            have lg9 := (K.rowLt 1 rfl).1
            exact StepV.skip (by kernel_rfl) (by go_simp) rfl rfl ((K.setRow 1 rfl (i * 4) (.int .i64 (px + x0))).cast (by simp [upd]))
          exact trivial
        · intro vs vA hJ h157 h158 h159 h160 h161 h162 h163 h164 h165
          rw [(show vs 157 = .slice (some ⟨g, 0, none⟩) ms.length c5 from h157), (show vs 158 = .int .i64 (i : Nat) from h158), (show vs 159 = .pointer (some ⟨g, i * 4, none⟩) from h159), (show vs 160 = .pointer (some ⟨g, i * 4, none⟩) from h160), (show vs 161 = .int .i64 px from h161), (show vs 162 = .int .i64 x0 from h162), (show vs 163 = .int .i64 (px + x0) from h163), (show vs 164 = .pointer (some ⟨g, i * 4, none⟩) from h164), (show vs 165 = .pointer (some ⟨g, i * 4, none⟩) from h165)]
          clear h157 h158 h159 h160 h161 h162 h163 h164 h165
          have SA := Lib.hid (Own.cast (qs := [row 77 4 (.slice A7 ms.length c7) ms.length (flat (mntE W' H' l') ms'), row 77 4 (.slice (some ⟨g, 0, none⟩) ms.length c5) ms.length (((mixM W H W' H' x0 y0 l l' ms i).set (i * 4) (.int .i64 (px + x0)))), box (m + 1) 3 [.int .i64 y0], box m 3 [.int .i64 x0]]) hJ rfl)
          clear hJ
          unfold forAll
          simp only [Act.put, List.setIfInBounds_toArray, List.set_cons_zero, List.set_cons_succ]
          clear I2 c0 cx lx lg lf q0
          go_wp2_with fail
          refine wp_region_state 182 [(166, .slice (some ⟨g, 0, none⟩) ms.length c5), (167, .int .i64 (i : Nat)), (168, .pointer (some ⟨g, i * 4, none⟩)), (169, .pointer (some ⟨g, i * 4 + 1, none⟩)), (170, .int .i64 py), (171, .int .i64 y0), (172, .int .i64 (py + y0)), (173, .pointer (some ⟨g, i * 4, none⟩)), (174, .pointer (some ⟨g, i * 4 + 1, none⟩))] (fun L _ w' => Own w w' [row 77 4 (.slice A7 ms.length c7) ms.length (flat (mntE W' H' l') ms'), row 77 4 (.slice (some ⟨g, 0, none⟩) ms.length c5) ms.length (cond (L 9) (((mixM W H W' H' x0 y0 l l' ms i).set (i * 4) (.int .i64 (px + x0))).set (i * 4 + 1) (.int .i64 (py + y0))) ((mixM W H W' H' x0 y0 l l' ms i).set (i * 4) (.int .i64 (px + x0)))), box (m + 1) 3 [.int .i64 y0], box m 3 [.int .i64 x0]]) (by kernel_rfl) (by kernel_rfl) [166, 167, 168, 169, 170, 171, 172, 173, 174] (by kernel_rfl) rfl (by kernel_rfl) 10 rfl ?_ ?_ ?_
          · exact fun L hL => (SA.out.ext (Below.refl _ _).drew).cast (by simp [hL 9 (by decide)])
          · refine ⟨StepS.of [] (by kernel_rfl) ?_, ?_⟩
            · intro L vs wq hL hA hC hJ
              unfold forAll
              exact StepV.val 166 (by kernel_rfl) (by kernel_rfl) rfl (by simp) rfl rfl hJ
            refine ⟨StepS.of [] (by kernel_rfl) ?_, ?_⟩
            · intro L vs wq hL hA hC hJ
              unfold forAll
              exact StepV.val 167 (by kernel_rfl) (by kernel_rfl) rfl (by simp) rfl rfl hJ
            refine ⟨StepS.of [166, 167] (by kernel_rfl) ?_, ?_⟩
            · intro L vs wq hL hA hC hJ h166 h167
              rw [(show vs 166 = .slice (some ⟨g, 0, none⟩) ms.length c5 from h166), (show vs 167 = .int .i64 (i : Nat) from h167)]
              unfold forAll
              exact StepV.val 168 (by kernel_rfl) (by go_simp) rfl (by simp [Act.put]) rfl rfl hJ
            refine ⟨StepS.of [168] (by kernel_rfl) ?_, ?_⟩
            · intro L vs wq hL hA hC hJ h168
              rw [(show vs 168 = .pointer (some ⟨g, i * 4, none⟩) from h168)]
              unfold forAll
              exact StepV.val 169 (by kernel_rfl) (by kernel_rfl) rfl (by simp [Act.put]) rfl rfl hJ
            refine ⟨StepS.of [169] (by kernel_rfl) ?_, ?_⟩
            · intro L vs wq hL hA hC hJ h169
              rw [(show vs 169 = .pointer (some ⟨g, i * 4 + 1, none⟩) from h169)]
              unfold forAll
              have n9 := hC.no (j := 9) (i := 4) (by kernel_rfl) hL
              have K := Own.cast (qs := [row 77 4 (.slice A7 ms.length c7) ms.length (flat (mntE W' H' l') ms'), row 77 4 (.slice (some ⟨g, 0, none⟩) ms.length c5) ms.length (((mixM W H W' H' x0 y0 l l' ms i).set (i * 4) (.int .i64 (px + x0)))), box (m + 1) 3 [.int .i64 y0], box m 3 [.int .i64 x0]]) hJ (by simp [n9])
              have c1 := K.rowAt 1 rfl HAT2.out
              exact StepV.val 170 (by kernel_rfl) (by go_simp) rfl (by simp [Act.put]) rfl rfl hJ
            refine ⟨StepS.of [] (by kernel_rfl) ?_, ?_⟩
            · intro L vs wq hL hA hC hJ
              unfold forAll
              have c1 := (hJ.bx 2 rfl).c1.1
              exact StepV.val 171 (by kernel_rfl) (by go_simp) rfl (by simp) rfl rfl hJ
            refine ⟨StepS.of [170, 171] (by kernel_rfl) ?_, ?_⟩
            · intro L vs wq hL hA hC hJ h170 h171
              rw [(show vs 170 = .int .i64 py from h170), (show vs 171 = .int .i64 y0 from h171)]
              unfold forAll
              exact StepV.val 172 (by kernel_rfl) (by go_simp) rfl (by simp [Act.put]) rfl rfl hJ
            refine ⟨StepS.of [166, 167] (by kernel_rfl) ?_, ?_⟩
            · intro L vs wq hL hA hC hJ h166 h167
              rw [(show vs 166 = .slice (some ⟨g, 0, none⟩) ms.length c5 from h166), (show vs 167 = .int .i64 (i : Nat) from h167)]
              unfold forAll
              exact StepV.val 173 (by kernel_rfl) (by go_simp) rfl (by simp [Act.put]) rfl rfl hJ
            refine ⟨StepS.of [173] (by kernel_rfl) ?_, ?_⟩
            · intro L vs wq hL hA hC hJ h173
              rw [(show vs 173 = .pointer (some ⟨g, i * 4, none⟩) from h173)]
              unfold forAll
              exact StepV.val 174 (by kernel_rfl) (by kernel_rfl) rfl (by simp [Act.put]) rfl rfl hJ
            refine ⟨StepS.of [174, 172] (by kernel_rfl) ?_, ?_⟩
            · intro L vs wq hL hA hC hJ h174 h172
              rw [(show vs 174 = .pointer (some ⟨g, i * 4 + 1, none⟩) from h174), (show vs 172 = .int .i64 (py + y0) from h172)]
              unfold forAll
              have K := Own.cast (qs := [row 77 4 (.slice A7 ms.length c7) ms.length (flat (mntE W' H' l') ms'), row 77 4 (.slice (some ⟨g, 0, none⟩) ms.length c5) ms.length (((mixM W H W' H' x0 y0 l l' ms i).set (i * 4) (.int .i64 (px + x0)))), box (m + 1) 3 [.int .i64 y0], box m 3 [.int .i64 x0]]) hJ (by simp [hL])
              have c1 := K.rowAt 1 rfl HAT2.out
              have lf9 := (K.rowLt 1 rfl).2
              have lg9 := (K.rowLt 1 rfl).1
              exact StepV.skip (by kernel_rfl) (by go_simp) rfl rfl ((K.setRow 1 rfl (i * 4 + 1) (.int .i64 (py + y0))).cast (by simp [upd]))
            exact trivial
          · intro vs vB hJ h166 h167 h168 h169 h170 h171 h172 h173 h174
            rw [(show vs 166 = .slice (some ⟨g, 0, none⟩) ms.length c5 from h166), (show vs 167 = .int .i64 (i : Nat) from h167), (show vs 168 = .pointer (some ⟨g, i * 4, none⟩) from h168), (show vs 169 = .pointer (some ⟨g, i * 4 + 1, none⟩) from h169), (show vs 170 = .int .i64 py from h170), (show vs 171 = .int .i64 y0 from h171), (show vs 172 = .int .i64 (py + y0) from h172), (show vs 173 = .pointer (some ⟨g, i * 4, none⟩) from h173), (show vs 174 = .pointer (some ⟨g, i * 4 + 1, none⟩) from h174)]
            clear h166 h167 h168 h169 h170 h171 h172 h173 h174
            have SB := Lib.hid (Own.cast (qs := [row 77 4 (.slice A7 ms.length c7) ms.length (flat (mntE W' H' l') ms'), row 77 4 (.slice (some ⟨g, 0, none⟩) ms.length c5) ms.length ((((mixM W H W' H' x0 y0 l l' ms i).set (i * 4) (.int .i64 (px + x0))).set (i * 4 + 1) (.int .i64 (py + y0)))), box (m + 1) 3 [.int .i64 y0], box m 3 [.int .i64 x0]]) hJ rfl)
            clear hJ
            unfold forAll
            simp only [Act.put, List.setIfInBounds_toArray, List.set_cons_zero, List.set_cons_succ]
            clear SA
            go_wp2_with fail
            go_roundg (gk - 1)
            case measure => have := I1.out; omega
            case rel => exact ⟨i + 1, by omega, by go_num, by have := I1.out; omega, by rw [← HAT3.out]; exact SB.out⟩
end Go.Proofs.Ytjelnbfnoliocaa
