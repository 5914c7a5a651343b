/- Ridge: the number of parts, of the reference. No condition. -/
import Derived.Test.YtjelnbfnoliocaaPl
import Derived.Test.YtjelnbfnoliocaaPb
import Derived.Deep.LoopGhost
namespace Go.Proofs.Ytjelnbfnoliocaa
open Go.RowKit

def qv (q : List Nat) : List Value := q.map fun v : Nat => Value.int .i64 (v : Int)
theorem qv_snoc (q : List Nat) (v : Nat) : qv q ++ [.int .i64 (v : Int)] = qv (q ++ [v]) := by simp [qv]
theorem st85 : SlTy Try.prog 85 3 (.int .i64 0) 1 8 := ⟨Try.underlying85, by kernel_rfl, rfl, by decide⟩
theorem bools_set (l : List Bool) (i : Nat) (b : Bool) : (bools l).set i (.bool b) = bools (l.set i b) := by simp [bools, List.map_set]
theorem getD_at {l : List Bool} {k : Nat} (h : k < l.length) : l.getD k false = l[k] := by rw [List.getD_eq_getElem?_getD, List.getElem?_eq_getElem h]; rfl
theorem mark_of {l : List Bool} {k : Nat} : mkd l k ↔ l.getD k false = true := Iff.rfl
theorem open_set {l : List Bool} {k : Nat} (hk : k < l.length) (h : l.getD k false = false) : openN (l.set k true) + 1 = openN l := openN_set l k (by rw [getD_at hk] at h; rw [List.getElem?_eq_getElem hk, h])
/-- What the step over one way has to find out. -/
theorem goes_in {P : Pic} {T : List Bool} {X Y : Int} (h : goesF P T X Y = true) : inP P X Y ∧ T.getD (idx P X Y) false = false ∧ isF P.W P.H P.l (X - 1) (Y - 1) = P.black := by
  simp only [goesF, Bool.and_eq_true, Bool.not_eq_true', beq_iff_eq] at h
  obtain ⟨a, b, c, d⟩ := h
  exact ⟨⟨by simpa [inB] using a, by simpa [inB] using b⟩, c, d⟩
theorem goes_no {P : Pic} {T : List Bool} {X Y : Int} (h : goesF P T X Y = false) : inP P X Y → KP P (idx P X Y) → mkd T (idx P X Y) := by
  intro hi hk
  obtain ⟨e1, e2⟩ := idx_cx hi
  have h1 : inB 0 (P.W + 1) X = true := by simp [inB, hi.1.1, hi.1.2]
  have h2 : inB 0 (P.H + 1) Y = true := by simp [inB, hi.2.1, hi.2.2]
  have h3 := hk.2
  rw [e1, e2] at h3
  unfold goesF at h
  rw [h1, h2, h3] at h
  unfold mkd idx
  simpa using h
theorem allow_E {P : Pic} {E j : Nat} (hE : (E = 1 ∧ P.diag = false) ∨ (E = 2 ∧ P.diag = true)) (hj : j % E = 0) : allowF P j = true := by
  rcases hE with ⟨rfl, h⟩ | ⟨rfl, h⟩
  · simp [allowF, h]
  · simp [allowF, h, hj]
theorem mid_E {P : Pic} {S T : List Bool} {Q : Nat → Prop} {c p j E : Nat} (hE : (E = 1 ∧ P.diag = false) ∨ (E = 2 ∧ P.diag = true)) (hj : j % E = 0) (h : Mid (KP P) (AP P) (mkd S) (mkd T) Q (DP P (j + 1) c) c p) :
    Mid (KP P) (AP P) (mkd S) (mkd T) Q (DP P (j + E) c) c p := by
  rcases hE with ⟨rfl, h1⟩ | ⟨rfl, h1⟩
  · exact h
  · exact mid_pass (by simp [allowF, h1]; omega) h
set_option maxRecDepth 100000 in
set_option maxHeartbeats 4000000 in
theorem refParts_any (P : Pic) (E : Nat) (hE : (E = 1 ∧ P.diag = false) ∨ (E = 2 ∧ P.diag = true)) (w : World) (hr : Rd w P.A (bools P.l)) :
    Calls Try.prog 82 #[.agg #[.int .i64 P.W, .int .i64 P.H, .slice P.A P.n P.c], .bool P.black, .int .i64 (E : Int)] w fun e w' => e = .returned (.int .i64 (comps (KP P) (AP P) ((P.W + 2) * (P.H + 2)).toNat : Nat)) ∧ Below w.heap.size w w' := by
  obtain ⟨hW, hH, _⟩ := valid_bd P.ok
  have S0 := Lib.hid ((Own.start w).new 34 #[.int .i64 P.W, .int .i64 P.H, .slice P.A P.n P.c])
  obtain ⟨t0, t1, t2, _⟩ := (S0.out.bx 0 rfl).c3
  have hN0 : 0 ≤ (P.W + 2) * (P.H + 2) := Int.mul_nonneg (by omega) (by omega)
  have hN1 : (P.W + 2) * (P.H + 2) ≤ 22 * 22 := Int.mul_le_mul (by omega) (by omega) (by omega) (by omega)
  obtain ⟨N, hN⟩ := Int.eq_ofNat_of_zero_le hN0
  have e1 : IntKind.i64.wrap ((P.W + 2) * (P.H + 2)) = (N : Int) := by rw [← hN]; exact IntWalk.i64_in _ (by omega)
  have hNb : N ≤ 484 := by omega
  have HN := Lib.hid hN
  rw [hN, Int.toNat_natCast]
  clear hN hN0 hN1
  have HEE := Lib.hid hE
  have hE1 : 1 ≤ E ∧ E ≤ 2 := by omega
  clear hE
  have hmk := fun W => run_make_row' (P := Try.prog) 32 4 (.bool false) 1 Try.underlying32 (by kernel_rfl) rfl .i64 .i64 N (by omega) (by omega) W
  go_enter Try.func82, Try.ntmps82
  go_wp2_with fail
  go_quiet (fail)
  go_wp2_with fail
  have S1 := Lib.hid (((S0.out.drewN nq).new' 4 (madeCells #[.bool false] N) (B := w.heap.size + 1) (by simp)).cast (qs := [box (w.heap.size + 1) 4 (bools (List.replicate N false)), box w.heap.size 34 [.int .i64 P.W, .int .i64 P.H, .slice P.A P.n P.c]]) (by rw [made_bools]))
  generalize ((w.alloc _).drewN nq).alloc _ = W1 at *
  generalize hm : w.heap.size + 1 = m at *
  clear t0 t1 t2 hmk hm S0
  go_loopg [10, 11] N (fun k u10 u11 wr => ∃ (i c : Nat) (T : List Bool), i ≤ N ∧ c ≤ i ∧ u10 = .int .i64 c ∧ u11 = .int .i64 i ∧ Hid (i + k = N ∧ c = upToN (KP P) (AP P) i ∧ T.length = N ∧ Own w wr [box m 4 (bools T), box w.heap.size 34 [.int .i64 P.W, .int .i64 P.H, .slice P.A P.n P.c]] ∧ Scan (KP P) (AP P) (mkd T) i))
  case atStart => exact ⟨0, 0, _, by omega, by omega, rfl, rfl, by omega, rfl, by simp, S1.out, fun v => ⟨fun h => by simp [mkd, List.getD_eq_getElem?_getD, List.getElem?_replicate] at h; split at h <;> simp_all, fun ⟨m, h, _⟩ => by omega⟩⟩
  case round =>
    obtain ⟨i, c, T, hi, hc, rfl, rfl, hI⟩ := hrel
    have IK := Lib.hid hI.out.1
    have IC := Lib.hid hI.out.2.1
    have IL := Lib.hid hI.out.2.2.1
    have IS := Lib.hid hI.out.2.2.2.1
    have IN := Lib.hid hI.out.2.2.2.2
    clear hI
    by_cases hlt : i < N
    case neg =>
      obtain rfl : i = N := by omega
      go_wp2_with fail
      go_ret
      exact ⟨ret_int (by rw [IC.out, upToN_all]), IS.out.bel⟩
    have hlti : (i : Int) < (N : Int) := by omega
    obtain ⟨cx1, cy1⟩ := cx_eq hW.1 i
    have hiN : (i : Int) < (P.W + 2) * (P.H + 2) := by have := HN.out; omega
    obtain ⟨⟨⟨p1, p2⟩, p3, p4⟩, p5⟩ := idx_of hW.1 hiN
    have HIN := Lib.hid (show inP P (cx P i) (cy P i) from ⟨⟨p1, p2⟩, p3, p4⟩)
    have HG := Lib.hid (goes_iff (T := T) hW.1 hiN)
    have HID := Lib.hid (show idx P (cx P i) (cy P i) = i from p5)
    rw [cx1] at p1 p2 HIN HG HID
    rw [cy1] at p3 p4 HIN HG HID
    have z1 : ¬ P.W + 2 = 0 := by omega
    have z2 : ¬ P.W = -2 := by omega
    have z3 : (i : Int).tmod (P.W + 2) = (i : Int) % (P.W + 2) := Int.tmod_eq_emod_of_nonneg (by omega)
    have z4 : IntKind.i64.wrap ((i : Int) / (P.W + 2)) = (i : Int) / (P.W + 2) := IntWalk.i64_in _ (by omega)
    have z5 : IntKind.i64.wrap ((i : Int) / (P.W + 2) - 1) = (i : Int) / (P.W + 2) - 1 := IntWalk.i64_in _ (by omega)
    have z6 : IntKind.i64.wrap ((i : Int) % (P.W + 2) - 1) = (i : Int) % (P.W + 2) - 1 := IntWalk.i64_in _ (by omega)
    clear p5 cx1 cy1 hiN
    go_wp2_with fail
    go_cut [51] (fun u51 wx => u51 = .bool (!goesF P T ((i : Int) % (P.W + 2)) ((i : Int) / (P.W + 2))) ∧ Hid (Own w wx [box m 4 (bools T), box w.heap.size 34 [.int .i64 P.W, .int .i64 P.H, .slice P.A P.n P.c]]))
    case first =>
      as_aux_lemma =>
      have c0 := fun x : OwnOf w [box m 4 (bools T), box w.heap.size 34 [.int .i64 P.W, .int .i64 P.H, .slice P.A P.n P.c]] => (x.bx 0 rfl).1 i _ (bools_get (by rw [IL.out]; exact hlt))
      have c1 := fun x : OwnOf w [box m 4 (bools T), box w.heap.size 34 [.int .i64 P.W, .int .i64 P.H, .slice P.A P.n P.c]] => (x.bx 1 rfl).1 0 _ rfl
      have c2 := fun x : OwnOf w [box m 4 (bools T), box w.heap.size 34 [.int .i64 P.W, .int .i64 P.H, .slice P.A P.n P.c]] => (x.bx 1 rfl).1 1 _ rfl
      have c3 := fun x : OwnOf w [box m 4 (bools T), box w.heap.size 34 [.int .i64 P.W, .int .i64 P.H, .slice P.A P.n P.c]] => (x.bx 1 rfl).1 2 _ rfl
      have HI := Lib.hid (fun x : OwnOf w [box m 4 (bools T), box w.heap.size 34 [.int .i64 P.W, .int .i64 P.H, .slice P.A P.n P.c]] => own_of (refIs_any P.W P.H ((i : Int) % (P.W + 2) - 1) ((i : Int) / (P.W + 2) - 1) P.A P.l P.n P.c x.wld P.ok (x.rd hr) P.len))
      have hne : Nonempty (OwnOf w [box m 4 (bools T), box w.heap.size 34 [.int .i64 P.W, .int .i64 P.H, .slice P.A P.n P.c]]) := ⟨⟨wr, IS.out⟩⟩
      have hgo : goesF P T ((i : Int) % (P.W + 2)) ((i : Int) / (P.W + 2)) = (!T[i]'(by rw [IL.out]; exact hlt) && (isF P.W P.H P.l ((i : Int) % (P.W + 2) - 1) ((i : Int) / (P.W + 2) - 1) == P.black)) := by
        have h1 : inB 0 (P.W + 1) ((i : Int) % (P.W + 2)) = true := by simp [inB, p1, p2]
        have h2 : inB 0 (P.H + 1) ((i : Int) / (P.W + 2)) = true := by simp [inB, p3, p4]
        have h3 : ((i : Int) / (P.W + 2) * (P.W + 2) + (i : Int) % (P.W + 2)).toNat = i := HID.out
        unfold goesF
        rw [h1, h2, h3, getD_at (by rw [IL.out]; exact hlt)]
        rfl
      have HGO := Lib.hid hgo
      clear hgo
      generalize isF P.W P.H P.l ((i : Int) % (P.W + 2) - 1) ((i : Int) / (P.W + 2) - 1) = fv at *
      generalize T[i]'(by rw [IL.out]; exact hlt) = bv at *
      generalize P.black = bk at *
      rcases bv with _ | _ <;> rcases fv with _ | _ <;> rcases bk with _ | _
      all_goals
        refine wp_region_own IS.out (by kernel_rfl) (by kernel_rfl) ?_
        iterate 14 (go_big_quiet_step (fail))
        go_big_quiet_step ((go_at_call 46; exact HI.out _))
        iterate 3 (go_big_quiet_step (fail))
        refine wpQuiet_nil ?_
        rintro _ ⟨z, rfl⟩
        go_wp2_with fail
        go_meet
        exact ⟨congrArg Value.bool (by rw [HGO.out]; rfl), z.own⟩
    case rest =>
      obtain ⟨rfl, hS⟩ := hcut
      have IS2 := hS
      clear IS hS
      cases hg : goesF P T ((i : Int) % (P.W + 2)) ((i : Int) / (P.W + 2))
      · -- nothing to do at this place
        rw [hg] at HG
        have hn := Lib.hid (upToN_no IN.out fun hk => Classical.byContradiction fun h => absurd (HG.out.2 ⟨hk, h⟩) (by simp))
        have hs := Lib.hid (show Scan (KP P) (AP P) (mkd T) (i + 1) from IN.out.step (Fill.none fun hk => Classical.byContradiction fun h => absurd (HG.out.2 ⟨hk, h⟩) (by simp)))
        clear HG hg
        go_wp2_with fail
        go_roundg (N - (i + 1))
        case measure => have := IK.out; omega
        case rel => exact ⟨i + 1, c, T, by omega, by omega, rfl, by go_num, by omega, by rw [hn.out]; exact IC.out, IL.out, IS2.out, hs.out⟩
      · rw [hg] at HG
        have hkn := Lib.hid (HG.out.1 (by trivial))
        clear HG hg
        have hup := Lib.hid (upToN_yes IN.out hkn.out.1 hkn.out.2)
        have lm := (IS2.out.bx 0 rfl).2.2
        have fm := (IS2.out.bx 0 rfl).2.1
        have cm := (IS2.out.bx 0 rfl).1 i _ (bools_get (by rw [IL.out]; exact hlt))
        have S3 := Lib.hid (((IS2.out.set 0 rfl i (.bool true)).new' 3 #[.int .i64 (i : Int)] (B := wc.heap.size) (by simp)).queNew 0 rfl)
        have hop := Lib.hid (open_set (l := T) (k := i) (by rw [IL.out]; exact hlt) (by simpa [mkd] using hkn.out.2))
        have hwv := Lib.hid (Wave.start (K := KP P) (A := AP P) (S := mkd T) (T := mkd (T.set i true)) (Q := fun v => v ∈ [i]) hkn.out.1 (fun v => getD_set T i (by rw [IL.out]; exact hlt) v) (fun v => by simp))
        go_wp2_with fail
        have S4 := Lib.hid (show Own w ((wc.setCell ⟨m, i, none⟩ (.bool true)).alloc (.cells #[.int .i64 (i : Int)] 3)) [que 3 wc.heap.size 0 1 1 (qv [i]), box m 4 (bools (T.set i true)), box w.heap.size 34 [.int .i64 P.W, .int .i64 P.H, .slice P.A P.n P.c]] from S3.out.cast (by simp [bools_set, qv]))
        generalize (wc.setCell ⟨m, i, none⟩ (.bool true)).alloc (.cells #[.int .i64 (i : Int)] 3) = W2 at *
        generalize wc.heap.size = g0 at *
        clear S3 cm lm fm IS2
        obtain ⟨wr1, rfl⟩ : ∃ wr1 : World, wr1 = wr := ⟨_, rfl⟩
        obtain ⟨G1, rfl⟩ : ∃ G1 : Nat, G1 = gk := ⟨_, rfl⟩
        go_loopg [12] (2 * N + 1) (fun k u12 wr => ∃ (q : List Nat) (T' : List Bool) (n g off cp : Nat), n ≤ 2 * N + 1 ∧ u12 = .slice (some ⟨g, off, none⟩) n cp ∧ Hid (q.length = n ∧ (2 * openN T' + n ≤ k ∧ k ≤ 2 * N + 1) ∧ T'.length = N ∧ Own w wr [que 3 g off n cp (qv q), box m 4 (bools T'), box w.heap.size 34 [.int .i64 P.W, .int .i64 P.H, .slice P.A P.n P.c]] ∧ (∀ v ∈ q, v < N) ∧ Wave (KP P) (AP P) (mkd T) (mkd T') (fun v => v ∈ q) i))
        case atStart => exact ⟨[i], T.set i true, 1, g0, 0, 1, by omega, rfl, rfl, by refine ⟨?_, Nat.le_refl _⟩; have := hop.out; have := openN_le T; have := IL.out; omega, by simpa using IL.out, S4.out, by simpa using hlt, hwv.out⟩
        case round =>
          obtain ⟨q, T', n, g, off, cp, hnN, rfl, hJ⟩ := hrel
          have JL := Lib.hid hJ.out.1
          have JK := Lib.hid hJ.out.2.1
          have JT := Lib.hid hJ.out.2.2.1
          have JS := Lib.hid hJ.out.2.2.2.1
          have JQ := Lib.hid hJ.out.2.2.2.2.1
          have JW := Lib.hid hJ.out.2.2.2.2.2
          clear hJ
          rcases q with _ | ⟨v, q⟩
          · obtain rfl : n = 0 := JL.out.symm
            have hs := Lib.hid (IN.out.step (JW.out.fill fun v h => by simp at h))
            have JS2 := Lib.hid (JS.out.tail)
            go_wp2_with fail
            go_roundg (N - (i + 1))
            case measure => have := IK.out; omega
            case rel => exact ⟨i + 1, c + 1, T', by omega, by omega, by go_num, by go_num, by omega, by rw [hup.out, ← IC.out], JT.out, JS2.out, hs.out⟩
          obtain ⟨n, rfl⟩ : ∃ n', n = n' + 1 := ⟨q.length, JL.out.symm⟩
          have hqc := (JS.out.queBd 0 rfl).1
          have ca : wr.cell? ⟨g, off, none⟩ = some (.int .i64 (v : Int)) := JS.out.queAt 0 rfl (j := 0) rfl
          have lg := (JS.out.queLt 0 rfl).1
          have hsl := fun W => run_pop (P := Try.prog) (g := g) (off := off) (n := n) (c := cp) 85 Try.underlying85 (by kernel_rfl) W
          have JS2 := Lib.hid (JS.out.quePop 0 rfl)
          generalize (if cp = 1 then off else off + 1) = off2 at *
          generalize cp - 1 = c2 at *
          have hvN := JQ.out v (by simp)
          have JL2 := Lib.hid (show q.length = n by simpa using JL.out)
          have JQ2 := Lib.hid (show ∀ x ∈ q, x < N from fun x hx => JQ.out x (by simp [hx]))
          have JM := Lib.hid (show Mid (KP P) (AP P) (mkd T) (mkd T') (fun x => x ∈ q) (DP P 0 v) v i from (fun h => ⟨h.sub, h.at_, h.new, h.shut, h.wait, fun u ⟨d, hd, _⟩ => by omega⟩) (JW.out.pop (c := v) (Q' := fun x => x ∈ q) (fun x => by simp)))
          go_wp2_with fail
          obtain ⟨cx1, cy1⟩ := cx_eq hW.1 v
          have hvI : (v : Int) < (P.W + 2) * (P.H + 2) := by have := HN.out; omega
          obtain ⟨⟨⟨p1, p2⟩, p3, p4⟩, p5⟩ := idx_of hW.1 hvI
          obtain ⟨x0, hx0⟩ : ∃ x0, cx P v = x0 := ⟨_, rfl⟩
          obtain ⟨y0, hy0⟩ : ∃ y0, cy P v = y0 := ⟨_, rfl⟩
          rw [hx0] at p1 p2 cx1
          rw [hy0] at p3 p4 cy1
          have v1 : ¬ P.W + 2 = 0 := by omega
          have v2 : ¬ P.W = -2 := by omega
          have v3 : (v : Int).tmod (P.W + 2) = x0 := by rw [cx1]; exact Int.tmod_eq_emod_of_nonneg (by omega)
          have v4 : IntKind.i64.wrap ((v : Int) / (P.W + 2)) = y0 := by rw [← cy1]; exact IntWalk.i64_in _ (by omega)
          have HXY := Lib.hid (show cx P v = x0 ∧ cy P v = y0 from ⟨hx0, hy0⟩)
          clear z1 z2 z3 z4 z5 z6 p5 cx1 cy1 hx0 hy0 hvI hsl ca lg hqc
          obtain ⟨wr2, rfl⟩ : ∃ wr2 : World, wr2 = wr := ⟨_, rfl⟩
          obtain ⟨G2, rfl⟩ : ∃ G2 : Nat, G2 = gk := ⟨_, rfl⟩
          go_loopg [12, 14] 8 (fun k u12 u14 wr3 => ∃ (j : Nat) (q2 : List Nat) (T2 : List Bool) (n2 g2 o2 c3 : Nat), j ≤ 8 ∧ n2 ≤ 2 * N + 1 ∧ u12 = .slice (some ⟨g2, o2, none⟩) n2 c3 ∧ u14 = .int .i64 j ∧ Hid (8 ≤ j + k ∧ j % E = 0 ∧ q2.length = n2 ∧ 2 * openN T2 + n2 + 1 ≤ G2 ∧ T2.length = N ∧ Own w wr3 [que 3 g2 o2 n2 c3 (qv q2), box m 4 (bools T2), box w.heap.size 34 [.int .i64 P.W, .int .i64 P.H, .slice P.A P.n P.c]] ∧ (∀ x ∈ q2, x < N) ∧ Mid (KP P) (AP P) (mkd T) (mkd T2) (fun x => x ∈ q2) (DP P j v) v i))
          case atStart => exact ⟨0, q, T', n, g, off2, c2, by omega, by omega, rfl, rfl, by omega, by simp, JL2.out, by have := JK.out; omega, JT.out, JS2.out, JQ2.out, JM.out⟩
          case round =>
            obtain ⟨j, q2, T2, n2, g2, o2, c3, hj, hn2, rfl, rfl, hM⟩ := hrel
            have M1 := Lib.hid hM.out.1
            have M2 := Lib.hid hM.out.2.1
            have M3 := Lib.hid hM.out.2.2.1
            have M4 := Lib.hid hM.out.2.2.2.1
            have M5 := Lib.hid hM.out.2.2.2.2.1
            have M6 := Lib.hid hM.out.2.2.2.2.2.1
            have M7 := Lib.hid hM.out.2.2.2.2.2.2.1
            have M8 := Lib.hid hM.out.2.2.2.2.2.2.2
            clear hM
            by_cases hlt8 : j < 8
            case neg =>
              obtain rfl : j = 8 := by omega
              have hwv2 := Lib.hid (M8.out.wave fun u _ a => a)
              go_wp2_with fail
              go_roundg (G2 - 1)
              case measure => have := M4.out; omega
              case rel => exact ⟨q2, T2, n2, g2, o2, c3, by omega, rfl, M3.out, by have := M4.out; have := JK.out; omega, M5.out, M6.out, M7.out, hwv2.out⟩
            have hdb := d_bd j
            obtain ⟨X, hX⟩ : ∃ X, x0 + dx j = X := ⟨_, rfl⟩
            obtain ⟨Y, hY⟩ : ∃ Y, y0 + dy j = Y := ⟨_, rfl⟩
            have hXb : -1 ≤ X ∧ X ≤ 22 := by omega
            have hYb : -1 ≤ Y ∧ Y ≤ 22 := by omega
            have HST := Lib.hid (fun (z : OwnOf w [que 3 g2 o2 n2 c3 (qv q2), box m 4 (bools T2), box w.heap.size 34 [.int .i64 P.W, .int .i64 P.H, .slice P.A P.n P.c]]) => own_of (show Calls Try.prog 76 #[.int .i64 x0, .int .i64 y0, .int .i64 (j : Int)] z.wld fun e w' => e = .returned (.tuple #[.int .i64 X, .int .i64 Y]) ∧ Below z.wld.heap.size z.wld w' by rw [← hX, ← hY]; exact refStep_any x0 y0 j j z.wld rfl (by omega) (by omega) (by omega)))
            have HXE := Lib.hid (show cx P v + dx j = X ∧ cy P v + dy j = Y from ⟨by rw [HXY.out.1]; exact hX, by rw [HXY.out.2]; exact hY⟩)
            clear hX hY hdb
            have hne : Nonempty (OwnOf w [que 3 g2 o2 n2 c3 (qv q2), box m 4 (bools T2), box w.heap.size 34 [.int .i64 P.W, .int .i64 P.H, .slice P.A P.n P.c]]) := ⟨⟨wr, M6.out⟩⟩
            go_wp2_with fail
            refine wp_region_own M6.out (by kernel_rfl) (by kernel_rfl) ?_
            iterate 7 (go_big_quiet_step (fail))
            go_big_quiet_step ((go_at_call 76; exact HST.out _))
            iterate 5 (go_big_quiet_step (fail))
            refine wpQuiet_nil ?_
            rintro w3 ⟨z, hz⟩
            have S5 := Lib.hid (show Own w w3 [que 3 g2 o2 n2 c3 (qv q2), box m 4 (bools T2), box w.heap.size 34 [.int .i64 P.W, .int .i64 P.H, .slice P.A P.n P.c]] by rw [hz]; exact z.own)
            clear hz z hne HST
            go_upto_region 18 with (fail)
            go_cut [113] (fun u113 wx => u113 = .bool (goesF P T2 X Y) ∧ Hid (Own w wx [que 3 g2 o2 n2 c3 (qv q2), box m 4 (bools T2), box w.heap.size 34 [.int .i64 P.W, .int .i64 P.H, .slice P.A P.n P.c]]))
            case first =>
              as_aux_lemma =>
              obtain ⟨d0, d1, d2, _⟩ := (S5.out.bx 2 rfl).c3
              have ld := (S5.out.bx 2 rfl).2.2
              have HB := Lib.hid (fun (n hi : Int) (b : Bool) (W1 : World) (h : inB 0 hi n = b) => (show Calls Try.prog 59 #[.int .i64 n, .int .i64 0, .int .i64 hi] W1 fun e w' => e = .returned (.bool b) ∧ W1 = w' by subst h; exact refWithin_any 0 hi n W1))
              cases ha : inB 0 (P.W + 1) X
              · have hA := Lib.hid (show goesF P T2 X Y = false by unfold goesF; rw [ha]; rfl)
                have hX := Lib.hid (fun (hi : Int) (h : hi = P.W + 1) => (by subst h; exact ha : inB 0 hi X = false))
                clear ha
                go_wp2_with (go_at_call 59; refine (HB.out X _ false _ (hX.out _ (by omega))).mono ?_; rintro e w' ⟨rfl, rfl⟩)
                go_meet
                exact ⟨congrArg Value.bool hA.out.symm, S5.out⟩
              have hX := Lib.hid (fun (hi : Int) (h : hi = P.W + 1) => (by subst h; exact ha : inB 0 hi X = true))
              cases hb : inB 0 (P.H + 1) Y
              · have hA := Lib.hid (show goesF P T2 X Y = false by unfold goesF; rw [ha, hb]; rfl)
                have hY := Lib.hid (fun (hi : Int) (h : hi = P.H + 1) => (by subst h; exact hb : inB 0 hi Y = false))
                clear ha hb
                go_wp2_with (go_at_call 59; first | ((with_reducible refine (HB.out X _ true _ (hX.out _ (by omega))).mono ?_); rintro e w' ⟨rfl, rfl⟩) | ((with_reducible refine (HB.out Y _ false _ (hY.out _ (by omega))).mono ?_); rintro e w' ⟨rfl, rfl⟩))
                go_meet
                exact ⟨congrArg Value.bool hA.out.symm, S5.out⟩
              have hY := Lib.hid (fun (hi : Int) (h : hi = P.H + 1) => (by subst h; exact hb : inB 0 hi Y = true))
              have q1 : 0 ≤ X ∧ X ≤ P.W + 1 := by simpa [inB] using ha
              have q2' : 0 ≤ Y ∧ Y ≤ P.H + 1 := by simpa [inB] using hb
              obtain ⟨r1, r2, r3, r4⟩ := place_lt (W := P.W + 2) (H := P.H + 2) (n := N) HN.out.symm (x := X) (y := Y) (by omega) (by omega)
              obtain ⟨k, hk⟩ := Int.eq_ofNat_of_zero_le r1
              have hkN : k < N := by omega
              have hkl : k < T2.length := by rw [M5.out]; exact hkN
              have hgo : goesF P T2 X Y = (!T2[k] && (isF P.W P.H P.l (X - 1) (Y - 1) == P.black)) := by
                unfold goesF
                rw [ha, hb, hk, Int.toNat_natCast, getD_at hkl]
                rfl
              have HGO := Lib.hid hgo
              have lm := (S5.out.bx 1 rfl).2.2
              have cm := (S5.out.bx 1 rfl).1 k _ (bools_get hkl)
              have HI := Lib.hid (fun W2 (h : Below w.heap.size w W2) => refIs_any P.W P.H (X - 1) (Y - 1) P.A P.l P.n P.c W2 P.ok (hr.below h) P.len)
              generalize hq : Y * (P.W + 2) = q at *
              have HQ := Lib.hid hq
              have y3 : IntKind.i64.wrap (Y * (P.W + 2)) = q := by rw [HQ.out]; exact IntWalk.i64_in _ (by omega)
              have y4 : IntKind.i64.wrap (q + X) = (k : Int) := by rw [hk]; exact IntWalk.i64_in _ (by omega)
              have HK := Lib.hid hk
              have hkI : (k : Int) < (N : Int) := by omega
              clear hq hk hgo r2
              generalize T2[k] = bv at *
              generalize isF P.W P.H P.l (X - 1) (Y - 1) = fv at *
              generalize P.black = bk at *
              have S5b := Lib.hid S5.out.bel
              clear ha hb
              rcases bv with _ | _ <;> rcases fv with _ | _ <;> rcases bk with _ | _
              all_goals
                go_wp2_with (first | (go_at_call 59; first | ((with_reducible refine (HB.out X _ true _ (hX.out _ (by omega))).mono ?_); rintro e w' ⟨rfl, rfl⟩) | ((with_reducible refine (HB.out Y _ true _ (hY.out _ (by omega))).mono ?_); rintro e w' ⟨rfl, rfl⟩)) | (go_at_call 46; ((with_reducible refine (HI.out _ S5b.out).mono ?_); rintro e w' ⟨rfl, hbb⟩)))
                go_meet
                first
                  | exact ⟨congrArg Value.bool HGO.out.symm, S5.out⟩
                  | exact ⟨congrArg Value.bool HGO.out.symm, S5.out.ext hbb⟩
            case rest =>
              obtain ⟨rfl, hS6⟩ := hcut
              have S6 := hS6
              clear S5 hS6
              have hje := Lib.hid (show j + E ≤ 8 ∧ (j + E) % E = 0 from by
                have h2 := M2.out
                rcases HEE.out with ⟨h, _⟩ | ⟨h, _⟩ <;> (rw [h] at h2 ⊢; omega))
              cases hg : goesF P T2 X Y
              · have hmd := Lib.hid (mid_E HEE.out M2.out (mid_skip hW.1 M8.out (by rw [HXE.out.1, HXE.out.2]; exact goes_no hg)))
                clear hg
                go_wp2_with fail
                go_roundg (gk - 1)
                case measure => have := M1.out; omega
                case rel => exact ⟨j + E, q2, T2, n2, g2, o2, c3, hje.out.1, by omega, rfl, by go_num, by have := M1.out; omega, hje.out.2, M3.out, M4.out, M5.out, S6.out, M7.out, hmd.out⟩
              · obtain ⟨gi, gT, gc⟩ := goes_in hg
                obtain ⟨r1, r2, r3, r4⟩ := place_lt (W := P.W + 2) (H := P.H + 2) (n := N) HN.out.symm (x := X) (y := Y) (by have := gi.1; omega) (by have := gi.2; omega)
                obtain ⟨k, hk⟩ := Int.eq_ofNat_of_zero_le r1
                have hik : idx P X Y = k := by unfold idx; rw [hk]; rfl
                have hkN : k < N := by omega
                have hkl : k < T2.length := by rw [M5.out]; exact hkN
                rw [hik] at gT
                have hop2 := Lib.hid (open_set hkl gT)
                have hmd := Lib.hid (mid_E HEE.out M2.out (mid_push (T' := T2.set k true) (Q' := fun x => x ∈ q2 ++ [k]) hW.1 hlt8 (allow_E HEE.out M2.out) M8.out (by rw [HXE.out.1, HXE.out.2]; exact gi)
                  (by rw [HXE.out.1, HXE.out.2, hik]; exact ⟨by have := HN.out; omega, by rw [← hik, (idx_cx gi).1, (idx_cx gi).2]; exact gc⟩) (by rw [HXE.out.1, HXE.out.2, hik]; exact hkl) (by rw [HXE.out.1, HXE.out.2, hik]) (fun x => by rw [HXE.out.1, HXE.out.2, hik]; simp)))
                have lm := (S6.out.bx 1 rfl).2.2
                have fm := (S6.out.bx 1 rfl).2.1
                obtain ⟨bv, cm⟩ : ∃ bv, wc.cell? ⟨m, k, none⟩ = some (.bool bv) := ⟨_, (S6.out.bx 1 rfl).1 k _ (bools_get hkl)⟩
                have HO := Lib.hid (((S6.out.set 1 rfl k (.bool true)).ext (below_alloc _ (.cells #[.int .i64 (k : Int)] 3))).cast (qs := [que 3 g2 o2 n2 c3 (qv q2), box m 4 (bools (T2.set k true)), box w.heap.size 34 [.int .i64 P.W, .int .i64 P.H, .slice P.A P.n P.c]]) (by simp [bools_set]))
                have hn3 : n2 + 1 ≤ 2 * N + 1 := by have := M4.out; have := JK.out; omega
                generalize hq : Y * (P.W + 2) = qq at *
                have HQ := Lib.hid hq
                have y3 : IntKind.i64.wrap (Y * (P.W + 2)) = qq := by rw [HQ.out]; exact IntWalk.i64_in _ (by omega)
                have y4 : IntKind.i64.wrap (qq + X) = (k : Int) := by rw [hk]; exact IntWalk.i64_in _ (by omega)
                have HK := Lib.hid hk
                have hkI : (k : Int) < (N : Int) := by omega
                have HKL := Lib.hid hkl
                clear hq hk r2 hik gT gi gc hg hkl
                go_wp2_with (at_builtin; refine wpList_appQ rfl (.tmp 121) (.tmp 127) 85 rfl st85 0 HO.out rfl rfl rfl (.int .i64 (k : Int)) ?_ (by simp [go_sem]) rfl (by unfold maxLen; omega) (by omega); intro g' o' c' w' hO'')
                have hO' := Lib.hid (hO''.cast (qs := [que 3 g' o' (n2 + 1) c' (qv (q2 ++ [k])), box m 4 (bools (T2.set k true)), box w.heap.size 34 [.int .i64 P.W, .int .i64 P.H, .slice P.A P.n P.c]]) (by rw [← qv_snoc]; rfl))
                clear hO''
                go_roundg (gk - 1)
                case measure => have := M1.out; omega
                case rel => exact ⟨j + E, q2 ++ [k], T2.set k true, n2 + 1, g', o', c', hje.out.1, hn3, rfl, by go_num, by have := M1.out; omega, hje.out.2, by simp [M3.out], by have := M4.out; have := hop2.out; omega, by simp [M5.out], hO'.out, fun x hx => by
                  rcases List.mem_append.1 hx with hx | hx
                  · exact M7.out x hx
                  · simp at hx; omega, hmd.out⟩
end Go.Proofs.Ytjelnbfnoliocaa
