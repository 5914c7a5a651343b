/- Ridge: the walk of RidgeEdges. No condition. -/
import Derived.Test.YtjelnbfnoliocaaTd
namespace Go.Proofs.Ytjelnbfnoliocaa
open Go.RowKit Go.Shelf
attribute [local go_sem] Oper.semAt_some

/-- Within an edge. -/
def inE (W H M : Int) (p : Int × Int) : Bool := decide (M ≤ p.1) && (decide (M ≤ p.2) && (decide (M ≤ W - 1 - p.1) && decide (M ≤ H - 1 - p.2)))
theorem minI_more {W H E M : Int} (l : List Bool) (k : Nat) (h : E ≤ M) : minI W H l M k = (minI W H l E k).filter (inE W H M) := by
  unfold minI minP
  rw [List.filter_filter]
  refine List.filter_congr fun p _ => ?_
  unfold goodP inE
  generalize (crossN (nbF W H l p.1 p.2) 8 == 1 || decide (3 ≤ crossN (nbF W H l p.1 p.2) 8)) = b
  rw [Bool.eq_iff_iff]
  simp only [Bool.and_eq_true, decide_eq_true_eq]
  constructor
  · rintro ⟨h1, h2⟩
    exact ⟨h2, h1, by omega⟩
  · rintro ⟨h2, h1, _⟩
    exact ⟨h1, h2⟩
theorem minI_mem {W H E : Int} {l : List Bool} {k : Nat} {p : Int × Int} (h : p ∈ minI W H l E k) : ∃ i, i < k ∧ l.getD i false = true ∧ p = plc W i ∧ goodP W H l E p = true := by
  unfold minI minP at h
  rw [List.mem_filter] at h
  obtain ⟨h1, h2⟩ := h
  obtain ⟨i, hi, rfl⟩ := List.mem_map.1 h1
  rw [pixI, List.mem_filter, List.mem_range] at hi
  exact ⟨i, hi.1, hi.2, rfl, h2⟩
theorem firstN_true {r : Nat → Bool} (h : crossN r 8 ≠ 0) : r (firstN r) = true ∧ firstN r ≤ 7 := by
  cases hf : (List.range 8).find? r with
  | some d =>
    have e : firstN r = d := by unfold firstN; rw [hf]; rfl
    rw [e]
    have := List.mem_range.1 (List.mem_of_find?_eq_some hf)
    exact ⟨List.find?_some hf, by omega⟩
  | none =>
    exfalso
    apply h
    rw [List.find?_eq_none] at hf
    have h8 : ∀ d, d < 8 → r d = false := fun d hd => by simpa using hf d (List.mem_range.2 hd)
    simp only [crossN, h8 0 (by decide), h8 1 (by decide), h8 2 (by decide), h8 3 (by decide), h8 4 (by decide), h8 5 (by decide), h8 6 (by decide), h8 7 (by decide), Nat.reduceAdd, Nat.reduceMod]
    rfl
theorem filter_at {α : Type} {q : α → Bool} {ms : List α} {k : Nat} (hk : k < ms.length) (hq : q ms[k] = true) : (ms.filter q)[((ms.take k).filter q).length]? = some ms[k] := by
  conv => lhs; rw [← List.take_append_drop k ms, List.filter_append]
  rw [List.getElem?_append_right (by simp), List.drop_eq_getElem_cons hk, List.filter_cons, if_pos hq]
  simp
theorem filter_len {α : Type} {q : α → Bool} {ms : List α} {k : Nat} (hk : k < ms.length) : ((ms.take (k + 1)).filter q).length = ((ms.take k).filter q).length + if q ms[k] then 1 else 0 := by
  rw [List.take_succ_eq_append_getElem hk, List.filter_append, List.length_append]
  cases h : q ms[k] <;> simp [h]
theorem filter_take_le {α : Type} (q : α → Bool) (ms : List α) (k : Nat) : ((ms.take k).filter q).length ≤ k := Nat.le_trans (List.length_filter_le _ _) (List.length_take_le _ _)
/-- What a minutia of a trace is. -/
theorem mnt_facts {W H E : Int} {l : List Bool} {n : Nat} (ok : sized1B W H n = true) {p : Int × Int} (h : p ∈ minI W H l E n) :
    askedF W H n p.1 p.2 = 0 ∧ (0 ≤ p.1 ∧ p.1 ≤ 19) ∧ (0 ≤ p.2 ∧ p.2 ≤ 19) ∧ isF W H l p.1 p.2 = true ∧ nbF W H l p.1 p.2 (firstN (nbF W H l p.1 p.2)) = true ∧ firstN (nbF W H l p.1 p.2) ≤ 7 ∧ (crossN (nbF W H l p.1 p.2) 8 = 1 ∨ 3 ≤ crossN (nbF W H l p.1 p.2) 8) := by
  obtain ⟨hW, hH, hnn⟩ := valid_bd ok
  obtain ⟨i, hi, hl, rfl, hg⟩ := minI_mem h
  obtain ⟨⟨⟨p1, p2⟩, p3, p4⟩, p5⟩ := plc_in hW hH hnn hi
  have hc : crossN (nbF W H l (plc W i).1 (plc W i).2) 8 = 1 ∨ 3 ≤ crossN (nbF W H l (plc W i).1 (plc W i).2) 8 := by
    unfold goodP at hg
    simp only [Bool.and_eq_true, Bool.or_eq_true, beq_iff_eq, decide_eq_true_eq] at hg
    exact hg.1
  have hf := firstN_true (r := nbF W H l (plc W i).1 (plc W i).2) (by omega)
  refine ⟨?_, ⟨by omega, by omega⟩, ⟨by omega, by omega⟩, ?_, hf.1, hf.2, hc⟩
  · unfold askedF
    rw [if_pos ok, if_pos]
    simp only [inB, Bool.and_eq_true, decide_eq_true_eq]
    exact ⟨⟨p1, p2⟩, p3, p4⟩
  · rw [isF_at hW hH hnn hi]
    exact hl
set_option maxRecDepth 100000 in
set_option maxHeartbeats 4000000 in
theorem ridgeEdges_walk (W H E M : Int) (A : Option Addr) (l : List Bool) (n c : Nat) (w : World) (hr : Rd w A (bools l)) (hn : n = l.length) :
    Calls Try.prog 11 #[.agg #[.int .i64 W, .int .i64 H, .slice A n c], .int .i64 E, .int .i64 M] w fun e w' => e = .returned (.bool true) ∧ Below w.heap.size w w' := by
  have S0 := Lib.hid ((Own.start w).new 34 #[.int .i64 W, .int .i64 H, .slice A n c])
  have HF := Lib.hid (fun W1 (h : Below w.heap.size w W1) => hr.below h)
  by_cases hbad : sized1B W H n = false ∨ inB 0 20 E = false
  case pos => as_aux_lemma =>
    obtain ⟨e0, hE0, K39⟩ : ∃ e0 : Int, (e0 = 2 ∨ e0 = 10) ∧ Hid (∀ W1, Calls Try.prog 39 #[.agg #[.int .i64 W, .int .i64 H, .slice A n c], .int .i64 E] W1 (MinPost W H l [] e0 W1)) := by
      cases ok : sized1B W H n
      · exact ⟨10, .inr rfl, fun W1 => min_no W H E A l n c W1 ok⟩
      · exact ⟨2, .inl rfl, fun W1 => min_edge W H E A l n c W1 ok (by rw [ok] at hbad; simpa using hbad)⟩
    clear hr hn hbad HF
    rcases hE0 with rfl | rfl
    all_goals
      go_enter Try.func11, Try.ntmps11
      go_wp2_with fail
      refine (alive_any _).mono ?_
      rintro e w1 ⟨rfl, hb1⟩
      have S1 := Lib.hid (S0.out.ext hb1)
      clear hb1 S0
      obtain ⟨t0_0, t0_1, t0_2, _⟩ := (S1.out.bx 0 rfl).c3
      have lt0 := (S1.out.bx 0 rfl).2.2
      go_wp2_with fail
      refine (K39.out _).mono ?_
      rintro e w2 ⟨A1, c1, rfl, hO2⟩
      have S2 := Lib.hid ((S1.out.call hO2).cast (qs := [row 77 4 (.slice A1 0 c1) 0 (flat (mntE W H l) []), box w.heap.size 34 [.int .i64 W, .int .i64 H, .slice A n c]]) rfl)
      clear hO2 S1 t0_0 t0_1 t0_2 lt0
      go_wp2_with fail
      go_ret
      exact ⟨rfl, S2.out.bel⟩
  have ok : sized1B W H n = true := by cases h : sized1B W H n <;> simp_all
  have hE : inB 0 20 E = true := by cases h : inB 0 20 E <;> simp_all
  obtain ⟨hW, hH, hnn⟩ := valid_bd ok
  have K39 := Lib.hid (fun W1 h => min_ok W H E A l n c W1 ok hE h hn)
  have K44 := Lib.hid (fun W1 => (show Calls Try.prog 44 #[.agg #[.int .i64 W, .int .i64 H, .slice A n c]] W1 fun e w' => e = .returned (.bool true) ∧ Below W1.heap.size W1 w' by have := valid_any W H A n c W1; rw [ok] at this; exact this))
  have K35 := Lib.hid (fun x y W1 (h : Rd W1 A (bools l)) (ha : askedF W H n x y = 0) => (show Calls Try.prog 35 #[.agg #[.int .i64 W, .int .i64 H, .slice A n c], .int .i64 x, .int .i64 y] W1 fun e w' => e = .returned (.tuple #[.int .i64 (crossN (nbF W H l x y) 8 : Nat), .int .i64 0]) ∧ Below W1.heap.size W1 w' by
    have := Crossings_any W H x y A l n c W1 h hn
    rw [ha, if_pos rfl] at this
    exact this))
  have K46 := Lib.hid (fun x y W1 h => refIs_any W H x y A l n c W1 ok h hn)
  have K48 := Lib.hid (fun x y (d : Nat) W1 h hx hy hd => near_any W H x y d d A l n c W1 ok h hn hx hy rfl hd)
  have KF := Lib.hid (fun p (h : p ∈ minI W H l E n) => mnt_facts ok h)
  obtain ⟨ms2, e2, K39M, KM⟩ : ∃ ms2 e2, Hid (∀ W1, Rd W1 A (bools l) → Calls Try.prog 39 #[.agg #[.int .i64 W, .int .i64 H, .slice A n c], .int .i64 M] W1 (MinPost W H l ms2 e2 W1)) ∧ (M < E ∨ (¬ M < E ∧ e2 = 2) ∨ (¬ M < E ∧ e2 = 0 ∧ ms2 = (minI W H l E n).filter (inE W H M))) := by
    cases hM : inB 0 20 M
    · exact ⟨[], 2, fun W1 _ => min_edge W H M A l n c W1 ok hM, by by_cases h : M < E; exact .inl h; exact .inr (.inl ⟨h, rfl⟩)⟩
    · exact ⟨minI W H l M n, 0, fun W1 h => min_ok W H M A l n c W1 ok hM h hn, by by_cases h : M < E; exact .inl h; exact .inr (.inr ⟨h, rfl, minI_more l n (by omega)⟩)⟩
  have hb20 : n ≤ 400 := by
    have b2 : W * H ≤ 20 * 20 := Int.mul_le_mul hW.2 hH.2 (by omega) (by omega)
    omega
  have hms : (minI W H l E n).length ≤ 400 := Nat.le_trans (minI_len W H l E n) hb20
  clear hr hn ok hE hbad hnn hb20
  as_aux_lemma =>
    generalize minI W H l E n = ms at *
    generalize hL : ms.length = L at *
    have HL := Lib.hid hL
    clear hL
    go_enter Try.func11, Try.ntmps11
    go_wp2_with fail
    refine (alive_any _).mono ?_
    rintro e w1 ⟨rfl, hb1⟩
    have S1 := Lib.hid (S0.out.ext hb1)
    clear hb1 S0
    obtain ⟨t0_0, t0_1, t0_2, _⟩ := (S1.out.bx 0 rfl).c3
    have lt0 := (S1.out.bx 0 rfl).2.2
    go_wp2_with fail
    refine (K39.out _ (HF.out _ S1.out.bel)).mono ?_
    rintro e w2 ⟨A1, c1, hret, hO2⟩
    rw [HL.out] at hret hO2
    subst hret
    have S2 := Lib.hid ((S1.out.call hO2).cast (qs := [row 77 4 (.slice A1 L c1) L (flat (mntE W H l) ms), box w.heap.size 34 [.int .i64 W, .int .i64 H, .slice A n c]]) rfl)
    clear hO2 S1 t0_0 t0_1 t0_2 lt0
    obtain ⟨t1_0, t1_1, t1_2, _⟩ := (S2.out.bx 1 rfl).c3
    have lt1 := (S2.out.bx 1 rfl).2.2
    go_wp2_with fail
    refine (K44.out _).mono ?_
    rintro e w3 ⟨rfl, hb3⟩
    have S3 := Lib.hid (S2.out.ext hb3)
    clear hb3 S2 t1_0 t1_1 t1_2 lt1
    go_wp2_with fail
    go_loopg [40] L (fun q u40 wr => ∃ k : Nat, k ≤ L ∧ u40 = .int .i64 k ∧ Hid (k + q = L ∧ Own w wr [row 77 4 (.slice A1 L c1) L (flat (mntE W H l) ms), box w.heap.size 34 [.int .i64 W, .int .i64 H, .slice A n c]]))
    case atStart => exact ⟨0, by omega, rfl, by omega, S3.out⟩
    case round =>
      obtain ⟨k, hk, rfl, hI⟩ := hrel
      have I1 := Lib.hid hI.out.1
      have I2 := Lib.hid hI.out.2
      clear hI S3
      by_cases hlt : k < L
      case neg => as_aux_lemma =>
        obtain rfl : k = L := by omega
        obtain ⟨t1_0, t1_1, t1_2, _⟩ := (I2.out.bx 1 rfl).c3
        have lt1 := (I2.out.bx 1 rfl).2.2
        go_wp2_with fail
        refine (K39M.out _ (HF.out _ I2.out.bel)).mono ?_
        rintro e w4 ⟨A2, c2, rfl, hO4⟩
        have S4 := Lib.hid ((I2.out.call hO4).cast (qs := [row 77 4 (.slice A2 ms2.length c2) ms2.length (flat (mntE W H l) ms2), row 77 4 (.slice A1 k c1) k (flat (mntE W H l) ms), box w.heap.size 34 [.int .i64 W, .int .i64 H, .slice A n c]]) rfl)
        clear hO4 I2 t1_0 t1_1 t1_2 lt1
        rcases KM with h | ⟨h, rfl⟩ | ⟨h, rfl, hf⟩
        · have h1 : decide (M < E) = true := by simpa using h
          go_wp2_with fail
          go_ret
          exact ⟨rfl, S4.out.bel⟩
        · have h1 : decide (M < E) = false := by simpa using h
          go_wp2_with fail
          go_ret
          exact ⟨rfl, S4.out.bel⟩
        have h1 : decide (M < E) = false := by simpa using h
        have HFL := Lib.hid hf
        have HL2 := Lib.hid (show ms2.length ≤ 400 by rw [hf]; have := List.length_filter_le (inE W H M) ms; have := HL.out; omega)
        have hl2 := HL2.out
        clear hf h
        go_wp2_with fail
        generalize hL2 : ms2.length = L2 at *
        have HLB := Lib.hid hL2
        clear hL2 HL2 I1
        go_loopg [16, 129] k (fun q u16 u129 wr => ∃ j i : Nat, j ≤ k ∧ i ≤ 400 ∧ u16 = .int .i64 i ∧ u129 = .int .i64 j ∧ Hid (j + q = k ∧ i = ((ms.take j).filter (inE W H M)).length ∧ Own w wr [row 77 4 (.slice A2 L2 c2) L2 (flat (mntE W H l) ms2), row 77 4 (.slice A1 k c1) k (flat (mntE W H l) ms), box w.heap.size 34 [.int .i64 W, .int .i64 H, .slice A n c]]))
        case atStart => exact ⟨0, 0, by omega, by omega, rfl, rfl, by omega, rfl, S4.out⟩
        case round =>
          obtain ⟨j, i, hj, hi4, rfl, rfl, hI⟩ := hrel
          have J1 := Lib.hid hI.out.1
          have J2 := Lib.hid hI.out.2.1
          have J3 := Lib.hid hI.out.2.2
          clear hI S4
          by_cases hlt2 : j < k
          case neg => as_aux_lemma =>
            obtain rfl : j = k := by omega
            have hi : i = L2 := by rw [J2.out, ← HLB.out, HFL.out, List.take_of_length_le (by rw [HL.out]; exact Nat.le_refl _)]
            subst hi
            go_wp2_with fail
            go_ret
            exact ⟨rfl, J3.out.bel⟩
          have hjm : j < ms.length := by rw [HL.out]; exact hlt2
          have hp : ms[j]? = some ms[j] := List.getElem?_eq_getElem hjm
          have HIN := Lib.hid (fun h : inE W H M ms[j] = true => filter_at (q := inE W H M) hjm h)
          have HCT := Lib.hid (filter_len (q := inE W H M) hjm)
          obtain ⟨f1, ⟨x1, x2⟩, ⟨y1, y2⟩, _⟩ := KF.out ms[j] (List.getElem_mem hjm)
          have HXB := Lib.hid f1
          generalize hmp : ms[j] = p at *
          clear hmp f1
          obtain ⟨g, hA1⟩ := J3.out.rowAddr 1 rfl (by omega)
          subst hA1
          have g0 := (flat_get (mntE W H l) 4 (mntE_len W H l) ms j _ 0 hp (by omega)).trans rfl
          have g1 := (flat_get (mntE W H l) 4 (mntE_len W H l) ms j _ 1 hp (by omega)).trans rfl
          have g2 := (flat_get (mntE W H l) 4 (mntE_len W H l) ms j _ 2 hp (by omega)).trans rfl
          have g3 := (flat_get (mntE W H l) 4 (mntE_len W H l) ms j _ 3 hp (by omega)).trans rfl
          have a0 := J3.out.rowAt 1 rfl g0
          have a1 := J3.out.rowAt 1 rfl g1
          have a2 := J3.out.rowAt 1 rfl g2
          have a3 := J3.out.rowAt 1 rfl g3
          simp only [Nat.add_zero] at a0
          have lg := (J3.out.rowLt 1 rfl).1
          have i1 : (j : Int) < (k : Int) := by omega
          clear g0 g1 g2 g3 hp hjm
          have HKD : 0 ≤ (if 3 ≤ crossN (nbF W H l p.1 p.2) 8 then (2 : Int) else 1) := by split <;> omega
          have HEN := Lib.hid (show mntE W H l p = [.int .i64 p.1, .int .i64 p.2, .int .u8 (if 3 ≤ crossN (nbF W H l p.1 p.2) 8 then 2 else 1), .int .u8 (firstN (nbF W H l p.1 p.2) : Nat)] from rfl)
          have HIE := Lib.hid (show inE W H M p = (decide (M ≤ p.1) && (decide (M ≤ p.2) && (decide (M ≤ W - 1 - p.1) && decide (M ≤ H - 1 - p.2)))) from rfl)
          generalize (if 3 ≤ crossN (nbF W H l p.1 p.2) 8 then (2 : Int) else 1) = kd at *
          generalize ((firstN (nbF W H l p.1 p.2) : Nat) : Int) = dd at *
          generalize inE W H M p = bi at *
          generalize hX : p.1 = x at *
          generalize hY : p.2 = y at *
          clear hX hY HKD HXB
          go_upto_region 21 with fail
          have S21 := Lib.hid ((J3.out.new' 77 #[.int .i64 x, .int .i64 y, .int .u8 kd, .int .u8 dd] (B := wr.heap.size) rfl).cast (qs := [box wr.heap.size 77 [.int .i64 x, .int .i64 y, .int .u8 kd, .int .u8 dd], row 77 4 (.slice A2 L2 c2) L2 (flat (mntE W H l) ms2), row 77 4 (.slice (some ⟨g, 0, none⟩) k c1) k (flat (mntE W H l) ms), box w.heap.size 34 [.int .i64 W, .int .i64 H, .slice A n c]]) rfl)
          generalize wr.alloc (.cells #[.int .i64 x, .int .i64 y, .int .u8 kd, .int .u8 dd] 77) = w21 at *
          generalize wr.heap.size = BM at *
          clear J3
          clear a0 a1 a2 a3 lg
          obtain ⟨t0_0, t0_1, t0_2, t0_3, _⟩ := (S21.out.bx 0 rfl).c4
          have lt0 := (S21.out.bx 0 rfl).2.2
          obtain ⟨t3_0, t3_1, t3_2, _⟩ := (S21.out.bx 3 rfl).c3
          have lt3 := (S21.out.bx 3 rfl).2.2
          by_cases q0 : M ≤ x
          case neg => as_aux_lemma =>
            have d0 : decide (M ≤ x) = false := by simpa using q0
            clear HIN
            go_wp2_with fail
            have S99 := Lib.hid (S21.out.sub [1, 2, 3] (by decide) (qs := [row 77 4 (.slice A2 L2 c2) L2 (flat (mntE W H l) ms2), row 77 4 (.slice (some ⟨g, 0, none⟩) k c1) k (flat (mntE W H l) ms), box w.heap.size 34 [.int .i64 W, .int .i64 H, .slice A n c]]) rfl)
            go_roundg (gk - 1)
            case measure => have := J1.out; omega
            case rel => exact ⟨j + 1, i, by omega, by omega, rfl, by go_num, by have := J1.out; omega, by rw [HCT.out, ← J2.out, HIE.out]; simp [*], S99.out⟩
          have d0 : decide (M ≤ x) = true := by simpa using q0
          by_cases q1 : M ≤ y
          case neg => as_aux_lemma =>
            have d1 : decide (M ≤ y) = false := by simpa using q1
            clear HIN
            go_wp2_with fail
            have S99 := Lib.hid (S21.out.sub [1, 2, 3] (by decide) (qs := [row 77 4 (.slice A2 L2 c2) L2 (flat (mntE W H l) ms2), row 77 4 (.slice (some ⟨g, 0, none⟩) k c1) k (flat (mntE W H l) ms), box w.heap.size 34 [.int .i64 W, .int .i64 H, .slice A n c]]) rfl)
            go_roundg (gk - 1)
            case measure => have := J1.out; omega
            case rel => exact ⟨j + 1, i, by omega, by omega, rfl, by go_num, by have := J1.out; omega, by rw [HCT.out, ← J2.out, HIE.out]; simp [*], S99.out⟩
          have d1 : decide (M ≤ y) = true := by simpa using q1
          by_cases q2 : M ≤ W - 1 - x
          case neg => as_aux_lemma =>
            have d2 : decide (M ≤ W - 1 - x) = false := by simpa using q2
            clear HIN
            go_wp2_with fail
            have S99 := Lib.hid (S21.out.sub [1, 2, 3] (by decide) (qs := [row 77 4 (.slice A2 L2 c2) L2 (flat (mntE W H l) ms2), row 77 4 (.slice (some ⟨g, 0, none⟩) k c1) k (flat (mntE W H l) ms), box w.heap.size 34 [.int .i64 W, .int .i64 H, .slice A n c]]) rfl)
            go_roundg (gk - 1)
            case measure => have := J1.out; omega
            case rel => exact ⟨j + 1, i, by omega, by omega, rfl, by go_num, by have := J1.out; omega, by rw [HCT.out, ← J2.out, HIE.out]; simp [*], S99.out⟩
          have d2 : decide (M ≤ W - 1 - x) = true := by simpa using q2
          by_cases q3 : M ≤ H - 1 - y
          case neg => as_aux_lemma =>
            have d3 : decide (M ≤ H - 1 - y) = false := by simpa using q3
            clear HIN
            go_wp2_with fail
            have S99 := Lib.hid (S21.out.sub [1, 2, 3] (by decide) (qs := [row 77 4 (.slice A2 L2 c2) L2 (flat (mntE W H l) ms2), row 77 4 (.slice (some ⟨g, 0, none⟩) k c1) k (flat (mntE W H l) ms), box w.heap.size 34 [.int .i64 W, .int .i64 H, .slice A n c]]) rfl)
            go_roundg (gk - 1)
            case measure => have := J1.out; omega
            case rel => exact ⟨j + 1, i, by omega, by omega, rfl, by go_num, by have := J1.out; omega, by rw [HCT.out, ← J2.out, HIE.out]; simp [*], S99.out⟩
          have d3 : decide (M ≤ H - 1 - y) = true := by simpa using q3
          as_aux_lemma =>
            have hbi : bi = true := by rw [HIE.out, d0, d1, d2, d3]; rfl
            have hki := HIN.out hbi
            rw [← HFL.out, ← J2.out] at hki
            have hil : i < L2 := by rw [← HLB.out]; exact (List.getElem?_eq_some_iff.1 hki).1
            obtain ⟨g2, hA2⟩ := S21.out.rowAddr 1 rfl (by omega)
            subst hA2
            have g0 := (flat_get (mntE W H l) 4 (mntE_len W H l) ms2 i _ 0 hki (by omega)).trans (by rw [HEN.out])
            have g1 := (flat_get (mntE W H l) 4 (mntE_len W H l) ms2 i _ 1 hki (by omega)).trans (by rw [HEN.out])
            have g2 := (flat_get (mntE W H l) 4 (mntE_len W H l) ms2 i _ 2 hki (by omega)).trans (by rw [HEN.out])
            have g3 := (flat_get (mntE W H l) 4 (mntE_len W H l) ms2 i _ 3 hki (by omega)).trans (by rw [HEN.out])
            have i2 : decide (((L2 : Nat) : Int) ≤ (i : Int)) = false := by simp; omega
            have i4 : decide (L2 ≤ i) = false := by simp; omega
            have i3 : (i : Int) < (L2 : Int) := by omega
            simp only [Nat.add_zero] at g0
            have HG0 := Lib.hid g0
            have HG1 := Lib.hid g1
            have HG2 := Lib.hid g2
            have HG3 := Lib.hid g3
            clear g0 g1 g2 g3 hki HIN
            go_wp2_with fail
            have fx0 := fun x : OwnOf w [box BM 77 [.int .i64 x, .int .i64 y, .int .u8 kd, .int .u8 dd], row 77 4 (.slice (some ⟨g2, 0, none⟩) L2 c2) L2 (flat (mntE W H l) ms2), row 77 4 (.slice (some ⟨g, 0, none⟩) k c1) k (flat (mntE W H l) ms), box w.heap.size 34 [.int .i64 W, .int .i64 H, .slice A n c]] => x.own.rowAt 1 rfl HG0.out
            have fx1 := fun x : OwnOf w [box BM 77 [.int .i64 x, .int .i64 y, .int .u8 kd, .int .u8 dd], row 77 4 (.slice (some ⟨g2, 0, none⟩) L2 c2) L2 (flat (mntE W H l) ms2), row 77 4 (.slice (some ⟨g, 0, none⟩) k c1) k (flat (mntE W H l) ms), box w.heap.size 34 [.int .i64 W, .int .i64 H, .slice A n c]] => x.own.rowAt 1 rfl HG1.out
            have fx2 := fun x : OwnOf w [box BM 77 [.int .i64 x, .int .i64 y, .int .u8 kd, .int .u8 dd], row 77 4 (.slice (some ⟨g2, 0, none⟩) L2 c2) L2 (flat (mntE W H l) ms2), row 77 4 (.slice (some ⟨g, 0, none⟩) k c1) k (flat (mntE W H l) ms), box w.heap.size 34 [.int .i64 W, .int .i64 H, .slice A n c]] => x.own.rowAt 1 rfl HG2.out
            have fx3 := fun x : OwnOf w [box BM 77 [.int .i64 x, .int .i64 y, .int .u8 kd, .int .u8 dd], row 77 4 (.slice (some ⟨g2, 0, none⟩) L2 c2) L2 (flat (mntE W H l) ms2), row 77 4 (.slice (some ⟨g, 0, none⟩) k c1) k (flat (mntE W H l) ms), box w.heap.size 34 [.int .i64 W, .int .i64 H, .slice A n c]] => x.own.rowAt 1 rfl HG3.out
            have fx4 := fun x : OwnOf w [box BM 77 [.int .i64 x, .int .i64 y, .int .u8 kd, .int .u8 dd], row 77 4 (.slice (some ⟨g2, 0, none⟩) L2 c2) L2 (flat (mntE W H l) ms2), row 77 4 (.slice (some ⟨g, 0, none⟩) k c1) k (flat (mntE W H l) ms), box w.heap.size 34 [.int .i64 W, .int .i64 H, .slice A n c]] => (x.bx 0 rfl).1 0 _ rfl
            have fx5 := fun x : OwnOf w [box BM 77 [.int .i64 x, .int .i64 y, .int .u8 kd, .int .u8 dd], row 77 4 (.slice (some ⟨g2, 0, none⟩) L2 c2) L2 (flat (mntE W H l) ms2), row 77 4 (.slice (some ⟨g, 0, none⟩) k c1) k (flat (mntE W H l) ms), box w.heap.size 34 [.int .i64 W, .int .i64 H, .slice A n c]] => (x.bx 0 rfl).1 1 _ rfl
            have fx6 := fun x : OwnOf w [box BM 77 [.int .i64 x, .int .i64 y, .int .u8 kd, .int .u8 dd], row 77 4 (.slice (some ⟨g2, 0, none⟩) L2 c2) L2 (flat (mntE W H l) ms2), row 77 4 (.slice (some ⟨g, 0, none⟩) k c1) k (flat (mntE W H l) ms), box w.heap.size 34 [.int .i64 W, .int .i64 H, .slice A n c]] => (x.bx 0 rfl).1 2 _ rfl
            have fx7 := fun x : OwnOf w [box BM 77 [.int .i64 x, .int .i64 y, .int .u8 kd, .int .u8 dd], row 77 4 (.slice (some ⟨g2, 0, none⟩) L2 c2) L2 (flat (mntE W H l) ms2), row 77 4 (.slice (some ⟨g, 0, none⟩) k c1) k (flat (mntE W H l) ms), box w.heap.size 34 [.int .i64 W, .int .i64 H, .slice A n c]] => (x.bx 0 rfl).1 3 _ rfl
            have hne : Nonempty (OwnOf w [box BM 77 [.int .i64 x, .int .i64 y, .int .u8 kd, .int .u8 dd], row 77 4 (.slice (some ⟨g2, 0, none⟩) L2 c2) L2 (flat (mntE W H l) ms2), row 77 4 (.slice (some ⟨g, 0, none⟩) k c1) k (flat (mntE W H l) ms), box w.heap.size 34 [.int .i64 W, .int .i64 H, .slice A n c]]) := ⟨⟨_, S21.out⟩⟩
            refine wp_region_own S21.out (by kernel_rfl) (by kernel_rfl) ?_
            iterate 12 (go_big_quiet_step (fail))
            refine wpQuiet_nil ?_
            rintro w22 ⟨z, hz⟩
            have S22 := Lib.hid (show Own w w22 [box BM 77 [.int .i64 x, .int .i64 y, .int .u8 kd, .int .u8 dd], row 77 4 (.slice (some ⟨g2, 0, none⟩) L2 c2) L2 (flat (mntE W H l) ms2), row 77 4 (.slice (some ⟨g, 0, none⟩) k c1) k (flat (mntE W H l) ms), box w.heap.size 34 [.int .i64 W, .int .i64 H, .slice A n c]] by rw [hz]; exact z.own)
            clear hz z hne fx0 fx1 fx2 fx3 fx4 fx5 fx6 fx7 S21 t0_0 t0_1 t0_2 t0_3 lt0 t3_0 t3_1 t3_2 lt3
            go_wp2_with fail
            have S99 := Lib.hid (S22.out.sub [1, 2, 3] (by decide) (qs := [row 77 4 (.slice (some ⟨g2, 0, none⟩) L2 c2) L2 (flat (mntE W H l) ms2), row 77 4 (.slice (some ⟨g, 0, none⟩) k c1) k (flat (mntE W H l) ms), box w.heap.size 34 [.int .i64 W, .int .i64 H, .slice A n c]]) rfl)
            go_roundg (gk - 1)
            case measure => have := J1.out; omega
            case rel => exact ⟨j + 1, i + 1, by omega, by have := hl2; omega, by go_num, by go_num, by have := J1.out; omega, by rw [HCT.out, ← J2.out, HIE.out]; simp [*], S99.out⟩
      have hkm : k < ms.length := by rw [HL.out]; exact hlt
      have hp : ms[k]? = some ms[k] := List.getElem?_eq_getElem hkm
      obtain ⟨f1, ⟨x1, x2⟩, ⟨y1, y2⟩, f4, f5, f6, f7⟩ := KF.out ms[k] (List.getElem_mem hkm)
      generalize hmp : ms[k] = p at *
      clear hmp hkm
      obtain ⟨g, hA1⟩ := I2.out.rowAddr 0 rfl (by omega)
      subst hA1
      have g0 := (flat_get (mntE W H l) 4 (mntE_len W H l) ms k _ 0 hp (by omega)).trans rfl
      have g1 := (flat_get (mntE W H l) 4 (mntE_len W H l) ms k _ 1 hp (by omega)).trans rfl
      have g2 := (flat_get (mntE W H l) 4 (mntE_len W H l) ms k _ 2 hp (by omega)).trans rfl
      have g3 := (flat_get (mntE W H l) 4 (mntE_len W H l) ms k _ 3 hp (by omega)).trans rfl
      have a0 := I2.out.rowAt 0 rfl g0
      have a1 := I2.out.rowAt 0 rfl g1
      have a2 := I2.out.rowAt 0 rfl g2
      have a3 := I2.out.rowAt 0 rfl g3
      simp only [Nat.add_zero] at a0
      have lg := (I2.out.rowLt 0 rfl).1
      have i1 : (k : Int) < (L : Int) := by omega
      clear g0 g1 g2 g3 hp
      have E35 := Lib.hid (fun W1 h => K35.out p.1 p.2 W1 h f1)
      have E46 := Lib.hid (fun W1 h => (show Calls Try.prog 46 #[.agg #[.int .i64 W, .int .i64 H, .slice A n c], .int .i64 p.1, .int .i64 p.2] W1 fun e w' => e = .returned (.bool true) ∧ Below W1.heap.size W1 w' by have := K46.out p.1 p.2 W1 h; rw [f4] at this; exact this))
      have E48 := Lib.hid (fun W1 h => (show Calls Try.prog 48 #[.agg #[.int .i64 W, .int .i64 H, .slice A n c], .int .i64 p.1, .int .i64 p.2, .int .i64 (firstN (nbF W H l p.1 p.2) : Nat)] W1 fun e w' => e = .returned (.bool true) ∧ Below W1.heap.size W1 w' by have := K48.out p.1 p.2 (firstN (nbF W H l p.1 p.2)) W1 h (by omega) (by omega) (by omega); rw [f5] at this; exact this))
      clear f1 f4 f5 K35 K46 K48 KM
      generalize firstN (nbF W H l p.1 p.2) = dd at *
      generalize crossN (nbF W H l p.1 p.2) 8 = cr at *
      generalize p.1 = x at *
      generalize p.2 = y at *
      rcases f7 with f7 | f7
      · as_aux_lemma =>
        subst f7
        simp only [show ¬ (3 : Nat) ≤ 1 by decide, if_false] at a2
        go_upto_region 10 with fail
        have S5 := Lib.hid ((I2.out.new' 77 #[.int .i64 x, .int .i64 y, .int .u8 1, .int .u8 (dd : Nat)] (B := wr.heap.size) rfl).cast (qs := [box wr.heap.size 77 [.int .i64 x, .int .i64 y, .int .u8 1, .int .u8 (dd : Nat)], row 77 4 (.slice (some ⟨g, 0, none⟩) L c1) L (flat (mntE W H l) ms), box w.heap.size 34 [.int .i64 W, .int .i64 H, .slice A n c]]) rfl)
        generalize wr.alloc (.cells #[.int .i64 x, .int .i64 y, .int .u8 1, .int .u8 (dd : Nat)] 77) = w5 at *
        generalize wr.heap.size = BM at *
        clear I2
        clear a0 a1 a2 a3 lg
        obtain ⟨t0_0, t0_1, t0_2, t0_3, _⟩ := (S5.out.bx 0 rfl).c4
        have lt0 := (S5.out.bx 0 rfl).2.2
        obtain ⟨t2_0, t2_1, t2_2, _⟩ := (S5.out.bx 2 rfl).c3
        have lt2 := (S5.out.bx 2 rfl).2.2
        go_wp2_with fail
        refine (E35.out _ (HF.out _ S5.out.bel)).mono ?_
        rintro e w6 ⟨rfl, hb6⟩
        have S6 := Lib.hid (S5.out.ext hb6)
        clear hb6 S5 t0_0 t0_1 t0_2 t0_3 lt0 t2_0 t2_1 t2_2 lt2
        obtain ⟨t0_0, t0_1, t0_2, t0_3, _⟩ := (S6.out.bx 0 rfl).c4
        have lt0 := (S6.out.bx 0 rfl).2.2
        obtain ⟨t2_0, t2_1, t2_2, _⟩ := (S6.out.bx 2 rfl).c3
        have lt2 := (S6.out.bx 2 rfl).2.2
        go_wp2_with fail
        refine (E46.out _ (HF.out _ S6.out.bel)).mono ?_
        rintro e w7 ⟨rfl, hb7⟩
        have S7 := Lib.hid (S6.out.ext hb7)
        clear hb7 S6 t0_0 t0_1 t0_2 t0_3 lt0 t2_0 t2_1 t2_2 lt2
        obtain ⟨t0_0, t0_1, t0_2, t0_3, _⟩ := (S7.out.bx 0 rfl).c4
        have lt0 := (S7.out.bx 0 rfl).2.2
        obtain ⟨t2_0, t2_1, t2_2, _⟩ := (S7.out.bx 2 rfl).c3
        have lt2 := (S7.out.bx 2 rfl).2.2
        go_wp2_with fail
        refine (E48.out _ (HF.out _ S7.out.bel)).mono ?_
        rintro e w8 ⟨rfl, hb8⟩
        have S8 := Lib.hid (S7.out.ext hb8)
        clear hb8 S7 t0_0 t0_1 t0_2 t0_3 lt0 t2_0 t2_1 t2_2 lt2
        obtain ⟨t0_0, t0_1, t0_2, t0_3, _⟩ := (S8.out.bx 0 rfl).c4
        have lt0 := (S8.out.bx 0 rfl).2.2
        go_wp2_with fail
        have S99 := Lib.hid (S8.out.sub [1, 2] (by decide) (qs := [row 77 4 (.slice (some ⟨g, 0, none⟩) L c1) L (flat (mntE W H l) ms), box w.heap.size 34 [.int .i64 W, .int .i64 H, .slice A n c]]) rfl)
        go_roundg (gk - 1)
        case measure => have := I1.out; omega
        case rel => exact ⟨k + 1, by omega, by go_num, by have := I1.out; omega, S99.out⟩
      · as_aux_lemma =>
        rw [if_pos f7] at a2
        have q1 : (((cr : Nat) : Int) == 1) = false := by simp; omega
        have q2 : decide (((cr : Nat) : Int) < 3) = false := by simp; omega
        clear f7
        go_upto_region 10 with fail
        have S5 := Lib.hid ((I2.out.new' 77 #[.int .i64 x, .int .i64 y, .int .u8 2, .int .u8 (dd : Nat)] (B := wr.heap.size) rfl).cast (qs := [box wr.heap.size 77 [.int .i64 x, .int .i64 y, .int .u8 2, .int .u8 (dd : Nat)], row 77 4 (.slice (some ⟨g, 0, none⟩) L c1) L (flat (mntE W H l) ms), box w.heap.size 34 [.int .i64 W, .int .i64 H, .slice A n c]]) rfl)
        generalize wr.alloc (.cells #[.int .i64 x, .int .i64 y, .int .u8 2, .int .u8 (dd : Nat)] 77) = w5 at *
        generalize wr.heap.size = BM at *
        clear I2
        clear a0 a1 a2 a3 lg
        obtain ⟨t0_0, t0_1, t0_2, t0_3, _⟩ := (S5.out.bx 0 rfl).c4
        have lt0 := (S5.out.bx 0 rfl).2.2
        obtain ⟨t2_0, t2_1, t2_2, _⟩ := (S5.out.bx 2 rfl).c3
        have lt2 := (S5.out.bx 2 rfl).2.2
        go_wp2_with fail
        refine (E35.out _ (HF.out _ S5.out.bel)).mono ?_
        rintro e w6 ⟨rfl, hb6⟩
        have S6 := Lib.hid (S5.out.ext hb6)
        clear hb6 S5 t0_0 t0_1 t0_2 t0_3 lt0 t2_0 t2_1 t2_2 lt2
        obtain ⟨t0_0, t0_1, t0_2, t0_3, _⟩ := (S6.out.bx 0 rfl).c4
        have lt0 := (S6.out.bx 0 rfl).2.2
        obtain ⟨t2_0, t2_1, t2_2, _⟩ := (S6.out.bx 2 rfl).c3
        have lt2 := (S6.out.bx 2 rfl).2.2
        go_wp2_with fail
        refine (E46.out _ (HF.out _ S6.out.bel)).mono ?_
        rintro e w7 ⟨rfl, hb7⟩
        have S7 := Lib.hid (S6.out.ext hb7)
        clear hb7 S6 t0_0 t0_1 t0_2 t0_3 lt0 t2_0 t2_1 t2_2 lt2
        obtain ⟨t0_0, t0_1, t0_2, t0_3, _⟩ := (S7.out.bx 0 rfl).c4
        have lt0 := (S7.out.bx 0 rfl).2.2
        obtain ⟨t2_0, t2_1, t2_2, _⟩ := (S7.out.bx 2 rfl).c3
        have lt2 := (S7.out.bx 2 rfl).2.2
        go_wp2_with fail
        refine (E48.out _ (HF.out _ S7.out.bel)).mono ?_
        rintro e w8 ⟨rfl, hb8⟩
        have S8 := Lib.hid (S7.out.ext hb8)
        clear hb8 S7 t0_0 t0_1 t0_2 t0_3 lt0 t2_0 t2_1 t2_2 lt2
        obtain ⟨t0_0, t0_1, t0_2, t0_3, _⟩ := (S8.out.bx 0 rfl).c4
        have lt0 := (S8.out.bx 0 rfl).2.2
        go_wp2_with fail
        have S99 := Lib.hid (S8.out.sub [1, 2] (by decide) (qs := [row 77 4 (.slice (some ⟨g, 0, none⟩) L c1) L (flat (mntE W H l) ms), box w.heap.size 34 [.int .i64 W, .int .i64 H, .slice A n c]]) rfl)
        go_roundg (gk - 1)
        case measure => have := I1.out; omega
        case rel => exact ⟨k + 1, by omega, by go_num, by have := I1.out; omega, S99.out⟩
end Go.Proofs.Ytjelnbfnoliocaa
