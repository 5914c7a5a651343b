/- Ridge: the walk of RidgeEuler. No condition. -/
import Derived.Test.YtjelnbfnoliocaaTh
import Derived.Test.YtjelnbfnoliocaaTd
namespace Go.Proofs.Ytjelnbfnoliocaa
open Go.RowKit Go.Shelf
attribute [local go_sem] Oper.semAt_some

theorem take_cnt {L : List Bool} {k : Nat} (h : k < L.length) : (L.take (k + 1)).countP id = (L.take k).countP id + if L[k] then 1 else 0 := by
  rw [List.take_succ_eq_append_getElem h, List.countP_append]
  cases L[k] <;> simp
set_option maxRecDepth 100000 in
set_option maxHeartbeats 4000000 in
theorem ridgeEuler_walk (W H : Int) (A : Option Addr) (l : List Bool) (n c : Nat) (w : World) (hr : Rd w A (bools l)) (hn : n = l.length) :
    Calls Try.prog 9 #[.agg #[.int .i64 W, .int .i64 H, .slice A n c]] w fun e w' => e = .returned (.bool true) ∧ Below w.heap.size w w' := by
  have S0 := Lib.hid ((Own.start w).new 34 #[.int .i64 W, .int .i64 H, .slice A n c])
  have HF := Lib.hid (fun W1 (h : Below w.heap.size w W1) => hr.below h)
  cases ok : sized1B W H n
  · as_aux_lemma =>
    have K29 := Lib.hid (fun W1 => parts_no W H A n c W1 ok)
    have K44 := Lib.hid (fun W1 => (show Calls Try.prog 44 #[.agg #[.int .i64 W, .int .i64 H, .slice A n c]] W1 fun e w' => e = .returned (.bool false) ∧ Below W1.heap.size W1 w' by have := valid_any W H A n c W1; rw [ok] at this; exact this))
    clear hr hn ok HF
    go_enter Try.func9, Try.ntmps9
    go_wp2_with fail
    refine (alive_any _).mono ?_
    rintro e w1 ⟨rfl, hb1⟩
    have S1 := Lib.hid (S0.out.ext hb1)
    clear hb1 S0
    obtain ⟨t0_0, t0_1, t0_2, _⟩ := (S1.out.bx 0 rfl).c3
    have lt0 := (S1.out.bx 0 rfl).2.2
    go_wp2_with fail
    refine (K29.out _).mono ?_
    rintro e w2 ⟨rfl, hb2⟩
    have S2 := Lib.hid (S1.out.ext hb2)
    clear hb2 S1 t0_0 t0_1 t0_2 lt0
    obtain ⟨t0_0, t0_1, t0_2, _⟩ := (S2.out.bx 0 rfl).c3
    have lt0 := (S2.out.bx 0 rfl).2.2
    go_wp2_with fail
    refine (K44.out _).mono ?_
    rintro e w3 ⟨rfl, hb3⟩
    have S3 := Lib.hid (S2.out.ext hb3)
    clear hb3 S2 t0_0 t0_1 t0_2 lt0
    go_wp2_with fail
    go_ret
    exact ⟨rfl, S3.out.bel⟩
  have K29 := fun W1 h => parts_ok W H A l n c W1 ok h hn
  have K44 := Lib.hid (fun W1 => (show Calls Try.prog 44 #[.agg #[.int .i64 W, .int .i64 H, .slice A n c]] W1 fun e w' => e = .returned (.bool true) ∧ Below W1.heap.size W1 w' by have := valid_any W H A n c W1; rw [ok] at this; exact this))
  have K46 := Lib.hid (fun x y W1 h => refIs_any W H x y A l n c W1 ok h hn)
  obtain ⟨b1, b2, b3, b4⟩ := parts_bd ok l
  obtain ⟨a, b, rfl, rfl, hab, ha0, hb0, ha20, hb20⟩ := sized_nat ok
  have HE := eulerS a b l ha0 hb0
  have HSB := Lib.hid (fun j (hj : j ≤ 21) => allS_bd (a : Int) (b : Int) l (a := a + 1) (by omega) hj)
  have HRB := Lib.hid (fun j i => rowS_bd (a : Int) (b : Int) l j i)
  obtain ⟨D, hD⟩ : ∃ D : Int, D = ridgesF a b l - lakesF a b l := ⟨_, rfl⟩
  have d1 : IntKind.i64.wrap (ridgesF a b l - lakesF a b l) = D := by rw [hD]; exact IntWalk.i64_in _ (by omega)
  have d2 : IntKind.i64.wrap (4 * D) = allS a b l (a + 1) (b + 1) := by rw [hD, HE]; exact IntWalk.i64_in _ (by have := HSB.out (b + 1) (by omega); omega)
  clear hD
  generalize ridgesF (a : Int) (b : Int) l = R at *
  generalize lakesF (a : Int) (b : Int) l = K at *
  replace K29 := Lib.hid K29
  have D1 := Lib.hid d1
  have D2 := Lib.hid d2
  clear hr hn ok HE b1 b2 b3 b4 hab d1 d2
  as_aux_lemma =>
    go_enter Try.func9, Try.ntmps9
    go_wp2_with fail
    refine (alive_any _).mono ?_
    rintro e w1 ⟨rfl, hb1⟩
    have S1 := Lib.hid (S0.out.ext hb1)
    clear hb1 S0
    obtain ⟨t0_0, t0_1, t0_2, _⟩ := (S1.out.bx 0 rfl).c3
    have lt0 := (S1.out.bx 0 rfl).2.2
    go_wp2_with fail
    refine (K29.out _ (HF.out _ S1.out.bel)).mono ?_
    rintro e w2 ⟨rfl, hb2⟩
    have S2 := Lib.hid (S1.out.ext hb2)
    clear hb2 S1 t0_0 t0_1 t0_2 lt0
    obtain ⟨t0_0, t0_1, t0_2, _⟩ := (S2.out.bx 0 rfl).c3
    have lt0 := (S2.out.bx 0 rfl).2.2
    go_wp2_with fail
    refine (K44.out _).mono ?_
    rintro e w3 ⟨rfl, hb3⟩
    have S3 := Lib.hid (S2.out.ext hb3)
    clear hb3 S2 t0_0 t0_1 t0_2 lt0
    go_wp2_with fail
    go_loopg [7, 8] (b + 1) (fun q u7 u8 wr => ∃ (j : Nat) (Y s : Int), -1 ≤ Y ∧ Y ≤ 20 ∧ u7 = .int .i64 s ∧ u8 = .int .i64 Y ∧ Hid (Y = (j : Int) - 1 ∧ s = allS a b l (a + 1) j ∧ j + q = b + 1 ∧ Own w wr [box w.heap.size 34 [.int .i64 (a : Int), .int .i64 (b : Int), .slice A n c]]))
    case atStart => exact ⟨0, -1, 0, by omega, by omega, rfl, rfl, rfl, rfl, by omega, S3.out⟩
    case round =>
      obtain ⟨j, Y, s, hY1, hY2, rfl, rfl, hI⟩ := hrel
      have I1 := Lib.hid hI.out.1
      have I2 := Lib.hid hI.out.2.1
      have I3 := Lib.hid hI.out.2.2.1
      have I4 := Lib.hid hI.out.2.2.2
      clear hI S3
      by_cases hlt : Y < (b : Int)
      case neg => as_aux_lemma =>
        have hj : j = b + 1 := by have h1 := I1.out; have h2 := I3.out; omega
        subst hj
        have e1 := D1.out
        have e2 := D2.out
        rw [← I2.out] at e2
        obtain ⟨t0_0, t0_1, t0_2, _⟩ := (I4.out.bx 0 rfl).c3
        have lt0 := (I4.out.bx 0 rfl).2.2
        go_wp2_with fail
        go_ret
        exact ⟨rfl, I4.out.bel⟩
      have hj20 : j ≤ 20 := by have h1 := I1.out; omega
      obtain ⟨t0_0, t0_1, t0_2, _⟩ := (I4.out.bx 0 rfl).c3
      have lt0 := (I4.out.bx 0 rfl).2.2
      go_wp2_with fail
      clear t0_0 t0_1 t0_2 lt0
      obtain ⟨G1, rfl⟩ : ∃ G1 : Nat, G1 = gk := ⟨_, rfl⟩
      obtain ⟨wq, rfl⟩ : ∃ wq : World, wq = wr := ⟨_, rfl⟩
      go_loopg [7, 9] (a + 1) (fun q u7 u9 wr => ∃ (i : Nat) (X s : Int), -1 ≤ X ∧ X ≤ 20 ∧ u7 = .int .i64 s ∧ u9 = .int .i64 X ∧ Hid (X = (i : Int) - 1 ∧ s = allS a b l (a + 1) j + rowS a b l j i ∧ i + q = a + 1 ∧ Own w wr [box w.heap.size 34 [.int .i64 (a : Int), .int .i64 (b : Int), .slice A n c]]))
      case atStart => exact ⟨0, -1, s, by omega, by omega, rfl, rfl, rfl, by rw [I2.out]; exact (Int.add_zero _).symm, by omega, I4.out⟩
      case round =>
        obtain ⟨i, X, s2, hX1, hX2, rfl, rfl, hI⟩ := hrel
        have J1 := Lib.hid hI.out.1
        have J2 := Lib.hid hI.out.2.1
        have J3 := Lib.hid hI.out.2.2.1
        have J4 := Lib.hid hI.out.2.2.2
        clear hI I4
        by_cases hlx : X < (a : Int)
        case neg => as_aux_lemma =>
          have hj : i = a + 1 := by have h1 := J1.out; have h2 := J3.out; omega
          subst hj
          obtain ⟨t0_0, t0_1, t0_2, _⟩ := (J4.out.bx 0 rfl).c3
          have lt0 := (J4.out.bx 0 rfl).2.2
          go_wp2_with fail
          go_roundg (G1 - 1)
          case measure => have := I3.out; have := I1.out; omega
          case rel => exact ⟨j + 1, Y + 1, s2, by omega, by omega, rfl, rfl, by have := I1.out; omega, by rw [allS_succ]; exact J2.out, by have := I3.out; have := I1.out; omega, J4.out⟩
        have x1 : IntKind.i64.wrap (X + 1) = X + 1 := IntWalk.i64_in _ (by omega)
        have y1 : IntKind.i64.wrap (Y + 1) = Y + 1 := IntWalk.i64_in _ (by omega)
        obtain ⟨t0_0, t0_1, t0_2, _⟩ := (J4.out.bx 0 rfl).c3
        have lt0 := (J4.out.bx 0 rfl).2.2
        go_wp2_with fail
        have fx0 := fun x : OwnOf w [box w.heap.size 34 [.int .i64 (a : Int), .int .i64 (b : Int), .slice A n c]] => (x.bx 0 rfl).1 0 _ rfl
        have fx1 := fun x : OwnOf w [box w.heap.size 34 [.int .i64 (a : Int), .int .i64 (b : Int), .slice A n c]] => (x.bx 0 rfl).1 1 _ rfl
        have fx2 := fun x : OwnOf w [box w.heap.size 34 [.int .i64 (a : Int), .int .i64 (b : Int), .slice A n c]] => (x.bx 0 rfl).1 2 _ rfl
        have hne : Nonempty (OwnOf w [box w.heap.size 34 [.int .i64 (a : Int), .int .i64 (b : Int), .slice A n c]]) := ⟨⟨_, J4.out⟩⟩
        refine wp_region_own J4.out (by kernel_rfl) (by kernel_rfl) ?_
        iterate 3 (go_big_quiet_step (fail))
        go_big_quiet_step ((go_at_call 46; exact own_of (K46.out (X) (Y) _ (HF.out _ (Own.bel (OwnOf.own _))))))
        iterate 4 (go_big_quiet_step (fail))
        go_big_quiet_step ((go_at_call 46; exact own_of (K46.out (X + 1) (Y) _ (HF.out _ (Own.bel (OwnOf.own _))))))
        iterate 4 (go_big_quiet_step (fail))
        go_big_quiet_step ((go_at_call 46; exact own_of (K46.out (X) (Y + 1) _ (HF.out _ (Own.bel (OwnOf.own _))))))
        iterate 5 (go_big_quiet_step (fail))
        go_big_quiet_step ((go_at_call 46; exact own_of (K46.out (X + 1) (Y + 1) _ (HF.out _ (Own.bel (OwnOf.own _))))))
        iterate 4 (go_big_quiet_step (fail))
        refine wpQuiet_nil ?_
        rintro w4 ⟨z, hz⟩
        have S4 := Lib.hid (show Own w w4 [box w.heap.size 34 [.int .i64 (a : Int), .int .i64 (b : Int), .slice A n c]] by rw [hz]; exact z.own)
        clear hz z hne fx0 fx1 fx2 x1 y1 J4 t0_0 t0_1 t0_2 lt0
        have HS := Lib.hid (show sqF a b l ((i : Int) - 1) ((j : Int) - 1) = q4 (isF a b l X Y) (isF a b l (X + 1) Y) (isF a b l X (Y + 1)) (isF a b l (X + 1) (Y + 1)) by rw [← J1.out, ← I1.out]; rfl)
        generalize isF (a : Int) (b : Int) l X Y = p1 at *
        generalize isF (a : Int) (b : Int) l (X + 1) Y = p2 at *
        generalize isF (a : Int) (b : Int) l X (Y + 1) = p3 at *
        generalize isF (a : Int) (b : Int) l (X + 1) (Y + 1) = p4 at *
        go_wp2_with fail
        have S5 := Lib.hid ((S4.out.new' 4 #[.bool p1, .bool p2, .bool p3, .bool p4] (B := w4.heap.size) rfl).cast (qs := [box w4.heap.size 4 [.bool p1, .bool p2, .bool p3, .bool p4], box w.heap.size 34 [.int .i64 (a : Int), .int .i64 (b : Int), .slice A n c]]) rfl)
        generalize w4.alloc (.cells #[.bool p1, .bool p2, .bool p3, .bool p4] 4) = w5 at *
        generalize w4.heap.size = BQ at *
        clear S4
        have HL := Lib.hid (show [p1, p2, p3, p4].length = 4 from rfl)
        generalize hLL : [p1, p2, p3, p4] = L at *
        have HLL := Lib.hid hLL
        clear hLL
        obtain ⟨G2, rfl⟩ : ∃ G2 : Nat, G2 = gk := ⟨_, rfl⟩
        obtain ⟨wq2, rfl⟩ : ∃ wq2 : World, wq2 = wr := ⟨_, rfl⟩
        go_loopg [14, 70] 4 (fun q u14 u70 wr => ∃ (k m : Nat), k ≤ 4 ∧ m ≤ 4 ∧ u14 = .int .i64 m ∧ u70 = .int .i64 k ∧ Hid (m = (L.take k).countP id ∧ k + q = 4 ∧ Own w wr [box BQ 4 [.bool p1, .bool p2, .bool p3, .bool p4], box w.heap.size 34 [.int .i64 (a : Int), .int .i64 (b : Int), .slice A n c]]))
        case atStart => exact ⟨0, 0, by omega, by omega, rfl, rfl, rfl, by omega, S5.out⟩
        case round =>
          obtain ⟨k, m, hk, hm, rfl, rfl, hI⟩ := hrel
          have Q1 := Lib.hid hI.out.1
          have Q2 := Lib.hid hI.out.2.1
          have Q3 := Lib.hid hI.out.2.2
          clear hI S5
          by_cases hl4 : k < 4
          case neg => as_aux_lemma =>
            obtain rfl : k = 4 := by omega
            have hm2 : m = cnt4 p1 p2 p3 p4 := by rw [Q1.out, ← HLL.out]; rfl
            have hs : -2000 ≤ s2 ∧ s2 ≤ 2000 := by have h1 := J2.out; have h2 := HSB.out j (by omega); have h3 := HRB.out j i; have h4 := J1.out; omega
            obtain ⟨hs1, hs2⟩ := hs
            have HQ4 := Lib.hid (show s2 + q4 p1 p2 p3 p4 = allS a b l (a + 1) j + rowS a b l j (i + 1) by rw [rowS_succ, HS.out, J2.out, Int.add_assoc])
            have Q4 := Lib.hid (Q3.out.sub [1] (by decide) (qs := [box w.heap.size 34 [.int .i64 (a : Int), .int .i64 (b : Int), .slice A n c]]) rfl)
            clear Q1 Q3 HS J2 HLL
            rcases p1 with _ | _ <;> rcases p2 with _ | _ <;> rcases p3 with _ | _ <;> rcases p4 with _ | _
            all_goals
              simp only [cnt4, List.countP_cons, List.countP_nil, id, Bool.false_eq_true, if_true, if_false, Nat.zero_add, Nat.add_zero, Nat.reduceAdd] at hm2
              subst hm2
              clear hm hk hl4
              go_wp2_with fail
              go_roundg (G2 - 1)
              case measure => have := J3.out; have := J1.out; omega
              case rel => exact ⟨i + 1, X + 1, _, by omega, by omega, rfl, rfl, by have := J1.out; omega, by have h := HQ4.out; simp only [q4, Bool.toNat] at h; first | exact h | (simp at h; omega), by have := J3.out; have := J1.out; omega, Q4.out⟩
          have hkL : k < L.length := by rw [HL.out]; exact hl4
          have hLk : [Value.bool p1, Value.bool p2, Value.bool p3, Value.bool p4][k]? = some (.bool L[k]) := by
            have h := HLL.out
            subst h
            obtain rfl | rfl | rfl | rfl : k = 0 ∨ k = 1 ∨ k = 2 ∨ k = 3 := by omega
            all_goals rfl
          have k0 := (Q3.out.bx 0 rfl).1 k _ hLk
          clear hLk
          have lq := (Q3.out.bx 0 rfl).2.2
          have HT := Lib.hid (take_cnt hkL)
          have i1 : (k : Int) < 4 := by omega
          generalize L[k] = bv at *
          clear hkL
          rcases bv with _ | _
          all_goals
            go_wp2_with fail
            go_roundg (gk - 1)
            case measure => have := Q2.out; omega
            case rel =>
              first
              | exact ⟨k + 1, m, by omega, by have := Q1.out; have h2 := List.countP_le_length (p := id) (l := L.take (k + 1)); omega, rfl, by go_num, by rw [HT.out, Q1.out]; rfl, by have := Q2.out; omega, Q3.out⟩
              | exact ⟨k + 1, m + 1, by omega, by have h0 := HT.out; have h1 := Q1.out; have h2 := List.countP_le_length (p := id) (l := L.take (k + 1)); rw [List.length_take, HL.out] at h2; simp at h0; omega, by go_num, by go_num, by rw [HT.out, Q1.out]; rfl, by have := Q2.out; omega, Q3.out⟩
end Go.Proofs.Ytjelnbfnoliocaa
