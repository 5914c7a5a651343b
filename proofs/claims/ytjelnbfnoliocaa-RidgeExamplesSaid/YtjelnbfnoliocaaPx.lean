/- Ridge: Thin of the program. No condition. -/
import Derived.Test.YtjelnbfnoliocaaPw
import Derived.Deep.CutRange
namespace Go.Proofs.Ytjelnbfnoliocaa
open Go.RowKit Go.Shelf
attribute [local go_sem] Oper.semAt_some

def pe (p : Int × Int) : List Value := [.int .i64 p.1, .int .i64 p.2]
theorem pe_len (p : Int × Int) : (pe p).length = 2 := rfl
theorem st102 : SlTy Try.prog 102 106 (.agg #[.int .i64 0, .int .i64 0]) 2 16 := ⟨Try.underlying102, by kernel_rfl, rfl, by decide⟩
set_option maxRecDepth 100000 in
set_option maxHeartbeats 8000000 in
theorem thin_ok (W H : Int) (A : Option Addr) (l : List Bool) (n c : Nat) (w : World) (ok : sized1B W H n = true) (hr : Rd w A (bools l)) (hn : n = l.length) :
    Calls Try.prog 37 #[.agg #[.int .i64 W, .int .i64 H, .slice A n c]] w (ThinPost W H n (thinF W H l) 0 w) := by
  obtain ⟨hW, hH, hWH⟩ := valid_bd ok
  have hWHb : W * H ≤ 20 * 20 := Int.mul_le_mul (by omega) (by omega) (by omega) (by omega)
  have hn400 : n ≤ 400 := by omega
  have hn1 : 1 ≤ n := by
    have : 1 * 1 ≤ W * H := Int.mul_le_mul (by omega) (by omega) (by omega) (by omega)
    omega
  have HWH := Lib.hid hWH
  obtain ⟨b0, off, rfl, hb0, hc0⟩ := hr.at_ (bools_get (show 0 < l.length by omega))
  have HCk := Lib.hid (fun W1 => (show Calls Try.prog 31 #[.agg #[.int .i64 W, .int .i64 H, .slice (some ⟨b0, off, none⟩) n c]] W1 fun e w' => e = .returned (.int .i64 0) ∧ Below W1.heap.size W1 w' by have := check_any W H (some ⟨b0, off, none⟩) n c W1; rw [ok] at this; exact this))
  have CC := Lib.hid (fun W1 (h : Below w.heap.size w W1) => clone_any b0 off n c l W1 (hr.below h) hn (by omega))
  have S0 := Lib.hid (((Own.start w).new 34 #[.int .i64 W, .int .i64 H, .slice (some ⟨b0, off, none⟩) n c]).new' 34 #[.int .i64 0, .int .i64 0, .slice none 0 0] (B := w.heap.size + 1) (by simp))
  have HOK := Lib.hid ok
  have HN := Lib.hid hn
  obtain ⟨t0, t1, t2, _⟩ := (S0.out.bx 1 rfl).c3
  clear ok hr hn hWH hWHb hc0 hb0
  refine calls_of_wp_marks Try.func37 rfl ?_
  simp only [Try.ntmps37, List.size_toArray, List.length_cons, List.length_nil, Nat.reduceAdd, Nat.reduceSub, Array.replicate_succ, Array.replicate_zero, List.push_toArray, List.append_toArray, List.nil_append, List.cons_append]
  go_wp2_with fail
  refine (HCk.out _).mono ?_
  rintro e w1 ⟨rfl, hb1⟩
  have S1 := Lib.hid (S0.out.ext hb1)
  clear t0 t1 t2 hb1
  obtain ⟨t0, t1, t2, tf⟩ := (S1.out.bx 1 rfl).c3
  have lt := (S1.out.bx 1 rfl).2.2
  go_wp2_with fail
  refine (CC.out _ S1.out.bel).mono ?_
  rintro e w2 ⟨A1, c1, rfl, hO⟩
  have S2 := Lib.hid (S1.out.call hO)
  clear t0 t1 t2 tf lt hO S0 S1 CC HCk
  obtain ⟨t0, t1, t2, tf⟩ := (S2.out.bx 2 rfl).c3
  have lt := (S2.out.bx 2 rfl).2.2
  obtain ⟨g, sp, rfl, hnc, hcm, hbl, hsp, hS3⟩ := (S2.out.set 2 rfl 2 (.slice A1 n c1)).asBoxC 0 rfl (by omega)
  have S3 := Lib.hid (hS3.cast (qs := [box g 4 (bools l ++ sp), box (w.heap.size + 1) 34 [.int .i64 0, .int .i64 0, .slice none 0 0], box w.heap.size 34 [.int .i64 W, .int .i64 H, .slice (some ⟨g, 0, none⟩) n c1]]) rfl)
  have HSP := Lib.hid (show n ≤ c1 ∧ c1 ≤ maxLen ∧ (bools l ++ sp).length = c1 * 1 from ⟨hnc, hcm, hsp⟩)
  clear hS3 hnc hcm hbl hsp S2
  go_wp2_with fail
  generalize w2.setCell _ _ = w3 at *
  clear t0 t1 t2 tf lt
  refine wp_loop_ghost_k (fun k a wr => ∃ u4 u6 u7 u8 u9 u10 u11 u12 u13 u14 u15 u16 u17 u18 u19 u20 u21 u22 u23 u24 u25 u26 u27 u28 u29 u30 u31 u32 u33 u34 u35 u36 u37 u38 u39 u40 u41 u42 u43 u44 u45 u46 u47 u48 u49 u50 u51 u52 u53 u54 u55 u56 u57 u58 u59 u60 u61 u62 u63 u64 u65 u66 u67 u68 u69 u70 u71 u72 u73 u74 u75 u76 u77 u78 u79 : Value, ∃ (T : List Bool) (Ds : List Nat) (ch : Bool), a = { tmps := #[.agg #[.int .i64 W, .int .i64 H, .slice (some ⟨b0, off, none⟩) n c], .pointer (some ⟨w.heap.size, 0, none⟩), .pointer (some ⟨w.heap.size + 1, 0, none⟩), .int .i64 0, u4, .bool ch, u6, u7, u8, u9, u10, u11, u12, u13, u14, u15, u16, u17, u18, u19, u20, u21, u22, u23, u24, u25, u26, u27, u28, u29, u30, u31, u32, u33, u34, u35, u36, u37, u38, u39, u40, u41, u42, u43, u44, u45, u46, u47, u48, u49, u50, u51, u52, u53, u54, u55, u56, u57, u58, u59, u60, u61, u62, u63, u64, u65, u66, u67, u68, u69, u70, u71, u72, u73, u74, u75, u76, u77, u78, u79], defers := Ds.map dfr } ∧ Hid (n = T.length ∧ thinF W H T = thinF W H l ∧ (ch = true → trueN T + 1 ≤ k) ∧ (ch = false → thinF W H l = T) ∧ Own w wr ([box g 4 (bools T ++ sp), box (w.heap.size + 1) 34 [.int .i64 0, .int .i64 0, .slice none 0 0], box w.heap.size 34 [.int .i64 W, .int .i64 H, .slice (some ⟨g, 0, none⟩) n c1]] ++ Ds.map mk))) (trueN l + 1) ?start1 ?round1
  case start1 => exact ⟨_, _, _, _, _, _, _, _, _, _, _, _, _, _, _, _, _, _, _, _, _, _, _, _, _, _, _, _, _, _, _, _, _, _, _, _, _, _, _, _, _, _, _, _, _, _, _, _, _, _, _, _, _, _, _, _, _, _, _, _, _, _, _, _, _, _, _, _, _, _, _, _, _, _, _, l, [], true, rfl, HN.out, rfl, fun _ => Nat.le_refl _, (fun h => by cases h), S3.out⟩
  case round1 =>
    clear S3
    rintro k1 _ wr ⟨u4, u6, u7, u8, u9, u10, u11, u12, u13, u14, u15, u16, u17, u18, u19, u20, u21, u22, u23, u24, u25, u26, u27, u28, u29, u30, u31, u32, u33, u34, u35, u36, u37, u38, u39, u40, u41, u42, u43, u44, u45, u46, u47, u48, u49, u50, u51, u52, u53, u54, u55, u56, u57, u58, u59, u60, u61, u62, u63, u64, u65, u66, u67, u68, u69, u70, u71, u72, u73, u74, u75, u76, u77, u78, u79, T, Ds, ch, rfl, hI⟩ J1 K1 hJ1 hK1
    have I1 := Lib.hid hI.out.1
    have I2 := Lib.hid hI.out.2.1
    have I3 := Lib.hid hI.out.2.2.1
    have I4 := Lib.hid hI.out.2.2.2.1
    have I5 := Lib.hid hI.out.2.2.2.2
    clear hI
    rcases ch with _ | _
    · obtain ⟨t0, t1, t2, tf⟩ := (I5.out.bx 2 rfl).c3
      have lt := (I5.out.bx 2 rfl).2.2
      obtain ⟨r0, r1, r2, rf⟩ := (I5.out.bx 1 rfl).c3
      have lr := (I5.out.bx 1 rfl).2.2
      go_wp2_with fail
      have S6 := Lib.hid (((I5.out.set 1 rfl 0 (.int .i64 W)).set 1 rfl 1 (.int .i64 H)).set 1 rfl 2 (.slice (some ⟨g, 0, none⟩) n c1))
      refine leaves_marks (ps := [box g 4 (bools T ++ sp), box (w.heap.size + 1) 34 [.int .i64 W, .int .i64 H, .slice (some ⟨g, 0, none⟩) n c1], box w.heap.size 34 [.int .i64 W, .int .i64 H, .slice (some ⟨g, 0, none⟩) n c1]]) (fun w' h => ?_) Ds _ S6.out
      refine ⟨.tuple #[.agg #[.int .i64 W, .int .i64 H, .slice (some ⟨g, 0, none⟩) n c1], .int .i64 0], ?_, some ⟨g, 0, none⟩, c1, rfl, ?_⟩
      · obtain ⟨q0, q1, q2, _⟩ := (h.bx 1 rfl).c3
        simp [results, Try.results37, go_sem, q0, q1, q2]
      · obtain ⟨s1, s2, s3⟩ := HSP.out
        rw [I4.out (by trivial)]
        exact (h.asRowC (size := 1) (n := n) (c := c1) 0 rfl (by have := I1.out; simp [bools]; omega) (by have := I1.out; have := HN.out; simp [bools] at s3 ⊢; omega) s1 s2).sub [0] (by decide) rfl
    · go_wp2_with fail
      refine wp_loop_ghost_k (fun k a wr => ∃ u4 u6 u7 u8 u9 u10 u11 u12 u13 u14 u15 u16 u17 u18 u19 u20 u21 u22 u23 u24 u27 u28 u29 u30 u31 u32 u33 u34 u35 u36 u37 u38 u39 u40 u41 u42 u43 u44 u45 u46 u47 u48 u49 u50 u51 u52 u53 u54 u55 u56 u57 u58 u59 u60 u61 u62 u63 u64 u65 u66 u67 u68 u69 u70 u71 u72 u73 u74 u75 u76 u77 u78 u79 : Value, ∃ (j : Nat) (Ds : List Nat) (ch2 : Bool), a = { tmps := #[.agg #[.int .i64 W, .int .i64 H, .slice (some ⟨b0, off, none⟩) n c], .pointer (some ⟨w.heap.size, 0, none⟩), .pointer (some ⟨w.heap.size + 1, 0, none⟩), .int .i64 0, u4, .bool ch2, u6, u7, u8, u9, u10, u11, u12, u13, u14, u15, u16, u17, u18, u19, u20, u21, u22, u23, u24, .agg #[.int .i64 6, .int .i64 2, .int .i64 0, .int .i64 4], .int .i64 (j : Int), u27, u28, u29, u30, u31, u32, u33, u34, u35, u36, u37, u38, u39, u40, u41, u42, u43, u44, u45, u46, u47, u48, u49, u50, u51, u52, u53, u54, u55, u56, u57, u58, u59, u60, u61, u62, u63, u64, u65, u66, u67, u68, u69, u70, u71, u72, u73, u74, u75, u76, u77, u78, u79], defers := Ds.map dfr } ∧ j ≤ 4 ∧ Hid (j + k = 4 ∧ (ch2 = decide (trueN (passJ W H T j) < trueN T) ∧ trueN (passJ W H T j) ≤ trueN T) ∧ Own w wr ([box g 4 (bools (passJ W H T j) ++ sp), box (w.heap.size + 1) 34 [.int .i64 0, .int .i64 0, .slice none 0 0], box w.heap.size 34 [.int .i64 W, .int .i64 H, .slice (some ⟨g, 0, none⟩) n c1]] ++ Ds.map mk))) 4 ?start2 ?round2
      case start2 => exact ⟨_, _, _, _, _, _, _, _, _, _, _, _, _, _, _, _, _, _, _, _, _, _, _, _, _, _, _, _, _, _, _, _, _, _, _, _, _, _, _, _, _, _, _, _, _, _, _, _, _, _, _, _, _, _, _, _, _, _, _, _, _, _, _, _, _, _, _, _, _, _, _, _, _, 0, Ds, false, rfl, by omega, by omega, ⟨by simp [passJ], Nat.le_refl _⟩, I5.out⟩
      case round2 =>
        clear I5
        rintro k2 _ wr2 ⟨u4, u6, u7, u8, u9, u10, u11, u12, u13, u14, u15, u16, u17, u18, u19, u20, u21, u22, u23, u24, u27, u28, u29, u30, u31, u32, u33, u34, u35, u36, u37, u38, u39, u40, u41, u42, u43, u44, u45, u46, u47, u48, u49, u50, u51, u52, u53, u54, u55, u56, u57, u58, u59, u60, u61, u62, u63, u64, u65, u66, u67, u68, u69, u70, u71, u72, u73, u74, u75, u76, u77, u78, u79, j, Ds, ch2, rfl, hj, hI⟩ J2 K2 hJ2 hK2
        have L1 := Lib.hid hI.out.1
        have L2 := Lib.hid hI.out.2.1.1
        have L2b := Lib.hid hI.out.2.1.2
        have L3 := Lib.hid hI.out.2.2
        clear hI
        by_cases hlt : j < 4
        case neg =>
          obtain rfl : j = 4 := by omega
          rcases ch2 with _ | _
          · have hle := of_decide_eq_false L2.out.symm
            have hp4 := pass4_true W H T
            have heq : pass4 W H T = T := hp4.2 (by rw [passJ_four] at hle; omega)
            have hk := I3.out (by trivial)
            have HE := Lib.hid (show thinF W H l = pass4 W H T by rw [← I2.out, heq, thinF_stop heq])
            clear hle heq hp4
            go_wp2_with fail
            refine Handed.intro (k1 - 1) (by omega) (hJ1 _ _ _ ⟨_, _, _, _, _, _, _, _, _, _, _, _, _, _, _, _, _, _, _, _, _, _, _, _, _, _, _, _, _, _, _, _, _, _, _, _, _, _, _, _, _, _, _, _, _, _, _, _, _, _, _, _, _, _, _, _, _, _, _, _, _, _, _, _, _, _, _, _, _, _, _, _, _, _, _, pass4 W H T, Ds, false, rfl, by rw [pass4_len]; exact I1.out, by rw [thinF_step]; exact I2.out, (fun h => by cases h), fun _ => HE.out, L3.out⟩)
          · have hlt2 := of_decide_eq_true L2.out.symm
            rw [passJ_four] at hlt2
            have hk := I3.out (by trivial)
            go_wp2_with fail
            refine Handed.intro (trueN (pass4 W H T) + 1) (by omega) (hJ1 _ _ _ ⟨_, _, _, _, _, _, _, _, _, _, _, _, _, _, _, _, _, _, _, _, _, _, _, _, _, _, _, _, _, _, _, _, _, _, _, _, _, _, _, _, _, _, _, _, _, _, _, _, _, _, _, _, _, _, _, _, _, _, _, _, _, _, _, _, _, _, _, _, _, _, _, _, _, _, _, pass4 W H T, Ds, true, rfl, by rw [pass4_len]; exact I1.out, by rw [thinF_step]; exact I2.out, fun _ => Nat.le_refl _, (fun h => by cases h), L3.out⟩)
        have hix : ∀ W, (Instr.index 101 (.agg #[.int .i64 6, .int .i64 2, .int .i64 0, .int .i64 4]) (.int .i64 (j : Int))).run Try.prog W = .ok (.int .i64 (pnt j : Int)) W := fun W => by
          obtain rfl | rfl | rfl | rfl : j = 0 ∨ j = 1 ∨ j = 2 ∨ j = 3 := by omega
          all_goals kernel_rfl
        obtain ⟨t0, t1, t2, tf⟩ := (L3.out.bx 2 rfl).c3
        have lt := (L3.out.bx 2 rfl).2.2
        go_wp2_with fail
        refine (pixels_any _ _ _ _ _ _).mono ?_
        rintro e w4 ⟨rfl, hw4⟩
        have L4 := Lib.hid ((((L3.out.new' 3 #[.int .i64 (pnt j : Int)] (B := wr2.heap.size) rfl).new' 102 #[.slice none 0 0] (B := wr2.heap.size + 1) (by simp)).new' 34 #[.int .i64 W, .int .i64 H, .slice (some ⟨g, 0, none⟩) n c1] (B := wr2.heap.size + 1 + 1) (by simp)).nil 106 2)
        rw [hw4] at L4
        go_wp2_with fail
        generalize hX : wr2.heap.size = X at *
        clear hX hw4 t0 t1 t2 tf lt
        have hpj : pnt j < 8 := by
          obtain rfl | rfl | rfl | rfl : j = 0 ∨ j = 1 ∨ j = 2 ∨ j = 3 := by omega
          all_goals decide
        have L5 := Lib.hid (L4.out.cast (qs := row 106 2 (.slice none 0 0) 0 [] :: box (X + 1 + 1) 34 [.int .i64 W, .int .i64 H, .slice (some ⟨g, 0, none⟩) n c1] :: box (X + 1) 102 [.slice none 0 0] :: box X 3 [.int .i64 (pnt j : Int)] :: ([box g 4 (bools (passJ W H T j) ++ sp), box (w.heap.size + 1) 34 [.int .i64 0, .int .i64 0, .slice none 0 0], box w.heap.size 34 [.int .i64 W, .int .i64 H, .slice (some ⟨g, 0, none⟩) n c1]] ++ Ds.map mk)) rfl)
        clear L4 L3
        have hTl := passJ_len W H T j
        have HTL := Lib.hid (show n = (passJ W H T j).length by rw [hTl]; exact I1.out)
        have HPJ := Lib.hid (show passF W H (passJ W H T j) (pnt j) = passJ W H T (j + 1) from rfl)
        have lg := (L5.out.bx 4 rfl).2.2
        have lb := (L5.out.bx 1 rfl).2.2
        have hr4 := rd_box (L5.out.bx 4 rfl)
        have HR4 := Lib.hid hr4
        clear hTl hr4
        generalize passJ W H T j = Tj at *
        obtain ⟨b1, b2, b3, _⟩ := (L5.out.bx 1 rfl).c3
        refine wp_range_own (w0 := w) (gf := 83) (lb := #[.pointer (some ⟨X + 1 + 1, 0, none⟩)]) rfl (enters_of Try.func83 (by kernel_rfl) rfl)
          (pix_stops 9 (by omega) (X + 1 + 1) g (some ⟨g, 0, none⟩) Tj n c1 W H w4 HOK.out HTL.out HR4.out (fun b o e => .inr (by injection e with e; injection e with e _; exact e.symm)) lb b1 b2 b3)
          Keep2.trans (fun W1 lq o o' hl _ _ _ => ⟨World.putObj_heap_other (by omega), World.putObj_heap_other (by omega), by simp⟩) (fun W1 => ⟨rfl, rfl, Nat.le_refl _⟩) (fun _ => rfl)
          (fun pre s => s.2.2 = wantP W H Tj (pnt j) (pre.map (·.1)))
          (fun s : Option Addr × Nat × List (Int × Int) => row 106 2 (.slice s.1 s.2.2.length s.2.1) s.2.2.length (flat pe s.2.2) :: box (X + 1 + 1) 34 [.int .i64 W, .int .i64 H, .slice (some ⟨g, 0, none⟩) n c1] :: box (X + 1) 102 [.slice s.1 s.2.2.length s.2.1] :: box X 3 [.int .i64 (pnt j : Int)] :: ([box g 4 (bools Tj ++ sp), box (w.heap.size + 1) 34 [.int .i64 0, .int .i64 0, .slice none 0 0], box w.heap.size 34 [.int .i64 W, .int .i64 H, .slice (some ⟨g, 0, none⟩) n c1]] ++ Ds.map mk))
          ?hcel (none, 0, []) rfl L5.out
          (fun x => { tmps := #[.agg #[.int .i64 W, .int .i64 H, .slice (some ⟨b0, off, none⟩) n c], .pointer (some ⟨w.heap.size, 0, none⟩), .pointer (some ⟨w.heap.size + 1, 0, none⟩), .int .i64 0, u4, .bool ch2, u6, .pointer (some ⟨X, 0, none⟩), .pointer (some ⟨X + 1, 0, none⟩), .int .i64 x.1.1, .int .i64 x.1.2, u11, u12, u13, u14, u15, u16, u17, u18, u19, u20, u21, u22, u23, u24, .agg #[.int .i64 6, .int .i64 2, .int .i64 0, .int .i64 4], .int .i64 (j : Int), .bool true, .int .i64 (pnt j : Int), .agg #[.int .i64 W, .int .i64 H, .slice (some ⟨g, 0, none⟩) n c1], .func (.func 83) #[] #[.pointer (some ⟨X + 1 + 1, 0, none⟩)], .int .i64 x.1.1, .int .i64 x.1.2, u33, u34, u35, u36, u37, u38, u39, u40, u41, u42, u43, u44, u45, u46, u47, u48, u49, u50, u51, u52, u53, u54, u55, u56, u57, u58, u59, u60, u61, u62, u63, u64, u65, u66, u67, u68, u69, u70, u71, u72, u73, u74, u75, u76, u77, u78, u79], defers := [] }) ?hassign ?hbody ?hdone
        case hcel =>
          intro s p hp
          simp only [List.mem_cons, List.mem_append, List.not_mem_nil, or_false] at hp
          rcases hp with rfl | rfl | rfl | rfl | ((rfl | rfl | rfl) | hp)
          · exact .inl (row_cel _ _ _ _ _)
          all_goals first
            | exact .inl (box_cel _ _ _)
            | exact mk_old (ps := row 106 2 (.slice none 0 0) 0 [] :: box (X + 1 + 1) 34 [.int .i64 W, .int .i64 H, .slice (some ⟨g, 0, none⟩) n c1] :: box (X + 1) 102 [.slice none 0 0] :: box X 3 [.int .i64 (pnt j : Int)] :: [box g 4 (bools Tj ++ sp), box (w.heap.size + 1) 34 [.int .i64 0, .int .i64 0, .slice none 0 0], box w.heap.size 34 [.int .i64 W, .int .i64 H, .slice (some ⟨g, 0, none⟩) n c1]]) L5.out p hp
        case hassign =>
          intro x lq K W1 hK
          simp only [encPl]
          gi_wp2
          exact hK
        case hbody =>
          intro lq pre x s W1 hpl hR hO
          obtain ⟨A2, c2, m⟩ := s
          obtain ⟨⟨px, py⟩, hxy⟩ := x
          simp only at hR
          have HO := Lib.hid (hO.cast (qs := row 106 2 (.slice A2 m.length c2) m.length (flat pe m) :: box (X + 1 + 1) 34 [.int .i64 W, .int .i64 H, .slice (some ⟨g, 0, none⟩) n c1] :: box (X + 1) 102 [.slice A2 m.length c2] :: box X 3 [.int .i64 (pnt j : Int)] :: ([box g 4 (bools Tj ++ sp), box (w.heap.size + 1) 34 [.int .i64 0, .int .i64 0, .slice none 0 0], box w.heap.size 34 [.int .i64 W, .int .i64 H, .slice (some ⟨g, 0, none⟩) n c1]] ++ Ds.map mk)) rfl)
          have HRR := Lib.hid (show wantP W H Tj (pnt j) ((pre ++ [(⟨(px, py), hxy⟩ : PPlc W H)]).map (·.1)) = m ++ if nbF W H Tj px py (pnt j) then [] else [(px, py)] by rw [List.map_append, hR]; exact wantP_snoc W H Tj (pnt j) _ _)
          have hml : m.length ≤ 400 := by
            have h1 := wantP_len W H Tj (pnt j) (pre.map (·.1))
            have h2 := HTL.out
            rw [← hR] at h1
            simp at h1
            omega
          have hpx := hxy.1
          have hpy := hxy.2
          simp only at hpx hpy
          have HA := Lib.hid (fun z : ExtOf W1 => ext_of (around_any W H px py (some ⟨g, 0, none⟩) Tj n c1 z.wld HOK.out ((rd_box (HO.out.bx 4 rfl)).below z.ext) HTL.out (by omega) (by omega)))
          clear hO hR hpl
          generalize nbF W H Tj px py = r at *
          have hix2 : ∀ W, (Instr.index 97 (ringV r) (.int .i64 (pnt j : Int))).run Try.prog W = .ok (.bool (r (pnt j))) W := fun W => index_ring W r (pnt j) hpj
          obtain ⟨t0, t1, t2, tf⟩ := (HO.out.bx 6 rfl).c3
          have lt := (HO.out.bx 6 rfl).2.2
          have d0 := (HO.out.bx 3 rfl).c1.1
          have ld := (HO.out.bx 3 rfl).2.2
          have hne : Nonempty (ExtOf W1) := ⟨⟨W1, Below.refl _ _⟩⟩
          generalize r (pnt j) = bn at *
          gi_wp2
          refine wpIn_region_ext (by kernel_rfl) (by kernel_rfl) (by kernel_rfl) ?_
          iterate 3 (go_big_quiet_step (fail))
          go_big_quiet_step ((go_at_call 63; exact HA.out _))
          iterate 3 (go_big_quiet_step (fail))
          refine wpQuiet_nil ?_
          rintro W2 ⟨z, hz⟩
          have HB2 := Lib.hid (show Below W1.heap.size W1 W2 by rw [hz]; exact z.ext)
          clear hz z hne HA hix2 t0 t1 t2 tf lt d0 ld
          have HO2 := Lib.hid (HO.out.ext HB2.out)
          have HK2 := Lib.hid (show Keep2 (X + 1 + 1) g W1 W2 from ⟨HB2.out.block _ (HO.out.bx 1 rfl).2.2, HB2.out.block _ (HO.out.bx 4 rfl).2.2, HB2.out.size⟩)
          rcases bn with _ | _
          · have HO3 := Lib.hid (HO2.out.ext (below_alloc W2 (.cells #[.int .i64 px, .int .i64 py] 106)))
            have k0 := (HO2.out.bx 2 rfl).c1.1
            have lk := (HO2.out.bx 2 rfl).2.2
            gi_wp2_with (gi_at_builtin; refine wpListIn_appP rfl (.tmp 40) (.tmp 44) 102 rfl st102 0 HO3.out rfl rfl rfl (m.length + 1) (flat pe (m ++ [(px, py)])) ?_ (pe (px, py)) rfl (by rw [flat_append, flat_cons, flat_nil, List.append_nil]) (Rd.new W2 #[.int .i64 px, .int .i64 py] 106) rfl (by simp [pe, Value.oneCell']) (by unfold maxLen; omega) (by omega); intro A3 c3 W4 hO4 hk4; have HO4 := Lib.hid (hO4.cast (qs := row 106 2 (.slice A3 (m.length + 1) c3) (m.length + 1) (flat pe (m ++ [(px, py)])) :: box (X + 1 + 1) 34 [.int .i64 W, .int .i64 H, .slice (some ⟨g, 0, none⟩) n c1] :: box (X + 1) 102 [.slice A2 m.length c2] :: box X 3 [.int .i64 (pnt j : Int)] :: ([box g 4 (bools Tj ++ sp), box (w.heap.size + 1) 34 [.int .i64 0, .int .i64 0, .slice none 0 0], box w.heap.size 34 [.int .i64 W, .int .i64 H, .slice (some ⟨g, 0, none⟩) n c1]] ++ Ds.map mk)) rfl); have HK4 := Lib.hid hk4; clear hO4 hk4 k0 lk; have k0 := (HO4.out.bx 2 rfl).c1.1; have kf := (HO4.out.bx 2 rfl).2.1; have lk := (HO4.out.bx 2 rfl).2.2)
            have HO5 := Lib.hid ((HO4.out.set 2 rfl 0 (.slice A3 (m.length + 1) c3)).cast (qs := row 106 2 (.slice A3 (m ++ [(px, py)]).length c3) (m ++ [(px, py)]).length (flat pe (m ++ [(px, py)])) :: box (X + 1 + 1) 34 [.int .i64 W, .int .i64 H, .slice (some ⟨g, 0, none⟩) n c1] :: box (X + 1) 102 [.slice A3 (m ++ [(px, py)]).length c3] :: box X 3 [.int .i64 (pnt j : Int)] :: ([box g 4 (bools Tj ++ sp), box (w.heap.size + 1) 34 [.int .i64 0, .int .i64 0, .slice none 0 0], box w.heap.size 34 [.int .i64 W, .int .i64 H, .slice (some ⟨g, 0, none⟩) n c1]] ++ Ds.map mk)) (by simp))
            exact ⟨(((keeps_below HB2.out).trans (KeepsOthers.alloc _ _)).trans HK4.out).trans (KeepsOthers.setCell _ _ _),
              ⟨(show _ = _ from HO5.out.get 1 rfl).trans (show _ = _ from HO.out.get 1 rfl).symm, (show _ = _ from HO5.out.get 4 rfl).trans (show _ = _ from HO.out.get 4 rfl).symm, ((((keeps_below HB2.out).trans (KeepsOthers.alloc _ _)).trans HK4.out).trans (KeepsOthers.setCell _ _ _)).size⟩,
              (A3, c3, m ++ [(px, py)]), by rw [HRR.out]; rfl, HO5.out⟩
          · gi_wp2
            exact ⟨keeps_below HB2.out, HK2.out, (A2, c2, m), (by show m = wantP W H Tj (pnt j) (pre.map (·.1) ++ [(px, py)]); have h := HRR.out; rw [List.map_append] at h; exact (h.trans (by simp)).symm), HO2.out⟩
        case hdone =>
          rintro Dn xs ⟨A2, c2, m⟩ W5 hS hR hO
          simp only at hR
          have HM := Lib.hid (show m = (wantI W H Tj (pnt j) Tj.length).map (plc W) by rw [hR, hS, wantP_of])
          have HO := Lib.hid ((Own.mark (ps := row 106 2 (.slice A2 m.length c2) m.length (flat pe m) :: box (X + 1 + 1) 34 [.int .i64 W, .int .i64 H, .slice (some ⟨g, 0, none⟩) n c1] :: box (X + 1) 102 [.slice A2 m.length c2] :: box X 3 [.int .i64 (pnt j : Int)] :: [box g 4 (bools Tj ++ sp), box (w.heap.size + 1) 34 [.int .i64 0, .int .i64 0, .slice none 0 0], box w.heap.size 34 [.int .i64 W, .int .i64 H, .slice (some ⟨g, 0, none⟩) n c1]]) hO))
          clear hO hS hR
          have k0 := (HO.out.bx 2 rfl).c1.1
          have lk := (HO.out.bx 2 rfl).2.2
          go_wp2_with fail
          have HW3 := Lib.hid (show takeAll W H Tj (wantI W H Tj (pnt j) Tj.length) = passF W H Tj (pnt j) from (passN_take W H Tj (pnt j) Tj.length).symm)
          have HIN := Lib.hid (fun i (h : i ∈ wantI W H Tj (pnt j) Tj.length) => wantI_mem h)
          have HTR := Lib.hid (fun i (h : i ∈ wantI W H Tj (pnt j) Tj.length) => wantI_true h)
          have HND := Lib.hid (wantI_nodup W H Tj (pnt j) Tj.length)
          have hJl := wantI_len W H Tj (pnt j)
          have HPJ2 := HPJ
          generalize wantI W H Tj (pnt j) Tj.length = J at *
          have hmJ := Lib.hid (show m.length = J.length by rw [HM.out, List.length_map])
          have hm400 : m.length ≤ 400 := by have := hmJ.out; have := HTL.out; omega
          generalize hmm : m.length = ml at *
          have HML := Lib.hid hmm
          clear hmm hJl k0 lk b1 b2 b3 lg lb hix
          go_loopg [5, 48] ml (fun k u5 u48 wr3 => ∃ (q : Nat) (ch3 : Bool), q ≤ ml ∧ u48 = .int .i64 q ∧ u5 = .bool ch3 ∧ Hid (q + k = ml ∧ (ch3 = decide (trueN (takeAll W H Tj (J.take q)) < trueN T) ∧ trueN (takeAll W H Tj (J.take q)) ≤ trueN T) ∧ Own w wr3 (row 106 2 (.slice A2 ml c2) ml (flat pe m) :: box (X + 1 + 1) 34 [.int .i64 W, .int .i64 H, .slice (some ⟨g, 0, none⟩) n c1] :: box (X + 1) 102 [.slice A2 ml c2] :: box X 3 [.int .i64 (pnt j : Int)] :: ([box g 4 (bools (takeAll W H Tj (J.take q)) ++ sp), box (w.heap.size + 1) 34 [.int .i64 0, .int .i64 0, .slice none 0 0], box w.heap.size 34 [.int .i64 W, .int .i64 H, .slice (some ⟨g, 0, none⟩) n c1]] ++ (Dn :: Ds).map mk))))
          case atStart => exact ⟨0, ch2, by omega, rfl, rfl, by omega, ⟨L2.out, L2b.out⟩, HO.out⟩
          case round =>
            obtain ⟨q, ch3, hq, rfl, rfl, hI⟩ := hrel
            have M1 := Lib.hid hI.out.1
            have M2 := Lib.hid hI.out.2.1.1
            have M3 := Lib.hid hI.out.2.1.2
            have M4 := Lib.hid hI.out.2.2
            clear hI
            by_cases hltq : q < ml
            case neg =>
              obtain rfl : q = ml := by omega
              have HT4 := Lib.hid (show takeAll W H Tj (J.take q) = passJ W H T (j + 1) by rw [List.take_of_length_le (by have := hmJ.out; omega), HW3.out]; exact HPJ2.out)
              go_wp2_with fail
              refine Handed.intro (k2 - 1) (by have := L1.out; omega) (hJ2 _ _ _ ⟨_, _, _, _, _, _, _, _, _, _, _, _, _, _, _, _, _, _, _, _, _, _, _, _, _, _, _, _, _, _, _, _, _, _, _, _, _, _, _, _, _, _, _, _, _, _, _, _, _, _, _, _, _, _, _, _, _, _, _, _, _, _, _, _, _, _, _, _, _, _, _, _, _, j + 1, Dn :: Ds, ch3, by rfl, by omega, by have := L1.out; omega, ⟨by rw [← HT4.out]; exact M2.out, by rw [← HT4.out]; exact M3.out⟩, by rw [← HT4.out]; exact M4.out.tail.tail.tail.tail⟩)
            have hqJ : q < J.length := by have := hmJ.out; omega
            have hqi : (q : Int) < (ml : Int) := by omega
            have HTS := Lib.hid (show takeAll W H Tj (J.take (q + 1)) = takeIf (simpleB W H (takeAll W H Tj (J.take q)) J[q]) (takeAll W H Tj (J.take q)) J[q] by rw [List.take_succ_eq_append_getElem hqJ]; exact takeAll_snoc _ _ _ _ _)
            have HTQ := Lib.hid (show n = (takeAll W H Tj (J.take q)).length by rw [takeAll_len]; exact HTL.out)
            have hin := HIN.out J[q] (List.getElem_mem hqJ)
            have HGT := Lib.hid (show (takeAll W H Tj (J.take q)).getD J[q] false = true by rw [takeAll_getD _ _ _ _ _ (not_mem_take HND.out hqJ)]; exact HTR.out J[q] (List.getElem_mem hqJ))
            have hmq : m[q]? = some (plc W J[q]) := by rw [HM.out, List.getElem?_map, List.getElem?_eq_getElem hqJ]; rfl
            obtain ⟨ga, rfl⟩ := M4.out.rowAddr 0 rfl (by omega)
            have k0 := M4.out.rowAt 0 rfl ((flat_get pe 2 pe_len m q _ 0 hmq (by omega)).trans rfl)
            have k1 := M4.out.rowAt 0 rfl ((flat_get pe 2 pe_len m q _ 1 hmq (by omega)).trans rfl)
            have la := (M4.out.rowLt 0 rfl).1
            have hin2 : J[q] < n := by have := HTL.out; omega
            obtain ⟨⟨⟨p1, p2⟩, p3, p4⟩, p5⟩ := plc_in hW hH HWH.out hin2
            have HN5 := Lib.hid (show nbI W H (takeAll W H Tj (J.take q)) J[q] = nbF W H (takeAll W H Tj (J.take q)) (plc W J[q]).1 (plc W J[q]).2 from rfl)
            have HP5 := Lib.hid (show (plc W J[q]).2 * W + (plc W J[q]).1 = (J[q] : Int) from p5)
            have HSB := Lib.hid (show simpleB W H (takeAll W H Tj (J.take q)) J[q] = ((turnsN (nbI W H (takeAll W H Tj (J.take q)) J[q]) 4 == 1) && !lonelyB (nbI W H (takeAll W H Tj (J.take q)) J[q])) from simple_lonely _)
            have HT0 := Lib.hid (takeIf_true (simpleB W H (takeAll W H Tj (J.take q)) J[q]) _ _ HGT.out)
            rw [HN5.out] at HSB
            simp only [Nat.add_zero] at k0
            generalize simpleB W H (takeAll W H Tj (J.take q)) J[q] = sb at *
            obtain ⟨Tn, hTn⟩ : ∃ Tn, takeAll W H Tj (J.take (q + 1)) = Tn := ⟨_, rfl⟩
            have HTE := Lib.hid hTn
            rw [hTn] at HTS
            clear hTn
            generalize takeAll W H Tj (J.take q) = Tq at *
            generalize J[q] = i at *
            obtain ⟨px, hpx⟩ : ∃ px, (plc W i).1 = px := ⟨_, rfl⟩
            obtain ⟨py, hpy⟩ : ∃ py, (plc W i).2 = py := ⟨_, rfl⟩
            rw [hpx, hpy] at HSB HP5
            rw [hpx] at k0 p1 p2
            rw [hpy] at k1 p3 p4
            have HA := Lib.hid (fun W6 (h : Rd W6 (some ⟨g, 0, none⟩) (bools Tq)) => (show Calls Try.prog 63 #[.agg #[.int .i64 W, .int .i64 H, .slice (some ⟨g, 0, none⟩) n c1], .int .i64 px, .int .i64 py] W6 fun e w' => e = .returned (.agg #[.bool (nbF W H Tq px py 0), .bool (nbF W H Tq px py 1), .bool (nbF W H Tq px py 2), .bool (nbF W H Tq px py 3), .bool (nbF W H Tq px py 4), .bool (nbF W H Tq px py 5), .bool (nbF W H Tq px py 6), .bool (nbF W H Tq px py 7)]) ∧ Below W6.heap.size W6 w' from around_any W H px py (some ⟨g, 0, none⟩) Tq n c1 W6 HOK.out h HTQ.out (by omega) (by omega)))
            clear hmq hpx hpy p5 HN5 hin hqJ
            generalize nbF W H Tq px py = r at *
            have KT := Lib.hid (fun W6 => (show Calls Try.prog 64 #[.agg #[.bool (r 0), .bool (r 1), .bool (r 2), .bool (r 3), .bool (r 4), .bool (r 5), .bool (r 6), .bool (r 7)]] W6 fun e w' => e = .returned (.int .i64 (turnsN r 4 : Nat)) ∧ Below W6.heap.size W6 w' from turns_any r W6))
            have KL := Lib.hid (fun W6 => (show Calls Try.prog 71 #[.agg #[.bool (r 0), .bool (r 1), .bool (r 2), .bool (r 3), .bool (r 4), .bool (r 5), .bool (r 6), .bool (r 7)]] W6 fun e w' => e = .returned (.bool (lonelyB r)) ∧ Below W6.heap.size W6 w' from lonely_any r W6))
            have htn := turnsN_le r 4
            obtain ⟨s0, s1, s2, sf⟩ := (M4.out.bx 6 rfl).c3
            have ls := (M4.out.bx 6 rfl).2.2
            have N1 := Lib.hid (M4.out.new' 106 #[.int .i64 px, .int .i64 py] (B := wr.heap.size) rfl)
            go_wp2_with fail
            refine (HA.out _ (rd_box (N1.out.bx 5 rfl))).mono ?_
            rintro e w6 ⟨rfl, hb6⟩
            have N2 := Lib.hid (N1.out.ext hb6)
            clear hb6 s0 s1 s2 sf ls k0 k1 la N1 M4 HA
            go_upto_region 21 with fail
            have N3 := Lib.hid (N2.out.new' 97 #[.bool (r 0), .bool (r 1), .bool (r 2), .bool (r 3), .bool (r 4), .bool (r 5), .bool (r 6), .bool (r 7)] (B := w6.heap.size) rfl)
            clear N2
            generalize w6.alloc _ = w7 at *
            generalize w6.heap.size = RB at *
            generalize wr.heap.size = PK at *
            go_cut [65] from 49 to 77 (fun u65 wx => u65 = .bool sb ∧ Hid (Own w wx (box RB 97 [.bool (r 0), .bool (r 1), .bool (r 2), .bool (r 3), .bool (r 4), .bool (r 5), .bool (r 6), .bool (r 7)] :: box PK 106 [.int .i64 px, .int .i64 py] :: row 106 2 (.slice (some ⟨ga, 0, none⟩) ml c2) ml (flat pe m) :: box (X + 1 + 1) 34 [.int .i64 W, .int .i64 H, .slice (some ⟨g, 0, none⟩) n c1] :: box (X + 1) 102 [.slice (some ⟨ga, 0, none⟩) ml c2] :: box X 3 [.int .i64 (pnt j : Int)] :: ([box g 4 (bools Tq ++ sp), box (w.heap.size + 1) 34 [.int .i64 0, .int .i64 0, .slice none 0 0], box w.heap.size 34 [.int .i64 W, .int .i64 H, .slice (some ⟨g, 0, none⟩) n c1]] ++ (Dn :: Ds).map mk))))
            case first =>
              as_aux_lemma =>
              by_cases ht : turnsN r 4 = 1
              case neg =>
                have f1 : ((turnsN r 4 : Int) == 1) = false := by simp; omega
                have HV := Lib.hid (show sb = false by rw [HSB.out]; simp [ht])
                clear ht
                have e0 := (N3.out.bx 0 rfl).1 0 _ rfl
                have e1 := (N3.out.bx 0 rfl).1 1 _ rfl
                have e2 := (N3.out.bx 0 rfl).1 2 _ rfl
                have e3 := (N3.out.bx 0 rfl).1 3 _ rfl
                have e4 := (N3.out.bx 0 rfl).1 4 _ rfl
                have e5 := (N3.out.bx 0 rfl).1 5 _ rfl
                have e6 := (N3.out.bx 0 rfl).1 6 _ rfl
                have e7 := (N3.out.bx 0 rfl).1 7 _ rfl
                have le := (N3.out.bx 0 rfl).2.2
                go_wp2_with fail
                refine (KT.out _).mono ?_
                rintro e w8 ⟨rfl, hb8⟩
                have N4 := Lib.hid (N3.out.ext hb8)
                clear hb8
                clear e0 e1 e2 e3 e4 e5 e6 e7 le
                go_wp2_with fail
                go_meet
                exact ⟨congrArg Value.bool HV.out.symm, N4.out⟩
              case pos =>
                rw [ht] at KT
                have HV := Lib.hid (show sb = !lonelyB r by rw [HSB.out]; simp [ht])
                clear ht
                generalize lonelyB r = lb at *
                have e0 := (N3.out.bx 0 rfl).1 0 _ rfl
                have e1 := (N3.out.bx 0 rfl).1 1 _ rfl
                have e2 := (N3.out.bx 0 rfl).1 2 _ rfl
                have e3 := (N3.out.bx 0 rfl).1 3 _ rfl
                have e4 := (N3.out.bx 0 rfl).1 4 _ rfl
                have e5 := (N3.out.bx 0 rfl).1 5 _ rfl
                have e6 := (N3.out.bx 0 rfl).1 6 _ rfl
                have e7 := (N3.out.bx 0 rfl).1 7 _ rfl
                have le := (N3.out.bx 0 rfl).2.2
                go_wp2_with fail
                refine (KT.out _).mono ?_
                rintro e w8 ⟨rfl, hb8⟩
                have N4 := Lib.hid (N3.out.ext hb8)
                clear hb8
                clear e0 e1 e2 e3 e4 e5 e6 e7 le
                have e0 := (N4.out.bx 0 rfl).1 0 _ rfl
                have e1 := (N4.out.bx 0 rfl).1 1 _ rfl
                have e2 := (N4.out.bx 0 rfl).1 2 _ rfl
                have e3 := (N4.out.bx 0 rfl).1 3 _ rfl
                have e4 := (N4.out.bx 0 rfl).1 4 _ rfl
                have e5 := (N4.out.bx 0 rfl).1 5 _ rfl
                have e6 := (N4.out.bx 0 rfl).1 6 _ rfl
                have e7 := (N4.out.bx 0 rfl).1 7 _ rfl
                have le := (N4.out.bx 0 rfl).2.2
                go_wp2_with fail
                refine (KL.out _).mono ?_
                rintro e w9 ⟨rfl, hb9⟩
                have N5 := Lib.hid (N4.out.ext hb9)
                clear hb9
                clear e0 e1 e2 e3 e4 e5 e6 e7 le
                rcases lb with _ | _
                all_goals
                  go_wp2_with fail
                  go_meet
                  exact ⟨congrArg Value.bool HV.out.symm, N5.out⟩
            case rest =>
              obtain ⟨rfl, hS⟩ := hcut
              have N6 := hS
              clear N3 hS
              rcases sb with _ | _
              · have HTN := Lib.hid (show Tn = Tq from HTS.out)
                go_wp2_with fail
                go_roundg (gk - 1)
                case measure => have := M1.out; omega
                case rel => exact ⟨q + 1, ch3, by omega, by go_num, rfl, by have := M1.out; omega, ⟨by rw [HTE.out, HTN.out]; exact M2.out, by rw [HTE.out, HTN.out]; exact M3.out⟩, by rw [HTE.out, HTN.out]; exact N6.out.tail.tail⟩
              · have HTN := Lib.hid (show Tn = Tq.set i false from HTS.out)
                have HTC := Lib.hid (show trueN (Tq.set i false) + 1 = trueN Tq from HT0.out)
                have hiq : i < Tq.length := by have := HTQ.out; omega
                obtain ⟨s0, s1, s2, sf⟩ := (N6.out.bx 8 rfl).c3
                have ls := (N6.out.bx 8 rfl).2.2
                obtain ⟨k0, k1, kf⟩ := (N6.out.bx 1 rfl).c2
                have lk := (N6.out.bx 1 rfl).2.2
                have lg := (N6.out.bx 6 rfl).2.2
                have fg := (N6.out.bx 6 rfl).2.1
                obtain ⟨bv, cg⟩ : ∃ bv, wc.cell? ⟨g, i, none⟩ = some (.bool bv) := ⟨_, (N6.out.bx 6 rfl).1 i _ (by rw [List.getElem?_append_left (by simpa [bools] using hiq)]; exact bools_get hiq)⟩
                have N7 := Lib.hid ((N6.out.set 6 rfl i (.bool false)).cast (qs := (box RB 97 [.bool (r 0), .bool (r 1), .bool (r 2), .bool (r 3), .bool (r 4), .bool (r 5), .bool (r 6), .bool (r 7)] :: box PK 106 [.int .i64 px, .int .i64 py] :: row 106 2 (.slice (some ⟨ga, 0, none⟩) ml c2) ml (flat pe m) :: box (X + 1 + 1) 34 [.int .i64 W, .int .i64 H, .slice (some ⟨g, 0, none⟩) n c1] :: box (X + 1) 102 [.slice (some ⟨ga, 0, none⟩) ml c2] :: box X 3 [.int .i64 (pnt j : Int)] :: ([box g 4 (bools (Tq.set i false) ++ sp), box (w.heap.size + 1) 34 [.int .i64 0, .int .i64 0, .slice none 0 0], box w.heap.size 34 [.int .i64 W, .int .i64 H, .slice (some ⟨g, 0, none⟩) n c1]] ++ (Dn :: Ds).map mk))) (by rw [List.set_append_left _ _ (by simpa [bools] using hiq), bools_set]; rfl))
                have hpyb : py * W ≤ 20 * 20 := Int.mul_le_mul (by omega) (by omega) (by omega) (by omega)
                have hpy0 : 0 ≤ py * W := Int.mul_nonneg (by omega) (by omega)
                have hpi := HP5.out
                generalize hqq : py * W = qq at *
                have y3 : IntKind.i64.wrap (py * W) = qq := by rw [hqq]; exact IntWalk.i64_in _ (by omega)
                have y4 : IntKind.i64.wrap (qq + px) = (i : Int) := by rw [hpi]; exact IntWalk.i64_in _ (by omega)
                have hii : (i : Int) < (n : Int) := by omega
                have HQQ := Lib.hid hqq
                clear hqq hpi hiq
                go_wp2_with fail
                go_roundg (gk - 1)
                case measure => have := M1.out; omega
                case rel => exact ⟨q + 1, true, by omega, by go_num, rfl, by have := M1.out; omega, ⟨by rw [HTE.out, HTN.out]; exact (decide_eq_true (by have := HTC.out; have := M3.out; omega)).symm, by rw [HTE.out, HTN.out]; have := HTC.out; have := M3.out; omega⟩, by rw [HTE.out, HTN.out]; exact N7.out.tail.tail⟩
end Go.Proofs.Ytjelnbfnoliocaa
