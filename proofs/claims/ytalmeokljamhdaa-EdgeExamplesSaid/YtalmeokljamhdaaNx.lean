/- EdgeExamples: limits, error numbers, and examples. -/
import Derived.Test.YtalmeokljamhdaaNw
import Derived.Deep.RegionHeld3
namespace Go.Proofs.Ytalmeokljamhdaa
open Go.RowKit

/-- The examples' changes, and where they lie. -/
theorem changes_at (w : World) : Calls Try.prog 49 #[] w fun e w' => e = .returned (.slice (some ⟨w.heap.size, 0, none⟩) 3 3) ∧ w.alloc (.cells #[.int .i64 5, .int .i64 3, .bool true, .int .i64 7, .int .i64 3, .bool false, .int .i64 7, .int .i64 9, .bool true] 62) = w' := by
  go_enter Try.func49, Try.ntmps49
  go_wp2
  go_ret
  exact ⟨rfl, rfl⟩
theorem rd_chgs (w : World) : Rd (w.alloc (.cells #[.int .i64 5, .int .i64 3, .bool true, .int .i64 7, .int .i64 3, .bool false, .int .i64 7, .int .i64 9, .bool true] 62)) (some ⟨w.heap.size, 0, none⟩) (flat cenc chgs) :=
  (ow_new w #[.int .i64 5, .int .i64 3, .bool true, .int .i64 7, .int .i64 3, .bool false, .int .i64 7, .int .i64 9, .bool true] 62 _ rfl 0 (Nat.zero_le _)).rd

theorem apply8 (q : Int) (A : Option Addr) (l : List Chg) (n c : Nat) (w : World) (hr : Rd w A (flat cenc l)) (hn : n = l.length) (hl : n ≤ 1000) :
    Calls Try.prog 44 #[.agg #[.int .i64 6, .int .i64 10, .int .u64 8, .int .u64 q], .slice A n c, .int .i64 7, .int .u64 77] w (KPost (applyF 6 10 8#64 q l 7 77) w) := apply_any 6 10 8#64 q A l n c 7 77 w hr hn hl

theorem mk61 (w : World) : (Instr.makeSlice 44 (.int .i64 61) (.int .i64 61)).run Try.prog w = .ok (.slice (some ⟨w.heap.size, 0, none⟩) 61 61) (w.alloc (.cells (flat cenc exZ).toArray 62)) := by kernel_rfl

set_option maxRecDepth 100000 in
set_option maxHeartbeats 8000000 in
theorem edgeExamples_walk (w : World) : Calls Try.prog 16 #[] w fun e w' => e = .returned (.bool true) ∧ Below w.heap.size w w' := by
  obtain ⟨q, hq⟩ : ∃ q, q = sealI 6 10 8 77 := ⟨_, rfl⟩
  obtain ⟨q7, hq7⟩ : ∃ q, q = sealI 7 10 512 77 := ⟨_, rfl⟩
  have E1 := Lib.hid copy6
  have E2 := Lib.hid exApply
  have E3 := Lib.hid exApply2
  have E4 := Lib.hid exDec78
  have E5 := Lib.hid exDec64
  have E6 := Lib.hid exDec5
  rw [← hq] at E1 E2 E3 E4 E5 E6
  rw [← hq7] at E2
  clear hq hq7
  go_enter Try.func16, Try.ntmps16
  go_wp2_with fail
  refine (changes_any _).mono ?_
  rintro e w1 ⟨A1, c1, rfl, how, hb⟩
  have HO := Lib.hid how.rd
  have HB := Lib.hid hb
  clear how hb
  go_wp2_with fail
  refine (copy_any _ chgs _ _ _ _ _ _ HO.out rfl (by decide)).mono ?_
  rintro e w2 ⟨he, hb⟩
  rw [E1.out] at he
  subst he
  replace HB := Lib.hid (below_step HB.out hb)
  clear hb HO
  go_wp2_with fail
  refine (changes_any _).mono ?_
  rintro e w3 ⟨A3, c3, rfl, how, hb⟩
  have HK := Lib.hid ((Box.new w2 65 #[.int .i64 6, .int .i64 10, .int .u64 8, .int .u64 q]).ext hb)
  have HO := Lib.hid how.rd
  replace HB := Lib.hid (below_step HB.out (below_step (below_alloc _ _) hb))
  clear how hb
  go_wp2_with fail
  refine (online_any _ chgs _ _ _ _ _ HO.out rfl (by decide)).mono ?_
  rintro e w4 ⟨rfl, hb⟩
  rw [exOn]
  replace HB := Lib.hid (below_step HB.out hb)
  replace HK := Lib.hid (HK.out.ext hb)
  clear hb HO
  obtain ⟨p0, p1, p2, p3, pf⟩ := HK.out.c4
  have hs4 := HK.out.2.2
  go_wp2
  go_region_held3 (fun w' => w'.cell? ⟨w2.heap.size, 0, none⟩ = some (.int .i64 6) ∧ w'.cell? ⟨w2.heap.size, 1, none⟩ = some (.int .i64 10) ∧ w'.cell? ⟨w2.heap.size, 2, none⟩ = some (.int .u64 8) ∧ w'.cell? ⟨w2.heap.size, 3, none⟩ = some (.int .u64 q)) (first | go_keep | (have hbx := HK.out.ext hb; exact ⟨hbx.1 0 _ rfl, hbx.1 1 _ rfl, hbx.1 2 _ rfl, hbx.1 3 _ rfl⟩)) (first | (go_at_call 49; refine (changes_any _).mono ?_; rintro e w5 ⟨A5, c5, rfl, how5, hb5⟩; have hb : Below w4.heap.size w4 w5 := (below_step (below_drew w4) hb5)) | (go_at_call 40; refine (late_any _ chgs _ _ _ _ _ _ _ _ _ (by exact how5.rd) rfl (by decide)).mono ?_; rintro e w6 ⟨A6, c6, he6, how6, hb6⟩; rw [exLate] at he6 how6; subst he6; have hb : Below w4.heap.size w4 w6 := (below_step ‹Below w4.heap.size w4 _› hb6)))
  have HB6 := Lib.hid (below_step HB.out hb)
  have HK6 := Lib.hid (HK.out.ext hb)
  have HL := Lib.hid how6.rd
  clear hb how6 hb6 how5 hb5 HB HK p0 p1 p2 p3 pf hs4
  go_wp2_with fail
  refine (changes_any _).mono ?_
  rintro e w7 ⟨A7, c7, rfl, how, hb⟩
  have HO := Lib.hid how.rd
  have HB := Lib.hid (below_step HB6.out hb)
  have HK := Lib.hid (HK6.out.ext hb)
  replace HL := Lib.hid (HL.out.below hb)
  clear how hb HB6 HK6
  go_wp2_with fail
  refine (delta_any _ chgs _ _ _ _ _ HO.out rfl (by decide)).mono ?_
  rintro e w8 ⟨A8, c8, he, how, hb⟩
  rw [exDelta] at he how
  subst he
  have HD : Hid (Rd w8 A8 (flat cenc exD)) := how.rd
  replace HB := Lib.hid (below_step HB.out hb)
  replace HK := Lib.hid (HK.out.ext hb)
  replace HL := Lib.hid (HL.out.below hb)
  clear hb how HO
  obtain ⟨p0, p1, p2, p3, pf⟩ := HK.out.c4
  go_wp2_with fail
  refine (apply_any 6 10 8#64 q _ exD _ _ _ _ _ HD.out rfl (by decide)).mono ?_
  rintro e w9 ⟨he, hb⟩
  rw [E2.out] at he
  subst he
  replace HB := Lib.hid (below_step HB.out hb)
  replace HK := Lib.hid (HK.out.ext hb)
  replace HL := Lib.hid (HL.out.below hb)
  clear hb HD p0 p1 p2 p3 pf
  have hs9 := HK.out.2.2
  go_upto_region 6 with (fail)
  have HN9 := Lib.hid (Box.new w9 65 #[.int .i64 7, .int .i64 10, .int .u64 512, .int .u64 q7])
  replace HB := Lib.hid (below_more HB.out (.cells #[.int .i64 7, .int .i64 10, .int .u64 512, .int .u64 q7] 65))
  replace HK := Lib.hid (HK.out.alloc (.cells #[.int .i64 7, .int .i64 10, .int .u64 512, .int .u64 q7] 65))
  replace HL := Lib.hid (HL.out.below (below_alloc w9 (.cells #[.int .i64 7, .int .i64 10, .int .u64 512, .int .u64 q7] 65)))
  obtain ⟨p0, p1, p2, p3, pf⟩ := HK.out.c4
  generalize w9.alloc (.cells #[.int .i64 7, .int .i64 10, .int .u64 512, .int .u64 q7] 65) = W at *
  have hsW := HK.out.2.2
  have hnW : W.heap.size ≠ w2.heap.size := by omega
  have hmW : w2.heap.size ≠ W.heap.size := by omega
  go_cut [12] (fun s12 wx => s12 = .int .i64 101 ∧ Hid (Below W.heap.size W wx))
  case first =>
    as_aux_lemma =>
    go_region_held3 (fun w' => w'.cell? ⟨w2.heap.size, 0, none⟩ = some (.int .i64 6) ∧ w'.cell? ⟨w2.heap.size, 1, none⟩ = some (.int .i64 10) ∧ w'.cell? ⟨w2.heap.size, 2, none⟩ = some (.int .u64 8) ∧ w'.cell? ⟨w2.heap.size, 3, none⟩ = some (.int .u64 q)) (first | go_keep | (have hbx := HK.out.ext hb; exact ⟨hbx.1 0 _ rfl, hbx.1 1 _ rfl, hbx.1 2 _ rfl, hbx.1 3 _ rfl⟩)) (first | (go_at_call 49; (with_reducible refine (changes_any W.drew).mono ?_); rintro e w10 ⟨A10, c10, rfl, how10, hb10⟩; have hb : Below W.heap.size W w10 := (below_step (below_drew W) hb10); have hn10 : w10.heap.size ≠ w2.heap.size := (by have := hb.size; omega); have hm10 : w2.heap.size ≠ w10.heap.size := (by have := hb.size; omega)) | (go_at_call 49; (with_reducible refine (changes_any (W.alloc (.cells #[.int .i64 0, .int .i64 0, .int .u64 0, .int .u64 0] 65)).drew).mono ?_); rintro e w10 ⟨A10, c10, rfl, how10, hb10⟩; have hb : Below W.heap.size W w10 := (below_step (below_alloc W (.cells #[.int .i64 0, .int .i64 0, .int .u64 0, .int .u64 0] 65)).drew hb10); have HXB : Hid (Box w10 W.heap.size [.int .i64 0, .int .i64 0, .int .u64 0, .int .u64 0]) := (Box.ext (w := (W.alloc (.cells #[.int .i64 0, .int .i64 0, .int .u64 0, .int .u64 0] 65)).drew) (Box.new W 65 #[.int .i64 0, .int .i64 0, .int .u64 0, .int .u64 0]) hb10)) | (go_at_call 44; (with_reducible refine (apply8 q A10 chgs 3 c10 w10 how10.rd rfl (by decide)).mono ?_); rintro e w11 ⟨he11, hb11⟩; rw [E3.out] at he11; subst he11; have hb12 := hb; clear hb; have hb : Below W.heap.size W w11 := (below_step hb12 hb11); have hxb := HXB.out.ext hb11; obtain ⟨s0, s1, s2, s3, sf⟩ := hxb.c4; have hsx := hxb.2.2; have hn11 : w11.heap.size ≠ w2.heap.size := (by have := hb.size; omega); have hm11 : w2.heap.size ≠ w11.heap.size := (by have := hb.size; omega)) | (go_at_call 44; (with_reducible refine (apply8 q A10 chgs 3 c10 (w10.alloc (.cells #[.int .i64 0, .int .i64 0, .int .u64 0, .int .u64 0] 65)) (how10.rd.below (below_alloc w10 (.cells #[.int .i64 0, .int .i64 0, .int .u64 0, .int .u64 0] 65))) rfl (by decide)).mono ?_); rintro e w11 ⟨he11, hb11⟩; rw [E3.out] at he11; subst he11; have hb12 := hb; clear hb; have hb : Below W.heap.size W w11 := (below_step hb12 (below_step (below_alloc w10 (.cells #[.int .i64 0, .int .i64 0, .int .u64 0, .int .u64 0] 65)) hb11)); have hxb := (Box.new w10 65 #[.int .i64 0, .int .i64 0, .int .u64 0, .int .u64 0]).ext hb11; obtain ⟨s0, s1, s2, s3, sf⟩ := hxb.c4; have hsx := hxb.2.2; have hn11 : w11.heap.size ≠ w2.heap.size := (by have := hb.size; omega); have hm11 : w2.heap.size ≠ w11.heap.size := (by have := hb.size; omega)) | (go_at_call 44; (with_reducible refine (apply8 q A10 chgs 3 c10 w10 how10.rd rfl (by decide)).mono ?_); rintro e w11 ⟨he11, hb11⟩; rw [E3.out] at he11; subst he11; have hb12 := hb; clear hb; have hb : Below W.heap.size W w11 := (below_step hb12 hb11); have hn11 : w11.heap.size ≠ w2.heap.size := (by have := hb.size; omega); have hm11 : w2.heap.size ≠ w11.heap.size := (by have := hb.size; omega)))
    all_goals
      go_wp2_with fail
      go_meet
      first
        | exact ⟨rfl, below_more hb _⟩
        | exact ⟨rfl, (((hb.setCell (by have := hb12.size; simp; omega) _).setCell (by have := hb12.size; simp; omega) _).setCell (by have := hb12.size; simp; omega) _).setCell (by have := hb12.size; simp; omega) _⟩
        | exact ⟨rfl, (((hb.setCell (by simp) _).setCell (by simp) _).setCell (by simp) _).setCell (by simp) _⟩
  case rest =>
    obtain ⟨rfl, hcb⟩ := hcut
    replace HB := Lib.hid (below_step HB.out hcb.out)
    replace HK := Lib.hid (HK.out.ext hcb.out)
    replace HN9 := Lib.hid (HN9.out.ext hcb.out)
    replace HL := Lib.hid (HL.out.below hcb.out)
    have hsc2 := HK.out.2.2
    have hsc9 := HN9.out.2.2
    clear p0 p1 p2 p3 pf hcb hnW hmW hsW hs9
    obtain ⟨b6, off6, rfl, hb6s, l0, l1, l2⟩ := chg_at (l := [⟨7, 9, true⟩]) HL.out (Below.refl _ _) (k := 0) (by simp)
    simp only [Nat.zero_mul, Nat.add_zero, List.getElem_cons_zero] at l0 l1 l2
    obtain ⟨n0, n1, n2, n3, nf⟩ := HN9.out.c4
    go_upto_region 7 with (fail)
    go_cut [113] (fun s113 wx => s113 = .bool false ∧ Hid (Below wc.heap.size wc wx))
    case first =>
      as_aux_lemma =>
      dsimp only [List.append]
      refine wp_region_held_drew (S := (fun w' => w'.cell? ⟨b6, off6, none⟩ = some (.int .i64 7) ∧ w'.cell? ⟨b6, off6 + 1, none⟩ = some (.int .i64 9) ∧ w'.cell? ⟨b6, off6 + 2, none⟩ = some (.bool true) ∧ w'.cell? ⟨w9.heap.size, 0, none⟩ = some (.int .i64 7) ∧ w'.cell? ⟨w9.heap.size, 1, none⟩ = some (.int .i64 10) ∧ w'.cell? ⟨w9.heap.size, 2, none⟩ = some (.int .u64 512))) (by kernel_rfl) ?_ (fun hHeld => ?_)
      · exact ⟨l0, l1, l2, n0, n1, n2⟩
      refine wpAnyH_take (i := 0) (oi := { dst := some 48, op := Op.move (Operand.const (Value.bool false)), type := 4, pos := _, after := _, guard := none }) (v := ?_) rfl (by kernel_rfl) (by kernel_rfl) (by kernel_rfl) (fun _ _ _ h => h) (Or.inl ⟨by rfl, ?_⟩) hHeld ?_
      rotate_left
      · (intro w hSw; (try dsimp only at hSw); go_simp; try with_reducible rfl)
      try simp only [Act.put, List.setIfInBounds_toArray, List.set_cons_zero, List.set_cons_succ]
      refine wpAnyH_ready (rs := [1]) (by kernel_rfl) (by simp) ?_
      refine AllReadyH.cons (o := { dst := some 49, op := Op.call { callee := Callee.value (Operand.func 48), args := #[], argTypes := #[] }, type := 4, pos := _, after := _, guard := some (0, false) }) rfl (fun K hK => ?_) AllReadyH.nil
      go_simp
      refine (alive_any _).mono ?_
      rintro e wv ⟨rfl, hbv⟩
      have hb : Below wc.heap.size wc wv := below_step (below_drew wc) hbv
      clear hbv
      go_wp2_with fail
      clear hHeld
      refine hK.out _ _ ?_ (fun hHeld => ?_)
      · exact ⟨(hb.cell (p := ⟨b6, off6, none⟩) hb6s).trans l0, (hb.cell (p := ⟨b6, off6 + 1, none⟩) hb6s).trans l1, (hb.cell (p := ⟨b6, off6 + 2, none⟩) hb6s).trans l2, (hb.cell (p := ⟨w9.heap.size, 0, none⟩) hsc9).trans n0, (hb.cell (p := ⟨w9.heap.size, 1, none⟩) hsc9).trans n1, (hb.cell (p := ⟨w9.heap.size, 2, none⟩) hsc9).trans n2⟩
      clear hK K
      try simp only [Act.put, List.setIfInBounds_toArray, List.set_cons_zero, List.set_cons_succ]
      refine wpAnyH_take (i := 2) (oi := { dst := some 50, op := Op.unOp UnOp.not 4 (Operand.tmp 49), type := 4, pos := _, after := _, guard := some (0, false) }) (v := ?_) rfl (by kernel_rfl) (by kernel_rfl) (by kernel_rfl) (fun _ _ _ h => h) (Or.inl ⟨by rfl, ?_⟩) hHeld ?_
      rotate_left
      · (intro w hSw; (try dsimp only at hSw); go_simp; try with_reducible rfl)
      try simp only [Act.put, List.setIfInBounds_toArray, List.set_cons_zero, List.set_cons_succ]
      refine wpAnyH_take (i := 3) (oi := { dst := some 51, op := Op.pick (Operand.tmp 48) (Operand.const (Value.bool true)) (Operand.tmp 50), type := 4, pos := _, after := _, guard := none }) (v := ?_) rfl (by kernel_rfl) (by kernel_rfl) (by kernel_rfl) (fun _ _ _ h => h) (Or.inl ⟨by rfl, ?_⟩) hHeld ?_
      rotate_left
      · (intro w hSw; (try dsimp only at hSw); go_simp; try with_reducible rfl)
      try simp only [Act.put, List.setIfInBounds_toArray, List.set_cons_zero, List.set_cons_succ]
      refine wpAnyH_take (i := 4) (oi := { dst := some 52, op := Op.move (Operand.tmp 51), type := 4, pos := _, after := _, guard := none }) (v := ?_) rfl (by kernel_rfl) (by kernel_rfl) (by kernel_rfl) (fun _ _ _ h => h) (Or.inl ⟨by rfl, ?_⟩) hHeld ?_
      rotate_left
      · (intro w hSw; (try dsimp only at hSw); go_simp; try with_reducible rfl)
      try simp only [Act.put, List.setIfInBounds_toArray, List.set_cons_zero, List.set_cons_succ]
      refine wpAnyH_take (i := 5) (oi := { dst := some 53, op := Op.move (Operand.tmp 2), type := 26, pos := _, after := _, guard := some (4, false) }) (v := ?_) rfl (by kernel_rfl) (by kernel_rfl) (by kernel_rfl) (fun _ _ _ h => h) (Or.inl ⟨by rfl, ?_⟩) hHeld ?_
      rotate_left
      · (intro w hSw; (try dsimp only at hSw); go_simp; try with_reducible rfl)
      try simp only [Act.put, List.setIfInBounds_toArray, List.set_cons_zero, List.set_cons_succ]
      refine wpAnyH_take (i := 6) (oi := { dst := some 54, op := Op.binOp BinOp.neq 26 (Operand.tmp 53) (Operand.const (Value.int IntKind.i64 0)) 26, type := 4, pos := _, after := _, guard := some (4, false) }) (v := ?_) rfl (by kernel_rfl) (by kernel_rfl) (by kernel_rfl) (fun _ _ _ h => h) (Or.inl ⟨by rfl, ?_⟩) hHeld ?_
      rotate_left
      · (intro w hSw; (try dsimp only at hSw); go_simp; try with_reducible rfl)
      try simp only [Act.put, List.setIfInBounds_toArray, List.set_cons_zero, List.set_cons_succ]
      refine wpAnyH_take (i := 7) (oi := { dst := some 55, op := Op.pick (Operand.tmp 52) (Operand.const (Value.bool true)) (Operand.tmp 54), type := 4, pos := _, after := _, guard := none }) (v := ?_) rfl (by kernel_rfl) (by kernel_rfl) (by kernel_rfl) (fun _ _ _ h => h) (Or.inl ⟨by rfl, ?_⟩) hHeld ?_
      rotate_left
      · (intro w hSw; (try dsimp only at hSw); go_simp; try with_reducible rfl)
      try simp only [Act.put, List.setIfInBounds_toArray, List.set_cons_zero, List.set_cons_succ]
      refine wpAnyH_take (i := 8) (oi := { dst := some 56, op := Op.move (Operand.tmp 55), type := 4, pos := _, after := _, guard := none }) (v := ?_) rfl (by kernel_rfl) (by kernel_rfl) (by kernel_rfl) (fun _ _ _ h => h) (Or.inl ⟨by rfl, ?_⟩) hHeld ?_
      rotate_left
      · (intro w hSw; (try dsimp only at hSw); go_simp; try with_reducible rfl)
      try simp only [Act.put, List.setIfInBounds_toArray, List.set_cons_zero, List.set_cons_succ]
      refine wpAnyH_take (i := 9) (oi := { dst := some 57, op := Op.move (Operand.tmp 4), type := 26, pos := _, after := _, guard := some (8, false) }) (v := ?_) rfl (by kernel_rfl) (by kernel_rfl) (by kernel_rfl) (fun _ _ _ h => h) (Or.inl ⟨by rfl, ?_⟩) hHeld ?_
      rotate_left
      · (intro w hSw; (try dsimp only at hSw); go_simp; try with_reducible rfl)
      try simp only [Act.put, List.setIfInBounds_toArray, List.set_cons_zero, List.set_cons_succ]
      refine wpAnyH_take (i := 10) (oi := { dst := some 58, op := Op.binOp BinOp.neq 26 (Operand.tmp 57) (Operand.const (Value.int IntKind.i64 0)) 26, type := 4, pos := _, after := _, guard := some (8, false) }) (v := ?_) rfl (by kernel_rfl) (by kernel_rfl) (by kernel_rfl) (fun _ _ _ h => h) (Or.inl ⟨by rfl, ?_⟩) hHeld ?_
      rotate_left
      · (intro w hSw; (try dsimp only at hSw); go_simp; try with_reducible rfl)
      try simp only [Act.put, List.setIfInBounds_toArray, List.set_cons_zero, List.set_cons_succ]
      refine wpAnyH_take (i := 11) (oi := { dst := some 59, op := Op.pick (Operand.tmp 56) (Operand.const (Value.bool true)) (Operand.tmp 58), type := 4, pos := _, after := _, guard := none }) (v := ?_) rfl (by kernel_rfl) (by kernel_rfl) (by kernel_rfl) (fun _ _ _ h => h) (Or.inl ⟨by rfl, ?_⟩) hHeld ?_
      rotate_left
      · (intro w hSw; (try dsimp only at hSw); go_simp; try with_reducible rfl)
      try simp only [Act.put, List.setIfInBounds_toArray, List.set_cons_zero, List.set_cons_succ]
      refine wpAnyH_take (i := 12) (oi := { dst := some 60, op := Op.move (Operand.tmp 59), type := 4, pos := _, after := _, guard := none }) (v := ?_) rfl (by kernel_rfl) (by kernel_rfl) (by kernel_rfl) (fun _ _ _ h => h) (Or.inl ⟨by rfl, ?_⟩) hHeld ?_
      rotate_left
      · (intro w hSw; (try dsimp only at hSw); go_simp; try with_reducible rfl)
      try simp only [Act.put, List.setIfInBounds_toArray, List.set_cons_zero, List.set_cons_succ]
      refine wpAnyH_take (i := 13) (oi := { dst := some 61, op := Op.move (Operand.tmp 3), type := 5, pos := _, after := _, guard := some (12, false) }) (v := ?_) rfl (by kernel_rfl) (by kernel_rfl) (by kernel_rfl) (fun _ _ _ h => h) (Or.inl ⟨by rfl, ?_⟩) hHeld ?_
      rotate_left
      · (intro w hSw; (try dsimp only at hSw); go_simp; try with_reducible rfl)
      try simp only [Act.put, List.setIfInBounds_toArray, List.set_cons_zero, List.set_cons_succ]
      refine wpAnyH_take (i := 14) (oi := { dst := some 62, op := Op.binOp BinOp.neq 5 (Operand.tmp 61) (Operand.const (Value.int IntKind.u8 2)) 5, type := 4, pos := _, after := _, guard := some (12, false) }) (v := ?_) rfl (by kernel_rfl) (by kernel_rfl) (by kernel_rfl) (fun _ _ _ h => h) (Or.inl ⟨by rfl, ?_⟩) hHeld ?_
      rotate_left
      · (intro w hSw; (try dsimp only at hSw); go_simp; try with_reducible rfl)
      try simp only [Act.put, List.setIfInBounds_toArray, List.set_cons_zero, List.set_cons_succ]
      refine wpAnyH_take (i := 15) (oi := { dst := some 63, op := Op.pick (Operand.tmp 60) (Operand.const (Value.bool true)) (Operand.tmp 62), type := 4, pos := _, after := _, guard := none }) (v := ?_) rfl (by kernel_rfl) (by kernel_rfl) (by kernel_rfl) (fun _ _ _ h => h) (Or.inl ⟨by rfl, ?_⟩) hHeld ?_
      rotate_left
      · (intro w hSw; (try dsimp only at hSw); go_simp; try with_reducible rfl)
      try simp only [Act.put, List.setIfInBounds_toArray, List.set_cons_zero, List.set_cons_succ]
      refine wpAnyH_take (i := 16) (oi := { dst := some 64, op := Op.move (Operand.tmp 63), type := 4, pos := _, after := _, guard := none }) (v := ?_) rfl (by kernel_rfl) (by kernel_rfl) (by kernel_rfl) (fun _ _ _ h => h) (Or.inl ⟨by rfl, ?_⟩) hHeld ?_
      rotate_left
      · (intro w hSw; (try dsimp only at hSw); go_simp; try with_reducible rfl)
      try simp only [Act.put, List.setIfInBounds_toArray, List.set_cons_zero, List.set_cons_succ]
      refine wpAnyH_take (i := 17) (oi := { dst := some 65, op := Op.move (Operand.tmp 6), type := 26, pos := _, after := _, guard := some (16, false) }) (v := ?_) rfl (by kernel_rfl) (by kernel_rfl) (by kernel_rfl) (fun _ _ _ h => h) (Or.inl ⟨by rfl, ?_⟩) hHeld ?_
      rotate_left
      · (intro w hSw; (try dsimp only at hSw); go_simp; try with_reducible rfl)
      try simp only [Act.put, List.setIfInBounds_toArray, List.set_cons_zero, List.set_cons_succ]
      refine wpAnyH_take (i := 18) (oi := { dst := some 66, op := Op.binOp BinOp.neq 26 (Operand.tmp 65) (Operand.const (Value.int IntKind.i64 0)) 26, type := 4, pos := _, after := _, guard := some (16, false) }) (v := ?_) rfl (by kernel_rfl) (by kernel_rfl) (by kernel_rfl) (fun _ _ _ h => h) (Or.inl ⟨by rfl, ?_⟩) hHeld ?_
      rotate_left
      · (intro w hSw; (try dsimp only at hSw); go_simp; try with_reducible rfl)
      try simp only [Act.put, List.setIfInBounds_toArray, List.set_cons_zero, List.set_cons_succ]
      refine wpAnyH_take (i := 19) (oi := { dst := some 67, op := Op.pick (Operand.tmp 64) (Operand.const (Value.bool true)) (Operand.tmp 66), type := 4, pos := _, after := _, guard := none }) (v := ?_) rfl (by kernel_rfl) (by kernel_rfl) (by kernel_rfl) (fun _ _ _ h => h) (Or.inl ⟨by rfl, ?_⟩) hHeld ?_
      rotate_left
      · (intro w hSw; (try dsimp only at hSw); go_simp; try with_reducible rfl)
      try simp only [Act.put, List.setIfInBounds_toArray, List.set_cons_zero, List.set_cons_succ]
      refine wpAnyH_take (i := 20) (oi := { dst := some 68, op := Op.move (Operand.tmp 67), type := 4, pos := _, after := _, guard := none }) (v := ?_) rfl (by kernel_rfl) (by kernel_rfl) (by kernel_rfl) (fun _ _ _ h => h) (Or.inl ⟨by rfl, ?_⟩) hHeld ?_
      rotate_left
      · (intro w hSw; (try dsimp only at hSw); go_simp; try with_reducible rfl)
      try simp only [Act.put, List.setIfInBounds_toArray, List.set_cons_zero, List.set_cons_succ]
      refine wpAnyH_take (i := 21) (oi := { dst := some 69, op := Op.move (Operand.tmp 5), type := 44, pos := _, after := _, guard := some (20, false) }) (v := ?_) rfl (by kernel_rfl) (by kernel_rfl) (by kernel_rfl) (fun _ _ _ h => h) (Or.inl ⟨by rfl, ?_⟩) hHeld ?_
      rotate_left
      · (intro w hSw; (try dsimp only at hSw); go_simp; try with_reducible rfl)
      try simp only [Act.put, List.setIfInBounds_toArray, List.set_cons_zero, List.set_cons_succ]
      refine wpAnyH_take (i := 22) (oi := { dst := some 70, op := Op.call { callee := Callee.builtin Builtin.len, args := #[Operand.tmp 69], argTypes := #[44] }, type := 3, pos := _, after := _, guard := some (20, false) }) (v := ?_) rfl (by kernel_rfl) (by kernel_rfl) (by kernel_rfl) (fun _ _ _ h => h) (Or.inl ⟨by rfl, ?_⟩) hHeld ?_
      rotate_left
      · (intro w hSw; (try dsimp only at hSw); go_simp; try with_reducible rfl)
      try simp only [Act.put, List.setIfInBounds_toArray, List.set_cons_zero, List.set_cons_succ]
      refine wpAnyH_take (i := 23) (oi := { dst := some 71, op := Op.binOp BinOp.neq 3 (Operand.tmp 70) (Operand.const (Value.int IntKind.i64 1)) 3, type := 4, pos := _, after := _, guard := some (20, false) }) (v := ?_) rfl (by kernel_rfl) (by kernel_rfl) (by kernel_rfl) (fun _ _ _ h => h) (Or.inl ⟨by rfl, ?_⟩) hHeld ?_
      rotate_left
      · (intro w hSw; (try dsimp only at hSw); go_simp; try with_reducible rfl)
      try simp only [Act.put, List.setIfInBounds_toArray, List.set_cons_zero, List.set_cons_succ]
      refine wpAnyH_take (i := 24) (oi := { dst := some 72, op := Op.pick (Operand.tmp 68) (Operand.const (Value.bool true)) (Operand.tmp 71), type := 4, pos := _, after := _, guard := none }) (v := ?_) rfl (by kernel_rfl) (by kernel_rfl) (by kernel_rfl) (fun _ _ _ h => h) (Or.inl ⟨by rfl, ?_⟩) hHeld ?_
      rotate_left
      · (intro w hSw; (try dsimp only at hSw); go_simp; try with_reducible rfl)
      try simp only [Act.put, List.setIfInBounds_toArray, List.set_cons_zero, List.set_cons_succ]
      refine wpAnyH_take (i := 25) (oi := { dst := some 73, op := Op.move (Operand.tmp 72), type := 4, pos := _, after := _, guard := none }) (v := ?_) rfl (by kernel_rfl) (by kernel_rfl) (by kernel_rfl) (fun _ _ _ h => h) (Or.inl ⟨by rfl, ?_⟩) hHeld ?_
      rotate_left
      · (intro w hSw; (try dsimp only at hSw); go_simp; try with_reducible rfl)
      try simp only [Act.put, List.setIfInBounds_toArray, List.set_cons_zero, List.set_cons_succ]
      refine wpAnyH_take (i := 26) (oi := { dst := some 74, op := Op.move (Operand.tmp 5), type := 44, pos := _, after := _, guard := some (25, false) }) (v := ?_) rfl (by kernel_rfl) (by kernel_rfl) (by kernel_rfl) (fun _ _ _ h => h) (Or.inl ⟨by rfl, ?_⟩) hHeld ?_
      rotate_left
      · (intro w hSw; (try dsimp only at hSw); go_simp; try with_reducible rfl)
      try simp only [Act.put, List.setIfInBounds_toArray, List.set_cons_zero, List.set_cons_succ]
      refine wpAnyH_take (i := 27) (oi := { dst := some 75, op := Op.indexAddr 44 (Operand.tmp 74) (Operand.const (Value.int IntKind.i64 0)), type := 0, pos := _, after := _, guard := some (25, false) }) (v := ?_) rfl (by kernel_rfl) (by kernel_rfl) (by kernel_rfl) (fun _ _ _ h => h) (Or.inl ⟨by rfl, ?_⟩) hHeld ?_
      rotate_left
      · (intro w hSw; (try dsimp only at hSw); go_simp; try with_reducible rfl)
      try simp only [Act.put, List.setIfInBounds_toArray, List.set_cons_zero, List.set_cons_succ]
      refine wpAnyH_take (i := 28) (oi := { dst := some 76, op := Op.load 62 (Operand.tmp 75), type := 62, pos := _, after := _, guard := some (25, false) }) (v := ?_) rfl (by kernel_rfl) (by kernel_rfl) (by kernel_rfl) (fun _ _ _ h => h) (Or.inl ⟨by rfl, ?_⟩) hHeld ?_
      rotate_left
      · (intro w hSw; (try dsimp only at hSw); go_simp; try with_reducible rfl)
      try simp only [Act.put, List.setIfInBounds_toArray, List.set_cons_zero, List.set_cons_succ]
      refine wpAnyH_ready (rs := [29]) (by kernel_rfl) (by simp) ?_
      refine AllReadyH.cons (o := { dst := some 77, op := Op.call { callee := Callee.value (Operand.func 49), args := #[], argTypes := #[] }, type := 44, pos := _, after := _, guard := some (25, false) }) rfl (fun K hK => ?_) AllReadyH.nil
      go_simp
      refine (changes_at _).mono ?_
      rintro e wy ⟨rfl, hwy⟩
      have hb12 := hb
      clear hb
      have hb : Below wc.heap.size wc wy := by rw [← hwy]; exact below_more hb12 _
      have c6 : wy.cell? ⟨wv.heap.size, 6, none⟩ = some (.int .i64 7) := by rw [← hwy]; simp [go_sem]
      have c7 : wy.cell? ⟨wv.heap.size, 7, none⟩ = some (.int .i64 9) := by rw [← hwy]; simp [go_sem]
      have c8 : wy.cell? ⟨wv.heap.size, 8, none⟩ = some (.bool true) := by rw [← hwy]; simp [go_sem]
      clear hwy hb12
      go_wp2_with fail
      clear hHeld
      refine hK.out _ _ ?_ (fun hHeld => ?_)
      · exact ⟨(hb.cell (p := ⟨b6, off6, none⟩) hb6s).trans l0, (hb.cell (p := ⟨b6, off6 + 1, none⟩) hb6s).trans l1, (hb.cell (p := ⟨b6, off6 + 2, none⟩) hb6s).trans l2, (hb.cell (p := ⟨w9.heap.size, 0, none⟩) hsc9).trans n0, (hb.cell (p := ⟨w9.heap.size, 1, none⟩) hsc9).trans n1, (hb.cell (p := ⟨w9.heap.size, 2, none⟩) hsc9).trans n2⟩
      clear hK K
      try simp only [Act.put, List.setIfInBounds_toArray, List.set_cons_zero, List.set_cons_succ]
      refine wpAnyH_take (i := 30) (oi := { dst := some 78, op := Op.indexAddr 44 (Operand.tmp 77) (Operand.const (Value.int IntKind.i64 2)), type := 0, pos := _, after := _, guard := some (25, false) }) (v := ?_) rfl (by kernel_rfl) (by kernel_rfl) (by kernel_rfl) (fun _ _ _ h => h) (Or.inl ⟨by rfl, ?_⟩) hHeld ?_
      rotate_left
      · (intro w hSw; (try dsimp only at hSw); go_simp; try with_reducible rfl)
      try simp only [Act.put, List.setIfInBounds_toArray, List.set_cons_zero, List.set_cons_succ]
      refine wpAnyH_ready (rs := [31]) (by kernel_rfl) (by simp) ?_
      refine AllReadyH.cons (o := { dst := some 79, op := Op.load 62 (Operand.tmp 78), type := 62, pos := _, after := _, guard := some (25, false) }) rfl (fun K hK => ?_) AllReadyH.nil
      go_simp
      clear hHeld
      refine hK.out _ _ ?_ (fun hHeld => ?_)
      · exact ⟨(hb.cell (p := ⟨b6, off6, none⟩) hb6s).trans l0, (hb.cell (p := ⟨b6, off6 + 1, none⟩) hb6s).trans l1, (hb.cell (p := ⟨b6, off6 + 2, none⟩) hb6s).trans l2, (hb.cell (p := ⟨w9.heap.size, 0, none⟩) hsc9).trans n0, (hb.cell (p := ⟨w9.heap.size, 1, none⟩) hsc9).trans n1, (hb.cell (p := ⟨w9.heap.size, 2, none⟩) hsc9).trans n2⟩
      clear hK K
      try simp only [Act.put, List.setIfInBounds_toArray, List.set_cons_zero, List.set_cons_succ]
      refine wpAnyH_take (i := 32) (oi := { dst := some 80, op := Op.binOp BinOp.neq 62 (Operand.tmp 76) (Operand.tmp 79) 62, type := 4, pos := _, after := _, guard := some (25, false) }) (v := ?_) rfl (by kernel_rfl) (by kernel_rfl) (by kernel_rfl) (fun _ _ _ h => h) (Or.inl ⟨by rfl, ?_⟩) hHeld ?_
      rotate_left
      · (intro w hSw; (try dsimp only at hSw); go_simp; try with_reducible rfl)
      try simp only [Act.put, List.setIfInBounds_toArray, List.set_cons_zero, List.set_cons_succ]
      refine wpAnyH_take (i := 33) (oi := { dst := some 81, op := Op.pick (Operand.tmp 73) (Operand.const (Value.bool true)) (Operand.tmp 80), type := 4, pos := _, after := _, guard := none }) (v := ?_) rfl (by kernel_rfl) (by kernel_rfl) (by kernel_rfl) (fun _ _ _ h => h) (Or.inl ⟨by rfl, ?_⟩) hHeld ?_
      rotate_left
      · (intro w hSw; (try dsimp only at hSw); go_simp; try with_reducible rfl)
      try simp only [Act.put, List.setIfInBounds_toArray, List.set_cons_zero, List.set_cons_succ]
      refine wpAnyH_take (i := 34) (oi := { dst := some 82, op := Op.move (Operand.tmp 81), type := 4, pos := _, after := _, guard := none }) (v := ?_) rfl (by kernel_rfl) (by kernel_rfl) (by kernel_rfl) (fun _ _ _ h => h) (Or.inl ⟨by rfl, ?_⟩) hHeld ?_
      rotate_left
      · (intro w hSw; (try dsimp only at hSw); go_simp; try with_reducible rfl)
      try simp only [Act.put, List.setIfInBounds_toArray, List.set_cons_zero, List.set_cons_succ]
      refine wpAnyH_take (i := 35) (oi := { dst := some 83, op := Op.move (Operand.tmp 8), type := 26, pos := _, after := _, guard := some (34, false) }) (v := ?_) rfl (by kernel_rfl) (by kernel_rfl) (by kernel_rfl) (fun _ _ _ h => h) (Or.inl ⟨by rfl, ?_⟩) hHeld ?_
      rotate_left
      · (intro w hSw; (try dsimp only at hSw); go_simp; try with_reducible rfl)
      try simp only [Act.put, List.setIfInBounds_toArray, List.set_cons_zero, List.set_cons_succ]
      refine wpAnyH_take (i := 36) (oi := { dst := some 84, op := Op.binOp BinOp.neq 26 (Operand.tmp 83) (Operand.const (Value.int IntKind.i64 0)) 26, type := 4, pos := _, after := _, guard := some (34, false) }) (v := ?_) rfl (by kernel_rfl) (by kernel_rfl) (by kernel_rfl) (fun _ _ _ h => h) (Or.inl ⟨by rfl, ?_⟩) hHeld ?_
      rotate_left
      · (intro w hSw; (try dsimp only at hSw); go_simp; try with_reducible rfl)
      try simp only [Act.put, List.setIfInBounds_toArray, List.set_cons_zero, List.set_cons_succ]
      refine wpAnyH_take (i := 37) (oi := { dst := some 85, op := Op.pick (Operand.tmp 82) (Operand.const (Value.bool true)) (Operand.tmp 84), type := 4, pos := _, after := _, guard := none }) (v := ?_) rfl (by kernel_rfl) (by kernel_rfl) (by kernel_rfl) (fun _ _ _ h => h) (Or.inl ⟨by rfl, ?_⟩) hHeld ?_
      rotate_left
      · (intro w hSw; (try dsimp only at hSw); go_simp; try with_reducible rfl)
      try simp only [Act.put, List.setIfInBounds_toArray, List.set_cons_zero, List.set_cons_succ]
      refine wpAnyH_take (i := 38) (oi := { dst := some 86, op := Op.move (Operand.tmp 85), type := 4, pos := _, after := _, guard := none }) (v := ?_) rfl (by kernel_rfl) (by kernel_rfl) (by kernel_rfl) (fun _ _ _ h => h) (Or.inl ⟨by rfl, ?_⟩) hHeld ?_
      rotate_left
      · (intro w hSw; (try dsimp only at hSw); go_simp; try with_reducible rfl)
      try simp only [Act.put, List.setIfInBounds_toArray, List.set_cons_zero, List.set_cons_succ]
      refine wpAnyH_take (i := 39) (oi := { dst := some 87, op := Op.move (Operand.tmp 7), type := 44, pos := _, after := _, guard := some (38, false) }) (v := ?_) rfl (by kernel_rfl) (by kernel_rfl) (by kernel_rfl) (fun _ _ _ h => h) (Or.inl ⟨by rfl, ?_⟩) hHeld ?_
      rotate_left
      · (intro w hSw; (try dsimp only at hSw); go_simp; try with_reducible rfl)
      try simp only [Act.put, List.setIfInBounds_toArray, List.set_cons_zero, List.set_cons_succ]
      refine wpAnyH_take (i := 40) (oi := { dst := some 88, op := Op.call { callee := Callee.builtin Builtin.len, args := #[Operand.tmp 87], argTypes := #[44] }, type := 3, pos := _, after := _, guard := some (38, false) }) (v := ?_) rfl (by kernel_rfl) (by kernel_rfl) (by kernel_rfl) (fun _ _ _ h => h) (Or.inl ⟨by rfl, ?_⟩) hHeld ?_
      rotate_left
      · (intro w hSw; (try dsimp only at hSw); go_simp; try with_reducible rfl)
      try simp only [Act.put, List.setIfInBounds_toArray, List.set_cons_zero, List.set_cons_succ]
      refine wpAnyH_take (i := 41) (oi := { dst := some 89, op := Op.binOp BinOp.neq 3 (Operand.tmp 88) (Operand.const (Value.int IntKind.i64 2)) 3, type := 4, pos := _, after := _, guard := some (38, false) }) (v := ?_) rfl (by kernel_rfl) (by kernel_rfl) (by kernel_rfl) (fun _ _ _ h => h) (Or.inl ⟨by rfl, ?_⟩) hHeld ?_
      rotate_left
      · (intro w hSw; (try dsimp only at hSw); go_simp; try with_reducible rfl)
      try simp only [Act.put, List.setIfInBounds_toArray, List.set_cons_zero, List.set_cons_succ]
      refine wpAnyH_take (i := 42) (oi := { dst := some 90, op := Op.pick (Operand.tmp 86) (Operand.const (Value.bool true)) (Operand.tmp 89), type := 4, pos := _, after := _, guard := none }) (v := ?_) rfl (by kernel_rfl) (by kernel_rfl) (by kernel_rfl) (fun _ _ _ h => h) (Or.inl ⟨by rfl, ?_⟩) hHeld ?_
      rotate_left
      · (intro w hSw; (try dsimp only at hSw); go_simp; try with_reducible rfl)
      try simp only [Act.put, List.setIfInBounds_toArray, List.set_cons_zero, List.set_cons_succ]
      refine wpAnyH_take (i := 43) (oi := { dst := some 91, op := Op.move (Operand.tmp 90), type := 4, pos := _, after := _, guard := none }) (v := ?_) rfl (by kernel_rfl) (by kernel_rfl) (by kernel_rfl) (fun _ _ _ h => h) (Or.inl ⟨by rfl, ?_⟩) hHeld ?_
      rotate_left
      · (intro w hSw; (try dsimp only at hSw); go_simp; try with_reducible rfl)
      try simp only [Act.put, List.setIfInBounds_toArray, List.set_cons_zero, List.set_cons_succ]
      refine wpAnyH_take (i := 44) (oi := { dst := some 92, op := Op.move (Operand.tmp 10), type := 26, pos := _, after := _, guard := some (43, false) }) (v := ?_) rfl (by kernel_rfl) (by kernel_rfl) (by kernel_rfl) (fun _ _ _ h => h) (Or.inl ⟨by rfl, ?_⟩) hHeld ?_
      rotate_left
      · (intro w hSw; (try dsimp only at hSw); go_simp; try with_reducible rfl)
      try simp only [Act.put, List.setIfInBounds_toArray, List.set_cons_zero, List.set_cons_succ]
      refine wpAnyH_take (i := 45) (oi := { dst := some 93, op := Op.binOp BinOp.neq 26 (Operand.tmp 92) (Operand.const (Value.int IntKind.i64 0)) 26, type := 4, pos := _, after := _, guard := some (43, false) }) (v := ?_) rfl (by kernel_rfl) (by kernel_rfl) (by kernel_rfl) (fun _ _ _ h => h) (Or.inl ⟨by rfl, ?_⟩) hHeld ?_
      rotate_left
      · (intro w hSw; (try dsimp only at hSw); go_simp; try with_reducible rfl)
      try simp only [Act.put, List.setIfInBounds_toArray, List.set_cons_zero, List.set_cons_succ]
      refine wpAnyH_take (i := 46) (oi := { dst := some 94, op := Op.pick (Operand.tmp 91) (Operand.const (Value.bool true)) (Operand.tmp 93), type := 4, pos := _, after := _, guard := none }) (v := ?_) rfl (by kernel_rfl) (by kernel_rfl) (by kernel_rfl) (fun _ _ _ h => h) (Or.inl ⟨by rfl, ?_⟩) hHeld ?_
      rotate_left
      · (intro w hSw; (try dsimp only at hSw); go_simp; try with_reducible rfl)
      try simp only [Act.put, List.setIfInBounds_toArray, List.set_cons_zero, List.set_cons_succ]
      refine wpAnyH_take (i := 47) (oi := { dst := some 95, op := Op.move (Operand.tmp 94), type := 4, pos := _, after := _, guard := none }) (v := ?_) rfl (by kernel_rfl) (by kernel_rfl) (by kernel_rfl) (fun _ _ _ h => h) (Or.inl ⟨by rfl, ?_⟩) hHeld ?_
      rotate_left
      · (intro w hSw; (try dsimp only at hSw); go_simp; try with_reducible rfl)
      try simp only [Act.put, List.setIfInBounds_toArray, List.set_cons_zero, List.set_cons_succ]
      refine wpAnyH_take (i := 48) (oi := { dst := some 96, op := Op.fieldAddr 65 (Operand.tmp 9) 2, type := 0, pos := _, after := _, guard := some (47, false) }) (v := ?_) rfl (by kernel_rfl) (by kernel_rfl) (by kernel_rfl) (fun _ _ _ h => h) (Or.inl ⟨by rfl, ?_⟩) hHeld ?_
      rotate_left
      · (intro w hSw; (try dsimp only at hSw); go_simp; try with_reducible rfl)
      try simp only [Act.put, List.setIfInBounds_toArray, List.set_cons_zero, List.set_cons_succ]
      refine wpAnyH_take (i := 49) (oi := { dst := some 97, op := Op.load 43 (Operand.tmp 96), type := 43, pos := _, after := _, guard := some (47, false) }) (v := ?_) rfl (by kernel_rfl) (by kernel_rfl) (by kernel_rfl) (fun _ _ _ h => h) (Or.inl ⟨by rfl, ?_⟩) hHeld ?_
      rotate_left
      · (intro w hSw; (try dsimp only at hSw); go_simp; try with_reducible rfl)
      try simp only [Act.put, List.setIfInBounds_toArray, List.set_cons_zero, List.set_cons_succ]
      refine wpAnyH_take (i := 50) (oi := { dst := some 98, op := Op.binOp BinOp.neq 43 (Operand.tmp 97) (Operand.const (Value.int IntKind.u64 512)) 43, type := 4, pos := _, after := _, guard := some (47, false) }) (v := ?_) rfl (by kernel_rfl) (by kernel_rfl) (by kernel_rfl) (fun _ _ _ h => h) (Or.inl ⟨by rfl, ?_⟩) hHeld ?_
      rotate_left
      · (intro w hSw; (try dsimp only at hSw); go_simp; try with_reducible rfl)
      try simp only [Act.put, List.setIfInBounds_toArray, List.set_cons_zero, List.set_cons_succ]
      refine wpAnyH_take (i := 51) (oi := { dst := some 99, op := Op.pick (Operand.tmp 95) (Operand.const (Value.bool true)) (Operand.tmp 98), type := 4, pos := _, after := _, guard := none }) (v := ?_) rfl (by kernel_rfl) (by kernel_rfl) (by kernel_rfl) (fun _ _ _ h => h) (Or.inl ⟨by rfl, ?_⟩) hHeld ?_
      rotate_left
      · (intro w hSw; (try dsimp only at hSw); go_simp; try with_reducible rfl)
      try simp only [Act.put, List.setIfInBounds_toArray, List.set_cons_zero, List.set_cons_succ]
      refine wpAnyH_take (i := 52) (oi := { dst := some 100, op := Op.move (Operand.tmp 99), type := 4, pos := _, after := _, guard := none }) (v := ?_) rfl (by kernel_rfl) (by kernel_rfl) (by kernel_rfl) (fun _ _ _ h => h) (Or.inl ⟨by rfl, ?_⟩) hHeld ?_
      rotate_left
      · (intro w hSw; (try dsimp only at hSw); go_simp; try with_reducible rfl)
      try simp only [Act.put, List.setIfInBounds_toArray, List.set_cons_zero, List.set_cons_succ]
      refine wpAnyH_take (i := 53) (oi := { dst := some 101, op := Op.fieldAddr 65 (Operand.tmp 9) 0, type := 0, pos := _, after := _, guard := some (52, false) }) (v := ?_) rfl (by kernel_rfl) (by kernel_rfl) (by kernel_rfl) (fun _ _ _ h => h) (Or.inl ⟨by rfl, ?_⟩) hHeld ?_
      rotate_left
      · (intro w hSw; (try dsimp only at hSw); go_simp; try with_reducible rfl)
      try simp only [Act.put, List.setIfInBounds_toArray, List.set_cons_zero, List.set_cons_succ]
      refine wpAnyH_take (i := 54) (oi := { dst := some 102, op := Op.load 3 (Operand.tmp 101), type := 3, pos := _, after := _, guard := some (52, false) }) (v := ?_) rfl (by kernel_rfl) (by kernel_rfl) (by kernel_rfl) (fun _ _ _ h => h) (Or.inl ⟨by rfl, ?_⟩) hHeld ?_
      rotate_left
      · (intro w hSw; (try dsimp only at hSw); go_simp; try with_reducible rfl)
      try simp only [Act.put, List.setIfInBounds_toArray, List.set_cons_zero, List.set_cons_succ]
      refine wpAnyH_take (i := 55) (oi := { dst := some 103, op := Op.binOp BinOp.neq 3 (Operand.tmp 102) (Operand.const (Value.int IntKind.i64 7)) 3, type := 4, pos := _, after := _, guard := some (52, false) }) (v := ?_) rfl (by kernel_rfl) (by kernel_rfl) (by kernel_rfl) (fun _ _ _ h => h) (Or.inl ⟨by rfl, ?_⟩) hHeld ?_
      rotate_left
      · (intro w hSw; (try dsimp only at hSw); go_simp; try with_reducible rfl)
      try simp only [Act.put, List.setIfInBounds_toArray, List.set_cons_zero, List.set_cons_succ]
      refine wpAnyH_take (i := 56) (oi := { dst := some 104, op := Op.pick (Operand.tmp 100) (Operand.const (Value.bool true)) (Operand.tmp 103), type := 4, pos := _, after := _, guard := none }) (v := ?_) rfl (by kernel_rfl) (by kernel_rfl) (by kernel_rfl) (fun _ _ _ h => h) (Or.inl ⟨by rfl, ?_⟩) hHeld ?_
      rotate_left
      · (intro w hSw; (try dsimp only at hSw); go_simp; try with_reducible rfl)
      try simp only [Act.put, List.setIfInBounds_toArray, List.set_cons_zero, List.set_cons_succ]
      refine wpAnyH_take (i := 57) (oi := { dst := some 105, op := Op.move (Operand.tmp 104), type := 4, pos := _, after := _, guard := none }) (v := ?_) rfl (by kernel_rfl) (by kernel_rfl) (by kernel_rfl) (fun _ _ _ h => h) (Or.inl ⟨by rfl, ?_⟩) hHeld ?_
      rotate_left
      · (intro w hSw; (try dsimp only at hSw); go_simp; try with_reducible rfl)
      try simp only [Act.put, List.setIfInBounds_toArray, List.set_cons_zero, List.set_cons_succ]
      refine wpAnyH_take (i := 58) (oi := { dst := some 106, op := Op.fieldAddr 65 (Operand.tmp 9) 1, type := 0, pos := _, after := _, guard := some (57, false) }) (v := ?_) rfl (by kernel_rfl) (by kernel_rfl) (by kernel_rfl) (fun _ _ _ h => h) (Or.inl ⟨by rfl, ?_⟩) hHeld ?_
      rotate_left
      · (intro w hSw; (try dsimp only at hSw); go_simp; try with_reducible rfl)
      try simp only [Act.put, List.setIfInBounds_toArray, List.set_cons_zero, List.set_cons_succ]
      refine wpAnyH_take (i := 59) (oi := { dst := some 107, op := Op.load 3 (Operand.tmp 106), type := 3, pos := _, after := _, guard := some (57, false) }) (v := ?_) rfl (by kernel_rfl) (by kernel_rfl) (by kernel_rfl) (fun _ _ _ h => h) (Or.inl ⟨by rfl, ?_⟩) hHeld ?_
      rotate_left
      · (intro w hSw; (try dsimp only at hSw); go_simp; try with_reducible rfl)
      try simp only [Act.put, List.setIfInBounds_toArray, List.set_cons_zero, List.set_cons_succ]
      refine wpAnyH_take (i := 60) (oi := { dst := some 108, op := Op.binOp BinOp.neq 3 (Operand.tmp 107) (Operand.const (Value.int IntKind.i64 10)) 3, type := 4, pos := _, after := _, guard := some (57, false) }) (v := ?_) rfl (by kernel_rfl) (by kernel_rfl) (by kernel_rfl) (fun _ _ _ h => h) (Or.inl ⟨by rfl, ?_⟩) hHeld ?_
      rotate_left
      · (intro w hSw; (try dsimp only at hSw); go_simp; try with_reducible rfl)
      try simp only [Act.put, List.setIfInBounds_toArray, List.set_cons_zero, List.set_cons_succ]
      refine wpAnyH_take (i := 61) (oi := { dst := some 109, op := Op.pick (Operand.tmp 105) (Operand.const (Value.bool true)) (Operand.tmp 108), type := 4, pos := _, after := _, guard := none }) (v := ?_) rfl (by kernel_rfl) (by kernel_rfl) (by kernel_rfl) (fun _ _ _ h => h) (Or.inl ⟨by rfl, ?_⟩) hHeld ?_
      rotate_left
      · (intro w hSw; (try dsimp only at hSw); go_simp; try with_reducible rfl)
      try simp only [Act.put, List.setIfInBounds_toArray, List.set_cons_zero, List.set_cons_succ]
      refine wpAnyH_take (i := 62) (oi := { dst := some 110, op := Op.move (Operand.tmp 109), type := 4, pos := _, after := _, guard := none }) (v := ?_) rfl (by kernel_rfl) (by kernel_rfl) (by kernel_rfl) (fun _ _ _ h => h) (Or.inl ⟨by rfl, ?_⟩) hHeld ?_
      rotate_left
      · (intro w hSw; (try dsimp only at hSw); go_simp; try with_reducible rfl)
      try simp only [Act.put, List.setIfInBounds_toArray, List.set_cons_zero, List.set_cons_succ]
      refine wpAnyH_take (i := 63) (oi := { dst := some 111, op := Op.move (Operand.tmp 12), type := 26, pos := _, after := _, guard := some (62, false) }) (v := ?_) rfl (by kernel_rfl) (by kernel_rfl) (by kernel_rfl) (fun _ _ _ h => h) (Or.inl ⟨by rfl, ?_⟩) hHeld ?_
      rotate_left
      · (intro w hSw; (try dsimp only at hSw); go_simp; try with_reducible rfl)
      try simp only [Act.put, List.setIfInBounds_toArray, List.set_cons_zero, List.set_cons_succ]
      refine wpAnyH_take (i := 64) (oi := { dst := some 112, op := Op.binOp BinOp.neq 26 (Operand.tmp 111) (Operand.const (Value.int IntKind.i64 101)) 26, type := 4, pos := _, after := _, guard := some (62, false) }) (v := ?_) rfl (by kernel_rfl) (by kernel_rfl) (by kernel_rfl) (fun _ _ _ h => h) (Or.inl ⟨by rfl, ?_⟩) hHeld ?_
      rotate_left
      · (intro w hSw; (try dsimp only at hSw); go_simp; try with_reducible rfl)
      try simp only [Act.put, List.setIfInBounds_toArray, List.set_cons_zero, List.set_cons_succ]
      refine wpAnyH_take (i := 65) (oi := { dst := some 113, op := Op.pick (Operand.tmp 110) (Operand.const (Value.bool true)) (Operand.tmp 112), type := 4, pos := _, after := _, guard := none }) (v := ?_) rfl (by kernel_rfl) (by kernel_rfl) (by kernel_rfl) (fun _ _ _ h => h) (Or.inl ⟨by rfl, ?_⟩) hHeld ?_
      rotate_left
      · (intro w hSw; (try dsimp only at hSw); go_simp; try with_reducible rfl)
      try simp only [Act.put, List.setIfInBounds_toArray, List.set_cons_zero, List.set_cons_succ]
      refine wpAnyH_done (by kernel_rfl) ?_ _
      all_goals
        go_wp2_with fail
        go_meet
        exact ⟨rfl, hb⟩
    case rest =>
      obtain ⟨rfl, hcb⟩ := hcut
      replace HB := Lib.hid (below_step HB.out hcb.out)
      replace HK := Lib.hid (HK.out.ext hcb.out)
      clear hcb HL HN9 l0 l1 l2 n0 n1 n2 n3 nf hsc9 hsc2 hb6s
      obtain ⟨p0, p1, p2, p3, pf⟩ := HK.out.c4
      go_wp2_with fail
      refine (decide_any 6 10 8#64 q 78 3 16 _).mono ?_
      rintro e w20 ⟨rfl, hb⟩
      rw [E4.out]
      replace HB := Lib.hid (below_step HB.out hb)
      replace HK := Lib.hid (HK.out.ext hb)
      clear hb p0 p1 p2 p3 pf
      obtain ⟨p0, p1, p2, p3, pf⟩ := HK.out.c4
      go_wp2_with fail
      refine (decide_any 6 10 8#64 q 77 64 16 _).mono ?_
      rintro e w21 ⟨rfl, hb⟩
      rw [E5.out]
      replace HB := Lib.hid (below_step HB.out hb)
      replace HK := Lib.hid (HK.out.ext hb)
      clear hb p0 p1 p2 p3 pf
      obtain ⟨p0, p1, p2, p3, pf⟩ := HK.out.c4
      go_wp2_with fail
      refine (decide_any 6 10 8#64 q 77 3 5 _).mono ?_
      rintro e w22 ⟨rfl, hb⟩
      rw [E6.out]
      replace HB := Lib.hid (below_step HB.out hb)
      clear hb p0 p1 p2 p3 pf HK
      go_wp2_with fail
      refine (newQueue_any 9 _).mono ?_
      rintro e w23 ⟨rfl, hb⟩
      rw [exNew]
      replace HB := Lib.hid (below_step HB.out hb)
      clear hb
      go_wp2_with fail
      refine (call_any 0 0 none [] 0 0 _ (Rd.nil _ _) rfl (by omega) (Nat.le_refl _)).mono ?_
      rintro e w24 ⟨A24, c24, he, how, hb⟩
      rw [exCall] at he
      simp only [List.length_nil] at he
      subst he
      replace HB := Lib.hid (below_step HB.out hb)
      clear hb how
      go_wp2_with fail
      refine (list_any _ exL _ _ _ _ (ow_new w24 _ 62 _ rfl 0 (Nat.zero_le _)).rd rfl (by decide)).mono ?_
      rintro e w25 ⟨rfl, hb⟩
      rw [exList]
      replace HB := Lib.hid (below_step HB.out (below_step (below_alloc _ _) hb))
      clear hb
      go_wp2_with fail
      refine (list_any _ [] _ _ _ _ (Rd.nil _ _) rfl (by decide)).mono ?_
      rintro e w26 ⟨rfl, hb⟩
      rw [exList2]
      replace HB := Lib.hid (below_step HB.out hb)
      clear hb
      go_wp2_with fail
      refine (checkQueue_any 9 0 none [] 0 0 _ (Rd.nil _ _) rfl (by omega)).mono ?_
      rintro e w27 ⟨rfl, hb⟩
      rw [exChk]
      simp only [errB, Bool.false_eq_true, if_false]
      replace HB := Lib.hid (below_step HB.out hb)
      clear hb
      go_wp2_with fail
      rw [mk61 w27]
      have hrd := ow_new w27 (flat cenc exZ).toArray 62 _ rfl 0 (Nat.zero_le _)
      have HRZ : Hid (Rd (w27.alloc (.cells (flat cenc exZ).toArray 62)) (some ⟨w27.heap.size, 0, none⟩) (flat cenc exZ)) := hrd.rd
      replace HB := Lib.hid (below_more HB.out (.cells (flat cenc exZ).toArray 62))
      clear hrd
      generalize w27.alloc (.cells (flat cenc exZ).toArray 62) = Wz at *
      go_wp2_with fail
      refine (checkChanges_any _ exZ _ _ _ HRZ.out rfl (by decide)).mono ?_
      rintro e w28 ⟨rfl, hb⟩
      rw [exZchk]
      simp only [errB, Bool.false_eq_true, if_false]
      go_wp2
      go_ret
      exact ⟨rfl, below_step HB.out hb⟩
end Go.Proofs.Ytalmeokljamhdaa
