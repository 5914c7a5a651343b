/- Ridge: Parts of the program and of the reference, and Twin. No condition. -/
import Derived.Test.YtjelnbfnoliocaaPm
import Derived.Test.YtjelnbfnoliocaaBc
import Derived.Test.YtjelnbfnoliocaaBf
namespace Go.Proofs.Ytjelnbfnoliocaa
open Go.RowKit

def cxr (W : Int) (i : Nat) : Int := ((i % (W + 2).toNat : Nat) : Int)
def cyr (W : Int) (i : Nat) : Int := ((i / (W + 2).toNat : Nat) : Int)
/-- The places of the padded picture that have a colour. -/
def KPr (W H : Int) (l : List Bool) (black : Bool) (i : Nat) : Prop := (i : Int) < (W + 2) * (H + 2) ∧ isF W H l (cxr W i - 1) (cyr W i - 1) = black
def APr (W : Int) (diag : Bool) (i j : Nat) : Prop := ∃ d, d < 8 ∧ (!diag || decide (d % 2 = 0)) = true ∧ cxr W j = cxr W i + dx d ∧ cyr W j = cyr W i + dy d
/-- How many parts of a colour there are. -/
noncomputable def compsF (W H : Int) (l : List Bool) (black diag : Bool) : Nat := comps (KPr W H l black) (APr W diag) ((W + 2) * (H + 2)).toNat
theorem compsF_le (W H : Int) (l : List Bool) (black diag : Bool) (hW : 1 ≤ W ∧ W ≤ 20) (hH : 1 ≤ H ∧ H ≤ 20) : compsF W H l black diag ≤ 484 := by
  have h := upToN_le (K := KPr W H l black) (A := APr W diag) ((W + 2) * (H + 2)).toNat
  have hN1 : (W + 2) * (H + 2) ≤ 22 * 22 := Int.mul_le_mul (by omega) (by omega) (by omega) (by omega)
  rw [upToN_all] at h
  unfold compsF
  omega
theorem parts_of (W H : Int) (A : Option Addr) (l : List Bool) (n c : Nat) (black diag : Bool) (w : World) (ok : sized1B W H n = true) (hr : Rd w A (bools l)) (hn : n = l.length) :
    Calls Try.prog 60 #[.agg #[.int .i64 W, .int .i64 H, .slice A n c], .bool black, .bool diag] w fun e w' => e = .returned (.int .i64 (compsF W H l black diag : Nat)) ∧ Below w.heap.size w w' :=
  parts_any ⟨W, H, l, A, n, c, black, diag, ok, hn⟩ w hr
theorem refParts_of (W H D : Int) (A : Option Addr) (l : List Bool) (n c : Nat) (black diag : Bool) (w : World) (ok : sized1B W H n = true) (hr : Rd w A (bools l)) (hn : n = l.length) (hD : D = if diag then 2 else 1) :
    Calls Try.prog 82 #[.agg #[.int .i64 W, .int .i64 H, .slice A n c], .bool black, .int .i64 D] w fun e w' => e = .returned (.int .i64 (compsF W H l black diag : Nat)) ∧ Below w.heap.size w w' := by
  subst hD
  cases diag
  · exact refParts_any ⟨W, H, l, A, n, c, black, false, ok, hn⟩ 1 (.inl ⟨rfl, rfl⟩) w hr
  · exact refParts_any ⟨W, H, l, A, n, c, black, true, ok, hn⟩ 2 (.inr ⟨rfl, rfl⟩) w hr
/-- The number of ridges, the number of lakes. -/
noncomputable def ridgesF (W H : Int) (l : List Bool) : Int := compsF W H l true false
noncomputable def lakesF (W H : Int) (l : List Bool) : Int := compsF W H l false true - 1
theorem ret3_int {a b c a' b' c' : Int} (h : a = a') (k : b = b') (m : c = c') : Ending.returned (.tuple #[.int .i64 a, .int .i64 b, .int .i64 c]) = Ending.returned (.tuple #[.int .i64 a', .int .i64 b', .int .i64 c']) := by rw [h, k, m]
set_option maxRecDepth 100000 in
set_option maxHeartbeats 1000000 in
theorem parts_ok (W H : Int) (A : Option Addr) (l : List Bool) (n c : Nat) (w : World) (ok : sized1B W H n = true) (hr : Rd w A (bools l)) (hn : n = l.length) :
    Calls Try.prog 29 #[.agg #[.int .i64 W, .int .i64 H, .slice A n c]] w fun e w' => e = .returned (.tuple #[.int .i64 (ridgesF W H l), .int .i64 (lakesF W H l), .int .i64 0]) ∧ Below w.heap.size w w' := by
  obtain ⟨hW, hH, _⟩ := valid_bd ok
  have k1 := compsF_le W H l true false hW hH
  have k2 := compsF_le W H l false true hW hH
  have HC1 := Lib.hid (fun W1 (h : Below w.heap.size w W1) => parts_of W H A l n c true false W1 ok (hr.below h) hn)
  have HC2 := Lib.hid (fun W1 (h : Below w.heap.size w W1) => parts_of W H A l n c false true W1 ok (hr.below h) hn)
  have HCk := Lib.hid (fun W1 => (show Calls Try.prog 31 #[.agg #[.int .i64 W, .int .i64 H, .slice A n c]] W1 fun e w' => e = .returned (.int .i64 0) ∧ Below W1.heap.size W1 w' by have := check_any W H A n c W1; rw [ok] at this; exact this))
  have HR := Lib.hid (show ridgesF W H l = compsF W H l true false ∧ lakesF W H l = compsF W H l false true - 1 from ⟨rfl, rfl⟩)
  generalize compsF W H l true false = r at *
  generalize compsF W H l false true = s at *
  have S0 := Lib.hid ((Own.start w).new 34 #[.int .i64 W, .int .i64 H, .slice A n c])
  obtain ⟨t0, t1, t2, _⟩ := (S0.out.bx 0 rfl).c3
  have e1 : IntKind.i64.wrap ((s : Int) - 1) = (s : Int) - 1 := IntWalk.i64_in _ (by omega)
  clear ok hr hn
  go_enter Try.func29, Try.ntmps29
  go_wp2_with fail
  refine (HCk.out _).mono ?_
  rintro e w1 ⟨rfl, hb⟩
  have S1 := Lib.hid (S0.out.ext hb)
  clear t0 t1 t2 hb
  go_wp2_with fail
  have c0 := fun x : OwnOf w [box w.heap.size 34 [.int .i64 W, .int .i64 H, .slice A n c]] => (x.bx 0 rfl).1 0 _ rfl
  have c1 := fun x : OwnOf w [box w.heap.size 34 [.int .i64 W, .int .i64 H, .slice A n c]] => (x.bx 0 rfl).1 1 _ rfl
  have c2 := fun x : OwnOf w [box w.heap.size 34 [.int .i64 W, .int .i64 H, .slice A n c]] => (x.bx 0 rfl).1 2 _ rfl
  have hne : Nonempty (OwnOf w [box w.heap.size 34 [.int .i64 W, .int .i64 H, .slice A n c]]) := ⟨⟨w1, S1.out⟩⟩
  refine wp_region_own S1.out (by kernel_rfl) (by kernel_rfl) ?_
  go_big_quiet_step (fail)
  go_big_quiet_step ((go_at_call 60; exact own_of (HC1.out _ (OwnOf.own _).bel)))
  go_big_quiet_step (fail)
  go_big_quiet_step ((go_at_call 60; exact own_of (HC2.out _ (OwnOf.own _).bel)))
  iterate 4 (go_big_quiet_step (fail))
  refine wpQuiet_nil ?_
  rintro w3 ⟨z, hz⟩
  have S3 := Lib.hid (show Below w.heap.size w w3 by rw [hz]; exact z.own.bel)
  clear hz z hne c0 c1 c2
  go_wp2_with fail
  go_ret3
  exact ⟨ret3_int (by rw [HR.out.1]) (by rw [HR.out.2]) rfl, S3.out⟩
theorem parts_no (W H : Int) (A : Option Addr) (n c : Nat) (w : World) (ok : sized1B W H n = false) :
    Calls Try.prog 29 #[.agg #[.int .i64 W, .int .i64 H, .slice A n c]] w fun e w' => e = .returned (.tuple #[.int .i64 0, .int .i64 0, .int .i64 10]) ∧ Below w.heap.size w w' := by
  have HCk := Lib.hid (fun W1 => (show Calls Try.prog 31 #[.agg #[.int .i64 W, .int .i64 H, .slice A n c]] W1 fun e w' => e = .returned (.int .i64 10) ∧ Below W1.heap.size W1 w' by have := check_any W H A n c W1; rw [ok] at this; exact this))
  have S0 := Lib.hid ((Own.start w).new 34 #[.int .i64 W, .int .i64 H, .slice A n c])
  obtain ⟨t0, t1, t2, _⟩ := (S0.out.bx 0 rfl).c3
  clear ok
  go_enter Try.func29, Try.ntmps29
  go_wp2_with fail
  refine (HCk.out _).mono ?_
  rintro e w1 ⟨rfl, hb⟩
  have S1 := Lib.hid (S0.out.ext hb)
  clear t0 t1 t2 hb
  go_wp2_with fail
  go_ret3
  exact ⟨rfl, S1.out.bel⟩
set_option maxRecDepth 100000 in
set_option maxHeartbeats 1000000 in
theorem counted_any (W H : Int) (A : Option Addr) (l : List Bool) (n c : Nat) (w : World) (ok : sized1B W H n = true) (hr : Rd w A (bools l)) (hn : n = l.length) :
    Calls Try.prog 61 #[.agg #[.int .i64 W, .int .i64 H, .slice A n c]] w fun e w' => e = .returned (.tuple #[.int .i64 (ridgesF W H l), .int .i64 (lakesF W H l)]) ∧ Below w.heap.size w w' := by
  obtain ⟨hW, hH, _⟩ := valid_bd ok
  have k1 := compsF_le W H l true false hW hH
  have k2 := compsF_le W H l false true hW hH
  have HC1 := Lib.hid (fun W1 (h : Below w.heap.size w W1) => refParts_of W H 1 A l n c true false W1 ok (hr.below h) hn rfl)
  have HC2 := Lib.hid (fun W1 (h : Below w.heap.size w W1) => refParts_of W H 2 A l n c false true W1 ok (hr.below h) hn rfl)
  have HR := Lib.hid (show ridgesF W H l = compsF W H l true false ∧ lakesF W H l = compsF W H l false true - 1 from ⟨rfl, rfl⟩)
  generalize compsF W H l true false = r at *
  generalize compsF W H l false true = s at *
  have S0 := Lib.hid ((Own.start w).new 34 #[.int .i64 W, .int .i64 H, .slice A n c])
  have e1 : IntKind.i64.wrap ((s : Int) - 1) = (s : Int) - 1 := IntWalk.i64_in _ (by omega)
  clear ok hr hn
  go_enter Try.func61, Try.ntmps61
  go_wp2_with fail
  have c0 := fun x : OwnOf w [box w.heap.size 34 [.int .i64 W, .int .i64 H, .slice A n c]] => (x.bx 0 rfl).1 0 _ rfl
  have c1 := fun x : OwnOf w [box w.heap.size 34 [.int .i64 W, .int .i64 H, .slice A n c]] => (x.bx 0 rfl).1 1 _ rfl
  have c2 := fun x : OwnOf w [box w.heap.size 34 [.int .i64 W, .int .i64 H, .slice A n c]] => (x.bx 0 rfl).1 2 _ rfl
  have hne : Nonempty (OwnOf w [box w.heap.size 34 [.int .i64 W, .int .i64 H, .slice A n c]]) := ⟨⟨_, S0.out⟩⟩
  refine wp_region_own S0.out (by kernel_rfl) (by kernel_rfl) ?_
  go_big_quiet_step (fail)
  go_big_quiet_step ((go_at_call 82; exact own_of (HC1.out _ (OwnOf.own _).bel)))
  go_big_quiet_step (fail)
  go_big_quiet_step ((go_at_call 82; exact own_of (HC2.out _ (OwnOf.own _).bel)))
  iterate 3 (go_big_quiet_step (fail))
  refine wpQuiet_nil ?_
  rintro w3 ⟨z, hz⟩
  have S3 := Lib.hid (show Below w.heap.size w w3 by rw [hz]; exact z.own.bel)
  clear hz z hne c0 c1 c2
  go_wp2_with fail
  go_ret2
  exact ⟨ret2_int (by rw [HR.out.1]) (by rw [HR.out.2]), S3.out⟩
theorem refParts_ok (W H : Int) (A : Option Addr) (l : List Bool) (n c : Nat) (w : World) (ok : sized1B W H n = true) (hr : Rd w A (bools l)) (hn : n = l.length) :
    Calls Try.prog 30 #[.agg #[.int .i64 W, .int .i64 H, .slice A n c]] w fun e w' => e = .returned (.tuple #[.int .i64 (ridgesF W H l), .int .i64 (lakesF W H l), .int .i64 0]) ∧ Below w.heap.size w w' := by
  have HC1 := Lib.hid (fun W1 (h : Below w.heap.size w W1) => counted_any W H A l n c W1 ok (hr.below h) hn)
  have HCk := Lib.hid (fun W1 => (show Calls Try.prog 44 #[.agg #[.int .i64 W, .int .i64 H, .slice A n c]] W1 fun e w' => e = .returned (.bool true) ∧ Below W1.heap.size W1 w' by have := valid_any W H A n c W1; rw [ok] at this; exact this))
  generalize ridgesF W H l = r at *
  generalize lakesF W H l = s at *
  have S0 := Lib.hid ((Own.start w).new 34 #[.int .i64 W, .int .i64 H, .slice A n c])
  clear ok hr hn
  go_enter Try.func30, Try.ntmps30
  go_wp2_with fail
  refine (HCk.out _).mono ?_
  rintro e w1 ⟨rfl, hb⟩
  have S1 := Lib.hid (S0.out.ext hb)
  obtain ⟨t0, t1, t2, _⟩ := (S1.out.bx 0 rfl).c3
  have hl := (S1.out.bx 0 rfl).2.2
  clear hb
  go_wp2_with fail
  refine (HC1.out _ S1.out.bel).mono ?_
  rintro e w2 ⟨rfl, hb⟩
  have S2 := Lib.hid (S1.out.ext hb)
  clear t0 t1 t2 hb hl
  go_wp2_with fail
  go_ret3
  exact ⟨rfl, S2.out.bel⟩
theorem refParts_no (W H : Int) (A : Option Addr) (n c : Nat) (w : World) (ok : sized1B W H n = false) :
    Calls Try.prog 30 #[.agg #[.int .i64 W, .int .i64 H, .slice A n c]] w fun e w' => e = .returned (.tuple #[.int .i64 0, .int .i64 0, .int .i64 10]) ∧ Below w.heap.size w w' := by
  have HCk := Lib.hid (fun W1 => (show Calls Try.prog 44 #[.agg #[.int .i64 W, .int .i64 H, .slice A n c]] W1 fun e w' => e = .returned (.bool false) ∧ Below W1.heap.size W1 w' by have := valid_any W H A n c W1; rw [ok] at this; exact this))
  have S0 := Lib.hid ((Own.start w).new 34 #[.int .i64 W, .int .i64 H, .slice A n c])
  clear ok
  go_enter Try.func30, Try.ntmps30
  go_wp2_with fail
  refine (HCk.out _).mono ?_
  rintro e w1 ⟨rfl, hb⟩
  have S1 := Lib.hid (S0.out.ext hb)
  clear hb
  go_wp2_with fail
  go_ret3
  exact ⟨rfl, S1.out.bel⟩
/-- What Parts returns. -/
noncomputable def partsA (W H : Int) (n : Nat) (l : List Bool) : Int := if sized1B W H n = true then ridgesF W H l else 0
noncomputable def partsB (W H : Int) (n : Nat) (l : List Bool) : Int := if sized1B W H n = true then lakesF W H l else 0
theorem Parts_any (W H : Int) (A : Option Addr) (l : List Bool) (n c : Nat) (w : World) (hr : Rd w A (bools l)) (hn : n = l.length) :
    Calls Try.prog 29 #[.agg #[.int .i64 W, .int .i64 H, .slice A n c]] w fun e w' => e = .returned (.tuple #[.int .i64 (partsA W H n l), .int .i64 (partsB W H n l), .int .i64 (errS (sized1B W H n) 10)]) ∧ Below w.heap.size w w' := by
  unfold partsA partsB
  cases h : sized1B W H n
  · exact parts_no W H A n c w h
  · exact parts_ok W H A l n c w h hr hn
theorem refParts_all (W H : Int) (A : Option Addr) (l : List Bool) (n c : Nat) (w : World) (hr : Rd w A (bools l)) (hn : n = l.length) :
    Calls Try.prog 30 #[.agg #[.int .i64 W, .int .i64 H, .slice A n c]] w fun e w' => e = .returned (.tuple #[.int .i64 (partsA W H n l), .int .i64 (partsB W H n l), .int .i64 (errS (sized1B W H n) 10)]) ∧ Below w.heap.size w w' := by
  unfold partsA partsB
  cases h : sized1B W H n
  · exact refParts_no W H A n c w h
  · exact refParts_ok W H A l n c w h hr hn
theorem st32 : SlTy Try.prog 32 4 (.bool false) 1 1 := ⟨Try.underlying32, by kernel_rfl, rfl, by decide⟩
theorem bools_one (l : List Bool) : ∀ u ∈ bools l, u.oneCell' = true := by
  intro u hu
  obtain ⟨x, _, rfl⟩ := List.mem_map.1 hu
  rfl
/-- Twin: the same picture in new memory. -/
def TwinPost (W H : Int) (n : Nat) (l : List Bool) (w : World) (e : Ending) (w' : World) : Prop :=
  ∃ A c, e = .returned (.agg #[.int .i64 W, .int .i64 H, .slice A n c]) ∧ Own w w' [row 4 1 (.slice A n c) n (bools l)]
set_option maxHeartbeats 1000000 in
theorem twin_any (W H : Int) (A : Option Addr) (l : List Bool) (n c : Nat) (w : World) (hr : Rd w A (bools l)) (hn : n = l.length) (hb : n ≤ 140737488355328) :
    Calls Try.prog 28 #[.agg #[.int .i64 W, .int .i64 H, .slice A n c]] w (TwinPost W H n l w) := by
  have S0 := Lib.hid (((Own.start w).new 34 #[.int .i64 W, .int .i64 H, .slice A n c]).new' 34 #[.int .i64 0, .int .i64 0, .slice none 0 0] (B := w.heap.size + 1) (by simp))
  have S1 := Lib.hid (show Own w (((w.alloc (.cells #[.int .i64 W, .int .i64 H, .slice A n c] 34)).alloc (.cells #[.int .i64 0, .int .i64 0, .slice none 0 0] 34)).alloc (.cells #[] 4)) [row 4 1 (.slice (some ⟨w.heap.size + 1 + 1, 0, none⟩) 0 0) 0 [], box (w.heap.size + 1) 34 [.int .i64 0, .int .i64 0, .slice none 0 0], box w.heap.size 34 [.int .i64 W, .int .i64 H, .slice A n c]] from
    (S0.out.new' 4 #[] (B := w.heap.size + 1 + 1) (by simp)).asRow (n := 0) (size := 1) 0 rfl rfl (by unfold maxLen; omega))
  have HR := Lib.hid (hr.below S1.out.bel)
  have HN := Lib.hid hn
  obtain ⟨t0, t1, t2, _⟩ := (S0.out.bx 1 rfl).c3
  clear hr hn
  go_enter Try.func28, Try.ntmps28
  go_wp2_with (at_builtin; refine wpList_appP rfl (.tmp 3) (.tmp 5) 32 rfl st32 0 S1.out rfl rfl rfl n (bools l) ?_ (bools l) (by omega) rfl HR.out (by rw [HN.out]; simp [bools]) (bools_one l) (by unfold maxLen; omega) (by omega); intro A' c' w1 hS1; have S2 := Lib.hid (hS1.cast (qs := [row 4 1 (.slice A' n c') n (bools l), box (w.heap.size + 1) 34 [.int .i64 0, .int .i64 0, .slice none 0 0], box w.heap.size 34 [.int .i64 W, .int .i64 H, .slice A n c]]) rfl); clear hS1 t0 t1 t2; obtain ⟨t0, t1, t2, tf⟩ := (S2.out.bx 2 rfl).c3; obtain ⟨s0, s1, s2, sf⟩ := (S2.out.bx 1 rfl).c3; have ls := (S2.out.bx 1 rfl).2.2; have lt := (S2.out.bx 2 rfl).2.2)
  have S3 := Lib.hid ((((((S2.out.set 2 rfl 2 (.slice A' n c')).set 1 rfl 0 (.int .i64 W)).set 1 rfl 1 (.int .i64 H)).set 1 rfl 2 (.slice A' n c')).sub [0] (by decide) (qs := [row 4 1 (.slice A' n c') n (bools l)]) rfl))
  refine bodyPost_ret (v := .agg #[.int .i64 W, .int .i64 H, .slice A' n c']) (by simp [results, Try.results28, go_sem, *]) rfl ⟨A', c', rfl, S3.out⟩
end Go.Proofs.Ytjelnbfnoliocaa
