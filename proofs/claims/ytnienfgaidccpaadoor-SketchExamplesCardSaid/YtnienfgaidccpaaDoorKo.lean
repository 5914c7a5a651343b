/- Sketch: the walk of SketchRecovers. No condition. -/
import Derived.Test.YtnienfgaidccpaaDoorKn
namespace Go.Proofs.YtnienfgaidccpaaDoor
open Go.RowKit Go.Shelf
attribute [local go_sem] Oper.semAt_some

def i16s (l : List Int) : List Value := l.map fun x => .int .u16 x
theorem i16s_of (l : List Nat) : u16s l = i16s (l.map fun x : Nat => (x : Int)) := by simp [u16s, i16s]
theorem i16s_get {l : List Int} {k : Nat} (h : k < l.length) : (i16s l)[k]? = some (.int .u16 l[k]) := by simp [i16s, h]
theorem i16s_set (l : List Int) (k : Nat) (v : Int) : (i16s l).set k (.int .u16 v) = i16s (l.set k v) := by simp [i16s, List.map_set]
theorem skL_len (k : Int) (l : List Nat) : (skL k l).length ≤ l.length := by unfold skL; split <;> simp
theorem runF_le {F : Nat → Option (Nat × Nat)} {n : Nat} : ∀ r, runF F n = r → (recO r).1.length ≤ n := by
  intro r h
  cases r with
  | none => simp [recO]
  | some x => obtain ⟨L, m⟩ := x; have := runF_len _ _ _ h; simp [recO]; omega
theorem recR_len (k : Int) (sk t : List Nat) : (recR k sk t).1.length ≤ t.length := by
  unfold recR
  split
  · exact runF_le _ rfl
  · simp
theorem comR_len (k : Int) (t ms : List Nat) : (comR k t ms).2.1.length ≤ t.length := by
  unfold comR
  split
  · simp [comN_len]
  · simp
theorem opnR_len (k : Int) (h : List Nat) (tg : Int) (t : List Nat) : (opnR k h tg t).1.length ≤ t.length := by
  unfold opnR
  split
  · cases hr : runF (opnF (kd k.toNat) h t) t.length with
    | none => simp [opnO]
    | some x =>
      obtain ⟨L, m⟩ := x
      have := runF_len _ _ _ hr
      simp only [opnO]
      split
      · simp only; omega
      · simp
  · simp
theorem u16s_one (l : List Nat) : ∀ u ∈ u16s l, u.oneCell' = true := by
  intro u hu
  obtain ⟨x, _, rfl⟩ := List.mem_map.1 hu
  rfl
set_option maxRecDepth 100000 in
set_option maxHeartbeats 4000000 in
theorem recovers_any (k kx tgx : Int) (tp sm sk ms hx : List Nat) (A1 A2 A3 A4 A5 : Option Addr) (n1 n2 n3 n4 n5 c1 c2 c3 c4 c5 : Nat) (w : World) (hc : Cod w) (hk : 0 ≤ k ∧ k ≤ 255) (hkx : 0 ≤ kx ∧ kx ≤ 255)
    (r1 : Rd w A1 (u16s tp)) (r2 : Rd w A2 (u16s sm)) (r3 : Rd w A3 (u16s sk)) (r4 : Rd w A4 (u16s ms)) (r5 : Rd w A5 (u16s hx)) (e1 : n1 = tp.length) (e2 : n2 = sm.length) (e3 : n3 = sk.length) (e4 : n4 = ms.length) (e5 : n5 = hx.length)
    (w3 : W16 sk) (w4 : W16 ms) :
    Calls Tryd.prog 3 #[.int .u8 k, .slice A1 n1 c1, .slice A2 n2 c2, .slice A3 n3 c3, .slice A4 n4 c4, .agg #[.int .u8 kx, .slice A5 n5 c5, .int .u32 tgx]] w fun e w' => e = .returned (.bool true) ∧ Below w.heap.size w w' := by
  have S0 := Lib.hid ((Own.start w).new 25 #[.int .u8 kx, .slice A5 n5 c5, .int .u32 tgx])
  by_cases b1 : n1 ≤ 100
  case neg => as_aux_lemma =>
    have d1 : (100 : Int) < (n1 : Int) := by omega
    clear hc hk hkx r1 r2 r3 r4 r5 e1 e2 e3 e4 e5 w3 w4
    go_enter Tryd.func3, Tryd.ntmps3
    go_upto_region 1 with fail
    generalize (w.alloc _) = w0 at *
    obtain ⟨t0, t1, t2, _⟩ := (S0.out.bx 0 rfl).c3
    have lt := (S0.out.bx 0 rfl).2.2
    go_wp2_with fail
    go_ret
    exact ⟨rfl, S0.out.bel⟩
  by_cases b2 : n2 ≤ 100
  case neg => as_aux_lemma =>
    have d1 : ¬ (100 : Int) < (n1 : Int) := by omega
    have d2 : (100 : Int) < (n2 : Int) := by omega
    clear hc hk hkx r1 r2 r3 r4 r5 e1 e2 e3 e4 e5 w3 w4
    go_enter Tryd.func3, Tryd.ntmps3
    go_upto_region 1 with fail
    generalize (w.alloc _) = w0 at *
    obtain ⟨t0, t1, t2, _⟩ := (S0.out.bx 0 rfl).c3
    have lt := (S0.out.bx 0 rfl).2.2
    go_wp2_with fail
    go_ret
    exact ⟨rfl, S0.out.bel⟩
  by_cases b3 : n3 ≤ 100
  case neg => as_aux_lemma =>
    have d1 : ¬ (100 : Int) < (n1 : Int) := by omega
    have d2 : ¬ (100 : Int) < (n2 : Int) := by omega
    have d3 : (100 : Int) < (n3 : Int) := by omega
    clear hc hk hkx r1 r2 r3 r4 r5 e1 e2 e3 e4 e5 w3 w4
    go_enter Tryd.func3, Tryd.ntmps3
    go_upto_region 1 with fail
    generalize (w.alloc _) = w0 at *
    obtain ⟨t0, t1, t2, _⟩ := (S0.out.bx 0 rfl).c3
    have lt := (S0.out.bx 0 rfl).2.2
    go_wp2_with fail
    go_ret
    exact ⟨rfl, S0.out.bel⟩
  by_cases b4 : n4 ≤ 100
  case neg => as_aux_lemma =>
    have d1 : ¬ (100 : Int) < (n1 : Int) := by omega
    have d2 : ¬ (100 : Int) < (n2 : Int) := by omega
    have d3 : ¬ (100 : Int) < (n3 : Int) := by omega
    have d4 : (100 : Int) < (n4 : Int) := by omega
    clear hc hk hkx r1 r2 r3 r4 r5 e1 e2 e3 e4 e5 w3 w4
    go_enter Tryd.func3, Tryd.ntmps3
    go_upto_region 1 with fail
    generalize (w.alloc _) = w0 at *
    obtain ⟨t0, t1, t2, _⟩ := (S0.out.bx 0 rfl).c3
    have lt := (S0.out.bx 0 rfl).2.2
    go_wp2_with fail
    go_ret
    exact ⟨rfl, S0.out.bel⟩
  by_cases b5 : n5 ≤ 100
  case neg => as_aux_lemma =>
    have d1 : ¬ (100 : Int) < (n1 : Int) := by omega
    have d2 : ¬ (100 : Int) < (n2 : Int) := by omega
    have d3 : ¬ (100 : Int) < (n3 : Int) := by omega
    have d4 : ¬ (100 : Int) < (n4 : Int) := by omega
    have d5 : (100 : Int) < (n5 : Int) := by omega
    clear hc hk hkx r1 r2 r3 r4 r5 e1 e2 e3 e4 e5 w3 w4
    go_enter Tryd.func3, Tryd.ntmps3
    go_upto_region 1 with fail
    generalize (w.alloc _) = w0 at *
    obtain ⟨t0, t1, t2, _⟩ := (S0.out.bx 0 rfl).c3
    have lt := (S0.out.bx 0 rfl).2.2
    go_wp2_with fail
    go_ret
    exact ⟨rfl, S0.out.bel⟩
  have d1 : ¬ (100 : Int) < (n1 : Int) := by omega
  have d2 : ¬ (100 : Int) < (n2 : Int) := by omega
  have d3 : ¬ (100 : Int) < (n3 : Int) := by omega
  have d4 : ¬ (100 : Int) < (n4 : Int) := by omega
  have d5 : ¬ (100 : Int) < (n5 : Int) := by omega
  have K17 := Lib.hid (fun A6 c6 W (hb : Below w.heap.size w W) (h : Rd W A6 (u16s tp)) => sketch_main k tp A6 n1 c6 W (hc.below hb) hk h e1)
  have K18 := Lib.hid (fun W (hb : Below w.heap.size w W) => refSketch_main k tp A1 n1 c1 W (r1.below hb) e1)
  have K20 := Lib.hid (fun A6 c6 W (hb : Below w.heap.size w W) (h : Rd W A6 (u16s tp)) => recover_any k sk tp A3 A6 n3 n1 c3 c6 W (hc.below hb) hk (r3.below hb) h e3 e1 (by omega))
  have K21 := Lib.hid (fun W (hb : Below w.heap.size w W) => refRecover_any k sk tp A3 A1 n3 n1 c3 c1 W (r3.below hb) (r1.below hb) e3 e1 (by omega) w3)
  have K22 := Lib.hid (fun A6 c6 W (hb : Below w.heap.size w W) (h : Rd W A6 (u16s tp)) => commit_any k tp ms A6 A4 n1 n4 c6 c4 W (hc.below hb) hk h (r4.below hb) e1 e4 (by omega))
  have K23 := Lib.hid (fun W (hb : Below w.heap.size w W) => refCommit_any k tp ms A1 A4 n1 n4 c1 c4 W (r1.below hb) (r4.below hb) e1 e4 (by omega) w4)
  have K25 := Lib.hid (fun W (hb : Below w.heap.size w W) => open_any kx hx tgx sm A5 A2 n5 n2 c5 c2 W (hc.below hb) hkx (r5.below hb) (r2.below hb) e5 e2)
  have K26 := Lib.hid (fun W (hb : Below w.heap.size w W) => refOpen_any kx hx tgx sm A5 A2 n5 n2 c5 c2 W (r5.below hb) (r2.below hb) e5 e2)
  have HR1 := Lib.hid (fun W (hb : Below w.heap.size w W) => r1.below hb)
  have E1 := Lib.hid e1
  have B7 := Lib.hid (Nat.le_trans (skL_len k tp) (show tp.length ≤ 100 by omega))
  have B8 := Lib.hid (Nat.le_trans (recR_len k sk tp) (show tp.length ≤ 100 by omega))
  have B9 := Lib.hid (Nat.le_trans (comR_len k tp ms) (show tp.length ≤ 100 by omega))
  have B10 := Lib.hid (Nat.le_trans (opnR_len kx hx tgx sm) (show sm.length ≤ 100 by omega))
  clear hc hk hkx r1 r2 r3 r4 r5 e1 e2 e3 e4 e5 w3 w4
  generalize skL k tp = L7 at *
  generalize skE k tp = e7 at *
  generalize recR k sk tp = R8 at *
  generalize comR k tp ms = R9 at *
  generalize opnR kx hx tgx sm = R10 at *
  obtain ⟨L8, m8, e8⟩ := R8
  obtain ⟨k9, L9, t9, e9⟩ := R9
  obtain ⟨L10, e10⟩ := R10
  have K19 := Lib.hid (fun (L : List Nat) A A' n n' c c' W (hr : Rd W A (u16s L)) (hr' : Rd W A' (u16s L)) (hn : n = L.length) (hn' : n' = L.length) (hb : n ≤ 4611686018427387904) => sameWords_true L A A' n n' c c' W hr hr' hn hn' hb)
  as_aux_lemma =>
  go_enter Tryd.func3, Tryd.ntmps3
  go_upto_region 1 with fail
  generalize (w.alloc _) = w0 at *
  obtain ⟨t0, t1, t2, _⟩ := (S0.out.bx 0 rfl).c3
  have lt := (S0.out.bx 0 rfl).2.2
  go_upto_region 3 with fail
  have S1 := Lib.hid ((S0.out.new' 41 #[] (B := w0.heap.size) rfl).asRow (size := 1) (n := 0) 0 rfl rfl (by unfold maxLen; omega))
  go_wp2_with (at_builtin; refine wpList_appP rfl (.tmp 47) (.tmp 48) 22 rfl st22 0 S1.out rfl rfl rfl n1 (u16s tp) ?_ (u16s tp) (by omega) rfl ((HR1.out _ S1.out.bel)) (by rw [u16s_len, ← E1.out]; omega) (u16s_one tp) (by unfold maxLen; omega) (by omega); intro A6 c6 w2 hO2; have S2 := Lib.hid (Own.cast (qs := [row 41 1 (.slice A6 n1 c6) n1 (u16s tp), box w.heap.size 25 [.int .u8 kx, .slice A5 n5 c5, .int .u32 tgx]]) hO2 rfl); clear hO2)
  refine (K17.out A6 c6 _ S2.out.bel (S2.out.rd 0 rfl)).mono ?_
  rintro e w3 ⟨A7, c7, rfl, hO3⟩
  have S3 := Lib.hid (S2.out.call hO3)
  clear hO3 S2 S1 S0 t0 t1 t2 lt
  go_wp2_with fail
  refine (K18.out _ S3.out.bel).mono ?_
  rintro e w4 ⟨A8, c8, rfl, hO4⟩
  have S4 := Lib.hid (S3.out.call hO4)
  clear hO4 S3
  go_wp2_with fail
  refine (K19.out L7 A7 A8 _ _ c7 c8 _ (S4.out.rd 1 rfl) (S4.out.rd 0 rfl) rfl rfl (by have := B7.out; omega)).mono ?_
  rintro e w10 ⟨rfl, hb10⟩
  have S10 := Lib.hid ((S4.out.sub [2, 3] (by decide) (qs := [row 41 1 (.slice A6 n1 c6) n1 (u16s tp), box w.heap.size 25 [.int .u8 kx, .slice A5 n5 c5, .int .u32 tgx]]) rfl).ext hb10)
  clear hb10 S4
  go_wp2_with fail
  refine (K20.out A6 c6 _ S10.out.bel (S10.out.rd 0 rfl)).mono ?_
  rintro e w11 ⟨A9, c9, rfl, hO11⟩
  dsimp only at hO11 ⊢
  have S11 := Lib.hid (S10.out.call hO11)
  clear hO11 S10
  go_wp2_with fail
  refine (K21.out _ S11.out.bel).mono ?_
  rintro e w12 ⟨A10, c10, rfl, hO12⟩
  dsimp only at hO12 ⊢
  have S12 := Lib.hid (S11.out.call hO12)
  clear hO12 S11
  go_wp2_with fail
  refine (K19.out L8 A9 A10 _ _ c9 c10 _ (S12.out.rd 1 rfl) (S12.out.rd 0 rfl) rfl rfl (by have := B8.out; omega)).mono ?_
  rintro e w13 ⟨rfl, hb13⟩
  have S13 := Lib.hid ((S12.out.sub [2, 3] (by decide) (qs := [row 41 1 (.slice A6 n1 c6) n1 (u16s tp), box w.heap.size 25 [.int .u8 kx, .slice A5 n5 c5, .int .u32 tgx]]) rfl).ext hb13)
  clear hb13 S12
  go_wp2_with fail
  refine (K22.out A6 c6 _ S13.out.bel (S13.out.rd 0 rfl)).mono ?_
  rintro e w14 ⟨A11, c11, rfl, hO14⟩
  dsimp only at hO14 ⊢
  have S14 := Lib.hid (S13.out.call hO14)
  clear hO14 S13
  go_upto_region 13 with fail
  have S15 := Lib.hid (S14.out.new 25 #[.int .u8 k9, .slice A11 L9.length c11, .int .u32 (t9 : Nat)])
  generalize w14.alloc _ = w15 at *
  generalize w14.heap.size = B20 at *
  clear S14
  go_wp2_with fail
  refine (K23.out _ S15.out.bel).mono ?_
  rintro e w16 ⟨A12, c12, rfl, hO16⟩
  dsimp only at hO16 ⊢
  have S16 := Lib.hid (S15.out.call hO16)
  clear hO16 S15
  go_upto_region 14 with fail
  have S17 := Lib.hid (S16.out.new 25 #[.int .u8 k9, .slice A12 L9.length c12, .int .u32 (t9 : Nat)])
  generalize w16.alloc _ = w17 at *
  generalize w16.heap.size = B21 at *
  clear S16
  obtain ⟨t0, t1, t2, _⟩ := (S17.out.bx 0 rfl).c3
  have lt := (S17.out.bx 0 rfl).2.2
  obtain ⟨q0, q1, q2, _⟩ := (S17.out.bx 2 rfl).c3
  have lq := (S17.out.bx 2 rfl).2.2
  go_wp2_with fail
  refine (same_true k9 (t9 : Nat) L9 A11 A12 _ _ c11 c12 _ (S17.out.rd 3 rfl) (S17.out.rd 1 rfl) rfl rfl (by have := B9.out; omega)).mono ?_
  rintro e w18 ⟨rfl, hb18⟩
  clear t0 t1 t2 lt q0 q1 q2 lq
  obtain ⟨n9, hn9⟩ : ∃ n9, n9 = L9.length := ⟨_, rfl⟩
  rw [← hn9]
  have S18 := Lib.hid (((S17.out.sub [3, 4, 5, 2] (by decide) (qs := [row 41 1 (.slice A11 L9.length c11) L9.length (u16s L9), row 41 1 (.slice A6 n1 c6) n1 (u16s tp), box w.heap.size 25 [.int .u8 kx, .slice A5 n5 c5, .int .u32 tgx], box B20 25 [.int .u8 k9, .slice A11 L9.length c11, .int .u32 (t9 : Nat)]]) rfl).ext hb18).cast (qs := [row 41 1 (.slice A11 n9 c11) n9 (i16s (L9.map fun x : Nat => (x : Int))), row 41 1 (.slice A6 n1 c6) n1 (u16s tp), box w.heap.size 25 [.int .u8 kx, .slice A5 n5 c5, .int .u32 tgx], box B20 25 [.int .u8 k9, .slice A11 n9 c11, .int .u32 (t9 : Nat)]]) (by rw [i16s_of, hn9]))
  have H9 := Lib.hid hn9
  have hb9 : n9 ≤ 100 := by have := B9.out; omega
  clear hb18 S17 hn9
  obtain ⟨q0, q1, q2, _⟩ := (S18.out.bx 3 rfl).c3
  have lq := (S18.out.bx 3 rfl).2.2
  go_wp2_with fail
  go_loopg [127] n9 (fun q u127 wr => ∃ i : Nat, i ≤ n9 ∧ u127 = .int .i64 (i : Nat) ∧ Hid (∃ vs : List Int, vs.length = n9 ∧ i + q = n9 ∧ Own w wr [row 41 1 (.slice A11 n9 c11) n9 (i16s vs), row 41 1 (.slice A6 n1 c6) n1 (u16s tp), box w.heap.size 25 [.int .u8 kx, .slice A5 n5 c5, .int .u32 tgx], box B20 25 [.int .u8 k9, .slice A11 n9 c11, .int .u32 (t9 : Nat)]]))
  case atStart => exact ⟨0, by omega, rfl, _, by rw [List.length_map]; exact H9.out.symm, by omega, S18.out⟩
  case round =>
    obtain ⟨i, hi, rfl, hI⟩ := hrel
    obtain ⟨vs, I0, I1, I2⟩ := hI.out
    replace I0 := Lib.hid I0
    replace I1 := Lib.hid I1
    replace I2 := Lib.hid I2
    clear hI S18 q0 q1 q2 lq
    by_cases hlt : i < n9
    case pos => as_aux_lemma =>
      have hix : (i : Int) < (n9 : Int) := by omega
      obtain ⟨g, rfl⟩ := I2.out.rowAddr 0 rfl (by omega)
      have hiv : i < vs.length := by rw [I0.out]; exact hlt
      have k0 := I2.out.rowAt 0 rfl (j := i) (i16s_get hiv)
      have l0 := (I2.out.rowLt 0 rfl).1
      have f0 := (I2.out.rowLt 0 rfl).2
      obtain ⟨q0, q1, q2, _⟩ := (I2.out.bx 3 rfl).c3
      have lq := (I2.out.bx 3 rfl).2.2
      generalize vs[i] = v at *
      go_wp2_with fail
      go_roundg (gk - 1)
      case measure => have := I1.out; omega
      case rel => exact ⟨i + 1, by omega, by go_num, vs.set i (bits .xor .u16 v 1), by rw [List.length_set]; exact I0.out, by have := I1.out; omega, by rw [← i16s_set]; exact (I2.out.setRow 0 rfl i _)⟩
    as_aux_lemma =>
    have hni : ¬ (i : Int) < (n9 : Int) := by omega
    have S90 := Lib.hid (I2.out.sub [1, 2] (by decide) (qs := [row 41 1 (.slice A6 n1 c6) n1 (u16s tp), box w.heap.size 25 [.int .u8 kx, .slice A5 n5 c5, .int .u32 tgx]]) rfl)
    clear I2 I1 I0
    obtain ⟨t0, t1, t2, _⟩ := (S90.out.bx 1 rfl).c3
    have lt := (S90.out.bx 1 rfl).2.2
    go_wp2_with fail
    refine (K25.out _ S90.out.bel).mono ?_
    rintro e w19 ⟨A13, c13, rfl, hO19⟩
    dsimp only at hO19 ⊢
    have S19 := Lib.hid (S90.out.call hO19)
    clear hO19 S90
    clear t0 t1 t2 lt
    obtain ⟨t0, t1, t2, _⟩ := (S19.out.bx 2 rfl).c3
    have lt := (S19.out.bx 2 rfl).2.2
    go_wp2_with fail
    refine (K26.out _ S19.out.bel).mono ?_
    rintro e w20 ⟨A14, c14, rfl, hO20⟩
    dsimp only at hO20 ⊢
    have S20 := Lib.hid (S19.out.call hO20)
    clear hO20 S19
    clear t0 t1 t2 lt
    go_wp2_with fail
    refine (K19.out L10 A13 A14 _ _ c13 c14 _ (S20.out.rd 1 rfl) (S20.out.rd 0 rfl) rfl rfl (by have := B10.out; omega)).mono ?_
    rintro e w21 ⟨rfl, hb21⟩
    have S21 := Lib.hid ((S20.out.sub [2, 3] (by decide) (qs := [row 41 1 (.slice A6 n1 c6) n1 (u16s tp), box w.heap.size 25 [.int .u8 kx, .slice A5 n5 c5, .int .u32 tgx]]) rfl).ext hb21)
    clear hb21 S20
    go_wp2_with fail
    refine (K19.out tp A6 A1 n1 n1 c6 c1 _ (S21.out.rd 0 rfl) (HR1.out _ S21.out.bel) E1.out E1.out (by omega)).mono ?_
    rintro e w22 ⟨rfl, hb22⟩
    have S22 := Lib.hid (S21.out.ext hb22)
    clear hb22 S21
    go_wp2_with fail
    go_ret
    exact ⟨rfl, S22.out.bel⟩
end Go.Proofs.YtnienfgaidccpaaDoor
