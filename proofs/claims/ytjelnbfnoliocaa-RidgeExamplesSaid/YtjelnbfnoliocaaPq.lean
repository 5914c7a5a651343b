/- Ridge: the places of the ridge pixels, one after another. No condition. -/
import Derived.Test.YtjelnbfnoliocaaBase
import Derived.Test.YtjelnbfnoliocaaPa
namespace Go.Proofs.Ytjelnbfnoliocaa
open Go.RowKit Go.Shelf
attribute [local go_sem] Oper.semAt_some

/-- The numbers of the pixels below k that are ridge, and their places. -/
def pixI (l : List Bool) (k : Nat) : List Nat := (List.range k).filter fun i => l.getD i false
def plc (W : Int) (i : Nat) : Int × Int := ((i : Int) % W, (i : Int) / W)
theorem pixI_yes {l : List Bool} {k : Nat} (h : l.getD k false = true) : pixI l (k + 1) = pixI l k ++ [k] := by simp only [pixI, List.range_succ, List.filter_append, List.filter_cons, h, List.filter_nil, if_true]
theorem pixI_no {l : List Bool} {k : Nat} (h : l.getD k false = false) : pixI l (k + 1) = pixI l k := by simp only [pixI, List.range_succ, List.filter_append, List.filter_cons, h, List.filter_nil, if_false, Bool.false_eq_true, List.append_nil]
theorem pixI_len (l : List Bool) (k : Nat) : (pixI l k).length ≤ k := by
  have := List.length_filter_le (fun i => l.getD i false) (List.range k)
  simpa [pixI] using this
theorem abide_grown {β : Type} {B : Nat} {J : β → World → Prop} (h : AbidesFrom B J) {s : β} {W W' : World} (hs : J s W) (hg : W.grownBy W' none) : J s W' :=
  h s W W' none hs hg (by simp)
/-- A place of a picture. -/
def Plc (W H : Int) (x : Int × Int) : Prop := (0 ≤ x.1 ∧ x.1 ≤ W - 1) ∧ 0 ≤ x.2 ∧ x.2 ≤ H - 1

set_option maxRecDepth 100000 in
set_option maxHeartbeats 2000000 in
theorem pix_gen (n : Nat) (hn : 1 ≤ n) (lp Bt : Nat) (A : Option Addr) (l : List Bool) (nn c : Nat) (W H : Int) (Wd : World) (J Jx : List (Int × Int) → World → Prop)
    (St : World → Prop) (Kp : World → World → Prop) (ok : sized1B W H nn = true) (hnn : nn = l.length)
    (hSt : ∀ X, St X → Rd X A (bools l) ∧ X.cell? ⟨Bt, 0, none⟩ = some (.int .i64 W) ∧ X.cell? ⟨Bt, 1, none⟩ = some (.int .i64 H) ∧ X.cell? ⟨Bt, 2, none⟩ = some (.slice A nn c) ∧ Bt < X.heap.size)
    (hStK : ∀ X Y, St X → Kp X Y → St Y) (hStD : ∀ X n, St X → St (X.drewN n)) (hst0 : St Wd) (hJ : AbidesFrom Wd.heap.size J)
    (hY : ∀ pre (x : Int × Int) W1, Plc W H x → J pre W1 → pre.length < l.length → YieldAt Fence.wide (n - 1) Try.prog lp #[.int .i64 x.1, .int .i64 x.2] W1 fun e W' =>
      (e = .returned (.bool true) ∧ J (pre ++ [x]) W' ∧ Kp W1 W') ∨ (e = .returned (.bool false) ∧ Jx (pre ++ [x]) W')) (h0 : J [] Wd) :
    CallsIn Fence.wide n Try.prog 83 #[.func (.yield lp) #[] #[], .pointer (some ⟨Bt, 0, none⟩)] Wd fun e W' => (∃ v, e = .returned v) ∧
      ((∃ ys, ys = (pixI l l.length).map (plc W) ∧ J ys W') ∨ (∃ pre, True ∧ Jx pre W')) := by
  obtain ⟨hW, hH, h3⟩ := valid_bd ok
  have hWH : W * H ≤ 20 * 20 := Int.mul_le_mul (by omega) (by omega) (by omega) (by omega)
  have HST := Lib.hid hSt
  have HSK := Lib.hid hStK
  have HSD := Lib.hid hStD
  have HS0 := Lib.hid hst0
  have HN := Lib.hid hnn
  have HY := Lib.hid hY
  have HJ := Lib.hid hJ
  have HJ0 := Lib.hid h0
  have HWH := Lib.hid h3
  have hnb : nn ≤ 400 := by omega
  clear hSt hStK hStD hst0 hnn hY hJ h0 h3 hWH ok
  obtain ⟨_, c0, c1, c2, cl⟩ := HST.out Wd HS0.out
  refine callsIn_of_wp Try.func83 rfl trivial ?_ rfl
  simp only [Try.ntmps83, List.size_toArray, List.length_cons, List.length_nil, Nat.reduceAdd, Nat.reduceSub, Array.replicate_succ, Array.replicate_zero, List.push_toArray, List.append_toArray, List.nil_append, List.cons_append]
  gi_wp2
  gi_loopw [8] (fun i wr => ∃ (k : Nat), k ≤ nn ∧ i = .int .i64 k ∧ Hid (J ((pixI l k).map (plc W)) wr) ∧ Hid (St wr)) (fun i _ => nn - (intOf i).toNat)
  case atStart => exact ⟨0, Nat.zero_le _, rfl, HJ0.out, HS0.out⟩
  case round =>
    obtain ⟨k, hk, rfl, hj, hb⟩ := hrel
    clear c0 c1 c2 cl
    obtain ⟨hrd, c0, c1, c2, cl⟩ := HST.out wr hb.out
    have HRD := Lib.hid hrd
    clear hrd
    by_cases hlt : k < nn
    · have hlt' : k < l.length := by rw [← HN.out]; exact hlt
      obtain ⟨b, off, rfl, hbs, hc0⟩ := HRD.out.at_ (bools_get hlt')
      have hc1 := hc0 k _ (bools_get hlt')
      clear hc0
      have hgd : l.getD k false = l[k] := by rw [List.getD_eq_getElem?_getD, List.getElem?_eq_getElem hlt']; rfl
      have HGD := Lib.hid hgd
      have hki : (k : Int) < (nn : Int) := by omega
      have hpl : Plc W H (plc W k) := by
        have h1 := HWH.out
        have hd : (k : Int) / W < H := Int.ediv_lt_of_lt_mul (by omega) (by rw [Int.mul_comm]; omega)
        exact ⟨⟨Int.emod_nonneg _ (by omega), by have := Int.emod_lt_of_pos (k : Int) (show 0 < W by omega); unfold plc; simp only; omega⟩, Int.ediv_nonneg (by omega) (by omega), by unfold plc; simp only; omega⟩
      have HPL := Lib.hid hpl
      have hx := hpl.1
      have hy := hpl.2
      simp only [plc] at hx hy
      have z1 : ¬ W = 0 := by omega
      have z3 : (k : Int).tmod W = (k : Int) % W := Int.tmod_eq_emod_of_nonneg (by omega)
      have z4 : IntKind.i64.wrap ((k : Int) / W) = (k : Int) / W := IntWalk.i64_in _ (by omega)
      clear hgd hpl
      generalize l[k] = bv at *
      rcases bv with _ | _
      · have hno := Lib.hid (pixI_no HGD.out)
        gi_wp2
        refine wpIn_wide.2 (wp_region_quiet_lit (by kernel_rfl) (by kernel_rfl) ?_)
        iterate 14 (go_big_quiet_step (fail))
        refine wpQuiet_nil ?_
        rintro _ ⟨q, rfl⟩
        gi_wp2
        go_roundw
        case rel => exact ⟨k + 1, by omega, by go_num, (by unfold Hid; rw [hno.out]; exact abide_grown HJ.out hj.out ⟨rfl, rfl, rfl, Nat.le_refl _, fun _ _ _ => rfl⟩), HSD.out _ q hb.out⟩
        case measure => simp [intOf]; omega
      · have hyes := Lib.hid (pixI_yes HGD.out)
        obtain ⟨fn, tmps, assign, body, hy, hR⟩ := HY.out ((pixI l k).map (plc W)) (plc W k) wr.drew HPL.out (abide_grown HJ.out hj.out ⟨rfl, rfl, rfl, Nat.le_refl _, fun _ _ _ => rfl⟩) (by rw [List.length_map]; have := pixI_len l k; omega)
        simp only [plc] at hy
        gi_wp2
        refine wpIn_region_any (by kernel_rfl) ?_
        show wpAnyIn _ _ _ _ _ _ 14 _ _ wr.drew
        refine wpAnyIn_take (i := 0) (v := ?v1) rfl rfl (by kernel_rfl) (by kernel_rfl) (by kernel_rfl) (fun _ _ _ h => h) ⟨Or.inl ⟨by rfl, ?hy1⟩, fun _ => rfl⟩ ?rest1
        case hy1 =>
          intro w
          go_simp
          try with_reducible rfl
        try dsimp only [Act.put, List.setIfInBounds_toArray, List.set_cons_zero, List.set_cons_succ]
        refine wpAnyIn_take (i := 1) (v := ?v2) rfl rfl (by kernel_rfl) (by kernel_rfl) (by kernel_rfl) (fun _ _ _ h => h) ⟨Or.inl ⟨by rfl, ?hy2⟩, fun _ => rfl⟩ ?rest2
        case hy2 =>
          intro w
          go_simp
          try with_reducible rfl
        try dsimp only [Act.put, List.setIfInBounds_toArray, List.set_cons_zero, List.set_cons_succ]
        refine wpAnyIn_take (i := 2) (v := ?v3) rfl rfl (by kernel_rfl) (by kernel_rfl) (by kernel_rfl) (fun _ _ _ h => h) ⟨Or.inl ⟨by rfl, ?hy3⟩, fun _ => rfl⟩ ?rest3
        case hy3 =>
          intro w
          go_simp
          try with_reducible rfl
        try dsimp only [Act.put, List.setIfInBounds_toArray, List.set_cons_zero, List.set_cons_succ]
        refine wpAnyIn_take (i := 3) (v := ?v4) rfl rfl (by kernel_rfl) (by kernel_rfl) (by kernel_rfl) (fun _ _ _ h => h) ⟨Or.inl ⟨by rfl, ?hy4⟩, fun _ => rfl⟩ ?rest4
        case hy4 =>
          intro w
          go_simp
          try with_reducible rfl
        try dsimp only [Act.put, List.setIfInBounds_toArray, List.set_cons_zero, List.set_cons_succ]
        refine wpAnyIn_take (i := 4) (v := ?v5) rfl rfl (by kernel_rfl) (by kernel_rfl) (by kernel_rfl) (fun _ _ _ h => h) ⟨Or.inl ⟨by rfl, ?hy5⟩, fun _ => rfl⟩ ?rest5
        case hy5 =>
          intro w
          go_simp
          try with_reducible rfl
        try dsimp only [Act.put, List.setIfInBounds_toArray, List.set_cons_zero, List.set_cons_succ]
        refine wpAnyIn_take (i := 7) (v := ?v6) rfl rfl (by kernel_rfl) (by kernel_rfl) (by kernel_rfl) (fun _ _ _ h => h) ⟨Or.inl ⟨by rfl, ?hy6⟩, fun _ => rfl⟩ ?rest6
        case hy6 =>
          intro w
          go_simp
          try with_reducible rfl
        try dsimp only [Act.put, List.setIfInBounds_toArray, List.set_cons_zero, List.set_cons_succ]
        refine wpAnyIn_take (i := 8) (v := ?v7) rfl rfl (by kernel_rfl) (by kernel_rfl) (by kernel_rfl) (fun _ _ _ h => h) ⟨Or.inl ⟨by rfl, ?hy7⟩, fun _ => rfl⟩ ?rest7
        case hy7 =>
          intro w
          go_simp
          try with_reducible rfl
        try dsimp only [Act.put, List.setIfInBounds_toArray, List.set_cons_zero, List.set_cons_succ]
        refine wpAnyIn_ready (rs := [5, 9]) (by kernel_rfl) (by simp) ?_
        refine AllReadyIn.cons rfl (fun K hK => ?_) ?_
        · go_simp
          refine hK _ _ ?_
          clear hK K
          refine wpAnyIn_take (i := 6) (v := ?v8) rfl rfl (by kernel_rfl) (by kernel_rfl) (by kernel_rfl) (fun _ _ _ h => h) ⟨Or.inl ⟨by rfl, ?hy8⟩, fun _ => rfl⟩ ?rest8
          case hy8 =>
            intro w
            go_simp
            try with_reducible rfl
          try dsimp only [Act.put, List.setIfInBounds_toArray, List.set_cons_zero, List.set_cons_succ]
          refine wpAnyIn_ready (rs := [9]) (by kernel_rfl) (by simp) ?_
          refine AllReadyIn.cons rfl (fun K hK => ?_) AllReadyIn.nil
          go_simp
          refine hK _ _ ?_
          clear hK K
          refine wpAnyIn_take (i := 10) (v := ?v9) rfl rfl (by kernel_rfl) (by kernel_rfl) (by kernel_rfl) (fun _ _ _ h => h) ⟨Or.inl ⟨by rfl, ?hy9⟩, fun _ => rfl⟩ ?rest9
          case hy9 =>
            intro w
            go_simp
            try with_reducible rfl
          try dsimp only [Act.put, List.setIfInBounds_toArray, List.set_cons_zero, List.set_cons_succ]
          refine wpAnyIn_ready (rs := [11]) (by kernel_rfl) (by simp) ?_
          refine AllReadyIn.cons rfl (fun K hK => ?_) AllReadyIn.nil
          go_simp
          refine hR.mono ?_
          rintro e W3 (⟨rfl, hJ3, hk3⟩ | ⟨rfl, hJx3⟩)
          · refine hK _ _ ?_
            clear hK K
            refine wpAnyIn_take (i := 12) (v := ?v10) rfl rfl (by kernel_rfl) (by kernel_rfl) (by kernel_rfl) (fun _ _ _ h => h) ⟨Or.inl ⟨by rfl, ?hy10⟩, fun _ => rfl⟩ ?rest10
            case hy10 =>
              intro w
              go_simp
              try with_reducible rfl
            try dsimp only [Act.put, List.setIfInBounds_toArray, List.set_cons_zero, List.set_cons_succ]
            refine wpAnyIn_take (i := 13) (v := ?v11) rfl rfl (by kernel_rfl) (by kernel_rfl) (by kernel_rfl) (fun _ _ _ h => h) ⟨Or.inl ⟨by rfl, ?hy11⟩, fun _ => rfl⟩ ?rest11
            case hy11 =>
              intro w
              go_simp
              try with_reducible rfl
            try dsimp only [Act.put, List.setIfInBounds_toArray, List.set_cons_zero, List.set_cons_succ]
            refine wpAnyIn_done (by kernel_rfl) ?_ _
            have HJ3 := Lib.hid hJ3
            clear hJ3
            gi_wp2
            go_roundw
            case rel => exact ⟨k + 1, by omega, by go_num, (by unfold Hid; rw [hyes.out, List.map_append]; exact HJ3.out), HSK.out _ _ (HSD.out _ 1 hb.out) hk3⟩
            case measure => simp [intOf]; omega
          · refine hK _ _ ?_
            clear hK K
            refine wpAnyIn_take (i := 12) (v := ?v12) rfl rfl (by kernel_rfl) (by kernel_rfl) (by kernel_rfl) (fun _ _ _ h => h) ⟨Or.inl ⟨by rfl, ?hy12⟩, fun _ => rfl⟩ ?rest12
            case hy12 =>
              intro w
              go_simp
              try with_reducible rfl
            try dsimp only [Act.put, List.setIfInBounds_toArray, List.set_cons_zero, List.set_cons_succ]
            refine wpAnyIn_take (i := 13) (v := ?v13) rfl rfl (by kernel_rfl) (by kernel_rfl) (by kernel_rfl) (fun _ _ _ h => h) ⟨Or.inl ⟨by rfl, ?hy13⟩, fun _ => rfl⟩ ?rest13
            case hy13 =>
              intro w
              go_simp
              try with_reducible rfl
            try dsimp only [Act.put, List.setIfInBounds_toArray, List.set_cons_zero, List.set_cons_succ]
            refine wpAnyIn_done (by kernel_rfl) ?_ _
            have HJ3 := Lib.hid hJx3
            clear hJx3
            gi_wp2
            refine bodyPost_ret (results_none rfl _ _ _) rfl ?_
            exact ⟨⟨_, rfl⟩, .inr ⟨_, HJ3.out⟩⟩
        refine AllReadyIn.cons rfl (fun K hK => ?_) AllReadyIn.nil
        go_simp
        refine hK _ _ ?_
        clear hK K
        refine wpAnyIn_take (i := 10) (v := ?v14) rfl rfl (by kernel_rfl) (by kernel_rfl) (by kernel_rfl) (fun _ _ _ h => h) ⟨Or.inl ⟨by rfl, ?hy14⟩, fun _ => rfl⟩ ?rest14
        case hy14 =>
          intro w
          go_simp
          try with_reducible rfl
        try dsimp only [Act.put, List.setIfInBounds_toArray, List.set_cons_zero, List.set_cons_succ]
        refine wpAnyIn_ready (rs := [5]) (by kernel_rfl) (by simp) ?_
        refine AllReadyIn.cons rfl (fun K hK => ?_) AllReadyIn.nil
        go_simp
        refine hK _ _ ?_
        clear hK K
        refine wpAnyIn_take (i := 6) (v := ?v15) rfl rfl (by kernel_rfl) (by kernel_rfl) (by kernel_rfl) (fun _ _ _ h => h) ⟨Or.inl ⟨by rfl, ?hy15⟩, fun _ => rfl⟩ ?rest15
        case hy15 =>
          intro w
          go_simp
          try with_reducible rfl
        try dsimp only [Act.put, List.setIfInBounds_toArray, List.set_cons_zero, List.set_cons_succ]
        refine wpAnyIn_ready (rs := [11]) (by kernel_rfl) (by simp) ?_
        refine AllReadyIn.cons rfl (fun K hK => ?_) AllReadyIn.nil
        go_simp
        refine hR.mono ?_
        rintro e W3 (⟨rfl, hJ3, hk3⟩ | ⟨rfl, hJx3⟩)
        · refine hK _ _ ?_
          clear hK K
          refine wpAnyIn_take (i := 12) (v := ?v16) rfl rfl (by kernel_rfl) (by kernel_rfl) (by kernel_rfl) (fun _ _ _ h => h) ⟨Or.inl ⟨by rfl, ?hy16⟩, fun _ => rfl⟩ ?rest16
          case hy16 =>
            intro w
            go_simp
            try with_reducible rfl
          try dsimp only [Act.put, List.setIfInBounds_toArray, List.set_cons_zero, List.set_cons_succ]
          refine wpAnyIn_take (i := 13) (v := ?v17) rfl rfl (by kernel_rfl) (by kernel_rfl) (by kernel_rfl) (fun _ _ _ h => h) ⟨Or.inl ⟨by rfl, ?hy17⟩, fun _ => rfl⟩ ?rest17
          case hy17 =>
            intro w
            go_simp
            try with_reducible rfl
          try dsimp only [Act.put, List.setIfInBounds_toArray, List.set_cons_zero, List.set_cons_succ]
          refine wpAnyIn_done (by kernel_rfl) ?_ _
          have HJ3 := Lib.hid hJ3
          clear hJ3
          gi_wp2
          go_roundw
          case rel => exact ⟨k + 1, by omega, by go_num, (by unfold Hid; rw [hyes.out, List.map_append]; exact HJ3.out), HSK.out _ _ (HSD.out _ 1 hb.out) hk3⟩
          case measure => simp [intOf]; omega
        · refine hK _ _ ?_
          clear hK K
          refine wpAnyIn_take (i := 12) (v := ?v18) rfl rfl (by kernel_rfl) (by kernel_rfl) (by kernel_rfl) (fun _ _ _ h => h) ⟨Or.inl ⟨by rfl, ?hy18⟩, fun _ => rfl⟩ ?rest18
          case hy18 =>
            intro w
            go_simp
            try with_reducible rfl
          try dsimp only [Act.put, List.setIfInBounds_toArray, List.set_cons_zero, List.set_cons_succ]
          refine wpAnyIn_take (i := 13) (v := ?v19) rfl rfl (by kernel_rfl) (by kernel_rfl) (by kernel_rfl) (fun _ _ _ h => h) ⟨Or.inl ⟨by rfl, ?hy19⟩, fun _ => rfl⟩ ?rest19
          case hy19 =>
            intro w
            go_simp
            try with_reducible rfl
          try dsimp only [Act.put, List.setIfInBounds_toArray, List.set_cons_zero, List.set_cons_succ]
          refine wpAnyIn_done (by kernel_rfl) ?_ _
          have HJ3 := Lib.hid hJx3
          clear hJx3
          gi_wp2
          refine bodyPost_ret (results_none rfl _ _ _) rfl ?_
          exact ⟨⟨_, rfl⟩, .inr ⟨_, HJ3.out⟩⟩
    · have hfin : k = nn := by omega
      subst hfin
      gi_wp2
      go_end0
      exact ⟨⟨_, rfl⟩, .inl ⟨_, by rw [HN.out], hj.out⟩⟩

/-- The places of a picture, as Go hands them out. -/
abbrev PPlc (W H : Int) := { x : Int × Int // Plc W H x }
def encPl {W H : Int} (x : PPlc W H) : Array Value := #[.int .i64 x.1.1, .int .i64 x.1.2]
/-- Two blocks stay as they are. -/
def Keep2 (b b' : Nat) (w w' : World) : Prop := w'.heap[b]? = w.heap[b]? ∧ w'.heap[b']? = w.heap[b']? ∧ w.heap.size ≤ w'.heap.size
theorem Keep2.trans {b b' : Nat} {x y z : World} (h : Keep2 b b' x y) (k : Keep2 b b' y z) : Keep2 b b' x z := ⟨k.1.trans h.1, k.2.1.trans h.2.1, Nat.le_trans h.2.2 k.2.2⟩
theorem pix_stops (n : Nat) (hn : 1 ≤ n) (Bt Bd : Nat) (A : Option Addr) (l : List Bool) (nn c : Nat) (W H : Int) (w0 : World) (ok : sized1B W H nn = true) (hnn : nn = l.length)
    (hr : Rd w0 A (bools l)) (hA : ∀ b off, A = some ⟨b, off, none⟩ → bools l = [] ∨ b = Bd) (hBt : Bt < w0.heap.size)
    (c0 : w0.cell? ⟨Bt, 0, none⟩ = some (.int .i64 W)) (c1 : w0.cell? ⟨Bt, 1, none⟩ = some (.int .i64 H)) (c2 : w0.cell? ⟨Bt, 2, none⟩ = some (.slice A nn c)) :
    SeqStopsK Fence.wide n Try.prog 83 #[.pointer (some ⟨Bt, 0, none⟩)] (encPl (W := W) (H := H)) (Keep2 Bt Bd) (fun ys => ys.map (·.1) = (pixI l l.length).map (plc W)) (fun _ => True) l.length w0 := by
  intro lp J Jx Wd hW hJ _ hY h0
  refine (pix_gen n hn lp Bt A l nn c W H Wd (fun pre W1 => ∃ q : List (PPlc W H), q.map (·.1) = pre ∧ J q W1) (fun pre W1 => ∃ q : List (PPlc W H), q.map (·.1) = pre ∧ Jx q W1)
    (fun X => w0.heap.size ≤ X.heap.size ∧ X.heap[Bt]? = w0.heap[Bt]? ∧ ∀ b off, A = some ⟨b, off, none⟩ → bools l = [] ∨ X.heap[b]? = w0.heap[b]?) (Keep2 Bt Bd) ok hnn ?_ ?_ (fun _ _ h => h) ?_ ?_ ?_ ⟨[], rfl, h0⟩).mono ?_
  · rintro X ⟨h1, h2, h3⟩
    refine ⟨?_, (World.cell?_of_block (w := w0) (a := ⟨Bt, 0, none⟩) h2).trans c0, (World.cell?_of_block (w := w0) (a := ⟨Bt, 1, none⟩) h2).trans c1, (World.cell?_of_block (w := w0) (a := ⟨Bt, 2, none⟩) h2).trans c2, by omega⟩
    rcases hr with h | ⟨b, off, e1, e2, e3⟩
    · exact .inl h
    · rcases h3 b off e1 with h | h
      · exact .inl h
      · exact .inr ⟨b, off, e1, by omega, fun j u hu => (World.cell?_of_block (w := w0) (a := ⟨b, off + j, none⟩) h).trans (e3 j u hu)⟩
  · rintro X Y ⟨h1, h2, h3⟩ ⟨k1, k2, k3⟩
    refine ⟨by omega, k1.trans h2, fun b off e => ?_⟩
    rcases h3 b off e with h | h
    · exact .inl h
    · rcases hA b off e with h' | h'
      · exact .inl h'
      · subst h'; exact .inr (k2.trans h)
  · refine ⟨hW.size, hW.block Bt hBt, fun b off e => ?_⟩
    rcases hr with h | ⟨b', off', e1, e2, _⟩
    · exact .inl h
    · rw [e] at e1
      injection e1 with e1
      injection e1 with e1 _
      subst e1
      exact .inr (hW.block b e2)
  · rintro s X Y row ⟨q, hq, hj⟩ hg hrow
    exact ⟨q, hq, hJ q X Y row hj hg hrow⟩
  · rintro pre x W1 hx ⟨q, rfl, hj⟩ hlen
    obtain ⟨fn, tmps, assign, body, hy, hR⟩ := hY q ⟨x, hx⟩ W1 hj (by simpa using hlen)
    refine ⟨fn, tmps, assign, body, hy, hR.mono ?_⟩
    rintro e W' (⟨he, h1, h2⟩ | ⟨he, h1⟩)
    · exact .inl ⟨he, ⟨q ++ [⟨x, hx⟩], by simp, h1⟩, h2⟩
    · exact .inr ⟨he, q ++ [⟨x, hx⟩], by simp, h1⟩
  · rintro e W' ⟨he, ⟨ys, rfl, q, hq, hj⟩ | ⟨pre, _, q, hq, hj⟩⟩
    · exact ⟨he, .inl ⟨q, hq, hj⟩⟩
    · exact ⟨he, .inr ⟨q, trivial, hj⟩⟩
/-- pixels: a function value with its own copy of the trace. -/
theorem pixels_any (W H : Int) (A : Option Addr) (n c : Nat) (w : World) :
    Calls Try.prog 70 #[.agg #[.int .i64 W, .int .i64 H, .slice A n c]] w fun e w' => e = .returned (.func (.func 83) #[] #[.pointer (some ⟨w.heap.size, 0, none⟩)]) ∧ w.alloc (.cells #[.int .i64 W, .int .i64 H, .slice A n c] 34) = w' := by
  go_enter Try.func70, Try.ntmps70
  go_wp2_with fail
  go_ret
  exact ⟨rfl, rfl⟩
end Go.Proofs.Ytjelnbfnoliocaa
