/- Ridge: a trace with background around it, by the program. No condition. -/
import Derived.Test.YtjelnbfnoliocaaTr
import Derived.Test.YtjelnbfnoliocaaSt
import Derived.Test.YtjelnbfnoliocaaTd
namespace Go.Proofs.Ytjelnbfnoliocaa
open Go.RowKit Go.Shelf
attribute [local go_sem] Oper.semAt_some

/-- The boxes that the closure bears. -/
structure Caps (w : World) (bx br bY bb : Nat) (x0 r y0 b : Int) : Prop where
  x : Box w bx [.int .i64 x0]
  r : Box w br [.int .u8 r]
  y : Box w bY [.int .i64 y0]
  b : Box w bb [.int .u8 b]
theorem Caps.below {w w' : World} {bx br bY bb : Nat} {x0 r y0 b : Int} (h : Caps w bx br bY bb x0 r y0 b) (k : Below w.heap.size w w') : Caps w' bx br bY bb x0 r y0 b := ⟨h.x.ext k, h.r.ext k, h.y.ext k, h.b.ext k⟩
theorem Caps.cells {w : World} {bx br bY bb : Nat} {x0 r y0 b : Int} (h : Caps w bx br bY bb x0 r y0 b) : w.cell? ⟨bx, 0, none⟩ = some (.int .i64 x0) ∧ w.cell? ⟨br, 0, none⟩ = some (.int .u8 r) ∧ w.cell? ⟨bY, 0, none⟩ = some (.int .i64 y0) ∧ w.cell? ⟨bb, 0, none⟩ = some (.int .u8 b) ∧ bx < w.heap.size ∧ br < w.heap.size ∧ bY < w.heap.size ∧ bb < w.heap.size :=
  ⟨h.x.1 0 _ rfl, h.r.1 0 _ rfl, h.y.1 0 _ rfl, h.b.1 0 _ rfl, h.x.2.2, h.r.2.2, h.y.2.2, h.b.2.2⟩
def WidePost (W' H' : Int) (l' : List Bool) (w : World) (e : Ending) (w' : World) : Prop :=
  ∃ A c, e = .returned (.agg #[.int .i64 W', .int .i64 H', .slice A l'.length c]) ∧ Own w w' [row 4 1 (.slice A l'.length c) l'.length (bools l')]
set_option maxRecDepth 100000 in
set_option maxHeartbeats 2000000 in
theorem wide_any (W H W' H' x0 r y0 b : Int) (bx br bY bb : Nat) (A : Option Addr) (l : List Bool) (n c N : Nat) (w : World) (hv : sized1B W H n = true) (hr : Rd w A (bools l)) (hn : n = l.length) (hc : Caps w bx br bY bb x0 r y0 b)
    (hx : 0 ≤ x0 ∧ x0 ≤ 255) (hy : 0 ≤ y0 ∧ y0 ≤ 255) (hr0 : 0 ≤ r ∧ r ≤ 255) (hb0 : 0 ≤ b ∧ b ≤ 255) (hW : W' = W + x0 + r) (hH : H' = H + y0 + b) (hW2 : W' ≤ 20) (hH2 : H' ≤ 20) (hN : (N : Int) = W' * H') :
    Calls Try.prog 47 #[.agg #[.int .i64 W, .int .i64 H, .slice A n c], .pointer (some ⟨bx, 0, none⟩), .pointer (some ⟨br, 0, none⟩), .pointer (some ⟨bY, 0, none⟩), .pointer (some ⟨bb, 0, none⟩)] w (WidePost W' H' (padI W H W' x0 y0 l N) w) := by
  obtain ⟨hWb, hHb, hnn⟩ := valid_bd hv
  obtain ⟨x1, x2⟩ := hx
  obtain ⟨y1, y2⟩ := hy
  have hN400 : N ≤ 400 := by
    have : W' * H' ≤ 20 * 20 := Int.mul_le_mul (by omega) (by omega) (by omega) (by omega)
    omega
  have K46 := Lib.hid (fun x y W1 (h : Below w.heap.size w W1) => refIs_any W H x y A l n c W1 hv (hr.below h) hn)
  have HC := Lib.hid (fun W1 (h : Below w.heap.size w W1) => hc.below h)
  have S0 := Lib.hid (((Own.start w).new 34 #[.int .i64 W, .int .i64 H, .slice A n c]).new' 34 #[.int .i64 0, .int .i64 0, .slice none 0 0] (B := w.heap.size + 1) (by simp))
  have e1 : IntKind.i64.wrap (W + x0) = W + x0 := IntWalk.i64_in _ (by omega)
  have e2 : IntKind.i64.wrap (W + x0 + r) = W' := by rw [← hW]; exact IntWalk.i64_in _ (by omega)
  have e3 : IntKind.i64.wrap (H + y0) = H + y0 := IntWalk.i64_in _ (by omega)
  have e4 : IntKind.i64.wrap (H + y0 + b) = H' := by rw [← hH]; exact IntWalk.i64_in _ (by omega)
  have e5 : IntKind.i64.wrap (W' * H') = (N : Int) := by rw [← hN]; exact IntWalk.i64_in _ (by omega)
  have hW1 : 1 ≤ W' := by omega
  have hH1 : 1 ≤ H' := by omega
  have z1 : ¬ W' = 0 := by omega
  have HN := Lib.hid hN
  clear hr hn hc hv hnn hN hW hH
  go_enter Try.func47, Try.ntmps47
  go_upto_region 1 with fail
  generalize ((w.alloc _).alloc _) = w1 at *
  obtain ⟨t1_0, t1_1, t1_2, _⟩ := (S0.out.bx 1 rfl).c3
  have lt1 := (S0.out.bx 1 rfl).2.2
  obtain ⟨t0_0, t0_1, t0_2, _⟩ := (S0.out.bx 0 rfl).c3
  have lt0 := (S0.out.bx 0 rfl).2.2
  obtain ⟨cx, cr, cy, cb, lx, lr, ly, lb⟩ := (HC.out _ S0.out.bel).cells
  go_upto_region 2 with fail
  have S2 := Lib.hid ((S0.out.new' 34 #[.int .i64 W', .int .i64 H', .slice none 0 0] (B := w1.heap.size) rfl).cast (qs := [box w1.heap.size 34 [.int .i64 W', .int .i64 H', .slice none 0 0], box (w.heap.size + 1) 34 [.int .i64 0, .int .i64 0, .slice none 0 0], box w.heap.size 34 [.int .i64 W, .int .i64 H, .slice A n c]]) rfl)
  generalize w1.alloc (.cells #[.int .i64 W', .int .i64 H', .slice none 0 0] 34) = w2 at *
  generalize w1.heap.size = B7 at *
  clear S0 t1_0 t1_1 t1_2 lt1 t0_0 t0_1 t0_2 lt0 cx cr cy cb lx lr ly lb
  have S4 := Lib.hid ((S2.out.nil 4 1).cast (qs := [row 4 1 (.slice none 0 0) 0 [], box B7 34 [.int .i64 W', .int .i64 H', .slice none 0 0], box (w.heap.size + 1) 34 [.int .i64 0, .int .i64 0, .slice none 0 0], box w.heap.size 34 [.int .i64 W, .int .i64 H, .slice A n c]]) rfl)
  clear S2
  obtain ⟨t1_0, t1_1, t1_2, _⟩ := (S4.out.bx 1 rfl).c3
  have lt1 := (S4.out.bx 1 rfl).2.2
  clear e1 e2 e3 e4
  go_wp2_with fail
  clear t1_0 t1_1 t1_2 lt1
  go_loopg [29] N (fun q u29 wr => ∃ (i : Nat) (A5 : Option Addr) (c5 : Nat), i ≤ N ∧ u29 = .int .i64 i ∧ Hid (i + q = N ∧ Own w wr [row 4 1 (.slice A5 i c5) i (bools (padI W H W' x0 y0 l i)), box B7 34 [.int .i64 W', .int .i64 H', .slice A5 i c5], box (w.heap.size + 1) 34 [.int .i64 0, .int .i64 0, .slice none 0 0], box w.heap.size 34 [.int .i64 W, .int .i64 H, .slice A n c]]))
  case atStart => exact ⟨0, none, 0, by omega, rfl, by omega, S4.out⟩
  case round =>
    obtain ⟨i, A5, c5, hi, rfl, hI⟩ := hrel
    have I1 := Lib.hid hI.out.1
    have I2 := Lib.hid hI.out.2
    clear hI S4
    by_cases hlt : i < N
    case neg => as_aux_lemma =>
      obtain rfl : i = N := by omega
      obtain ⟨t1_0, t1_1, t1_2, _⟩ := (I2.out.bx 1 rfl).c3
      have lt1 := (I2.out.bx 1 rfl).2.2
      obtain ⟨t2_0, t2_1, t2_2, _⟩ := (I2.out.bx 2 rfl).c3
      have lt2 := (I2.out.bx 2 rfl).2.2
      go_wp2_with fail
      have S9 := Lib.hid (((I2.out.set 2 rfl 0 (.int .i64 W')).set 2 rfl 1 (.int .i64 H')).set 2 rfl 2 (.slice A5 i c5))
      have hlen := padI_len W H W' x0 y0 l i
      obtain ⟨v0, v1, v2, _⟩ := (S9.out.bx 2 rfl).c3
      refine bodyPost_ret (v := .agg #[.int .i64 W', .int .i64 H', .slice A5 i c5]) (by simp [results, Try.results47, go_sem, *]) rfl ⟨A5, c5, by rw [hlen], by rw [hlen]; exact (S9.out.sub [0] (by decide) (qs := [row 4 1 (.slice A5 i c5) i (bools (padI W H W' x0 y0 l i))]) rfl)⟩
    as_aux_lemma =>
    have i1 : (i : Int) < (N : Int) := by omega
    have q1 : (i : Int).tmod W' = (i : Int) % W' := Int.tmod_eq_emod_of_nonneg (by omega)
    have b1 : 0 ≤ (i : Int) % W' := Int.emod_nonneg _ (by omega)
    have b2 : (i : Int) % W' < W' := Int.emod_lt_of_pos _ (by omega)
    have b3 : 0 ≤ (i : Int) / W' := Int.ediv_nonneg (by omega) (by omega)
    have b4 : (i : Int) / W' ≤ i := Int.ediv_le_self _ (by omega)
    have q2 : IntKind.i64.wrap ((i : Int) / W') = (i : Int) / W' := IntWalk.i64_in _ (by omega)
    have q3 : IntKind.i64.wrap ((i : Int) % W' - x0) = (i : Int) % W' - x0 := IntWalk.i64_in _ (by omega)
    have q4 : IntKind.i64.wrap ((i : Int) / W' - y0) = (i : Int) / W' - y0 := IntWalk.i64_in _ (by omega)
    have HP := Lib.hid (padI_succ W H W' x0 y0 l i)
    have HK := Lib.hid (fun W1 h => K46.out ((plc W' i).1 - x0) ((plc W' i).2 - y0) W1 h)
    simp only [plc] at HP HK
    obtain ⟨t1_0, t1_1, t1_2, _⟩ := (I2.out.bx 1 rfl).c3
    have lt1 := (I2.out.bx 1 rfl).2.2
    obtain ⟨t3_0, t3_1, t3_2, _⟩ := (I2.out.bx 3 rfl).c3
    have lt3 := (I2.out.bx 3 rfl).2.2
    obtain ⟨cx, cr, cy, cb, lx, lr, ly, lb⟩ := (HC.out _ I2.out.bel).cells
    go_wp2_with fail
    refine wp_region_state 53 [(32, .pointer (some ⟨B7, 2, none⟩)), (33, .slice A5 i c5), (34, .agg #[.int .i64 W, .int .i64 H, .slice A n c]), (35, .int .i64 (i : Nat)), (36, .pointer (some ⟨B7, 0, none⟩)), (37, .int .i64 (W')), (38, .int .i64 ((i : Int) % W')), (39, .int .i64 (x0)), (40, .int .i64 ((i : Int) % W' - x0)), (41, .int .i64 (i : Nat)), (42, .pointer (some ⟨B7, 0, none⟩)), (43, .int .i64 (W')), (44, .int .i64 ((i : Int) / W')), (45, .int .i64 (y0)), (46, .int .i64 ((i : Int) / W' - y0)), (47, .bool (isF W H l ((i : Int) % W' - x0) ((i : Int) / W' - y0))), (50, .pointer (some ⟨B7, 2, none⟩))] (fun L vs w' => Own w w' [cond (L 17) (row 4 1 (vs 49) (i + 1) (bools (padI W H W' x0 y0 l (i + 1)))) (row 4 1 (.slice A5 i c5) i (bools (padI W H W' x0 y0 l i))), cond (L 16) (row 4 1 (vs 48) 1 [.bool (isF W H l ((i : Int) % W' - x0) ((i : Int) / W' - y0))]) (row 4 1 (.slice none 0 0) 0 []), box B7 34 [.int .i64 W', .int .i64 H', cond (L 19) (vs 49) (.slice A5 i c5)], box (w.heap.size + 1) 34 [.int .i64 0, .int .i64 0, .slice none 0 0], box w.heap.size 34 [.int .i64 W, .int .i64 H, .slice A n c]]) (by kernel_rfl) (by kernel_rfl) [32, 33, 34, 35, 36, 37, 38, 39, 40, 41, 42, 43, 44, 45, 46, 47, 48, 49, 50] (by kernel_rfl) rfl (by kernel_rfl) 20 rfl ?_ ?_ ?_
    · exact fun L hL => (((I2.out.nil 4 1).sub [1, 0, 2, 3, 4] (by decide) (qs := [row 4 1 (.slice A5 i c5) i (bools (padI W H W' x0 y0 l i)), row 4 1 (.slice none 0 0) 0 [], box B7 34 [.int .i64 W', .int .i64 H', .slice A5 i c5], box (w.heap.size + 1) 34 [.int .i64 0, .int .i64 0, .slice none 0 0], box w.heap.size 34 [.int .i64 W, .int .i64 H, .slice A n c]]) rfl).ext (Below.refl _ _).drew).cast (by simp [hL 16 (by decide), hL 17 (by decide), hL 19 (by decide)])
    · refine ⟨StepS.of [] (by kernel_rfl) ?_, ?_⟩
      · intro L vs wq hL hA hC hJ
        unfold forAll
        exact StepV.val 32 (by kernel_rfl) (by kernel_rfl) rfl (by simp) rfl rfl hJ
      refine ⟨StepS.of [32] (by kernel_rfl) ?_, ?_⟩
      · intro L vs wq hL hA hC hJ h32
        rw [(show vs 32 = .pointer (some ⟨B7, 2, none⟩) from h32)]
        unfold forAll
        have h19 := hC.no (j := 19) (i := 1) (by kernel_rfl) hL
        have t2 := (hJ.bx 2 rfl).1 2 _ rfl
        rw [h19] at t2
        replace t2 : wq.cell? ⟨B7, 2, none⟩ = some (.slice A5 i c5) := t2
        exact StepV.val 33 (by kernel_rfl) (by go_simp) rfl (by simp [Act.put]) rfl rfl hJ
      refine ⟨StepS.of [] (by kernel_rfl) ?_, ?_⟩
      · intro L vs wq hL hA hC hJ
        unfold forAll
        obtain ⟨t0, t1, t2, _⟩ := (hJ.bx 4 rfl).c3
        exact StepV.val 34 (by kernel_rfl) (by go_simp) rfl (by simp) rfl rfl hJ
      refine ⟨StepS.of [] (by kernel_rfl) ?_, ?_⟩
      · intro L vs wq hL hA hC hJ
        unfold forAll
        exact StepV.val 35 (by kernel_rfl) (by kernel_rfl) rfl (by simp) rfl rfl hJ
      refine ⟨StepS.of [] (by kernel_rfl) ?_, ?_⟩
      · intro L vs wq hL hA hC hJ
        unfold forAll
        exact StepV.val 36 (by kernel_rfl) (by kernel_rfl) rfl (by simp) rfl rfl hJ
      refine ⟨StepS.of [36] (by kernel_rfl) ?_, ?_⟩
      · intro L vs wq hL hA hC hJ h36
        rw [(show vs 36 = .pointer (some ⟨B7, 0, none⟩) from h36)]
        unfold forAll
        have t0 := (hJ.bx 2 rfl).1 0 _ rfl
        exact StepV.val 37 (by kernel_rfl) (by go_simp) rfl (by simp [Act.put]) rfl rfl hJ
      refine ⟨StepS.of [35, 37] (by kernel_rfl) ?_, ?_⟩
      · intro L vs wq hL hA hC hJ h35 h37
        rw [(show vs 35 = .int .i64 (i : Nat) from h35), (show vs 37 = .int .i64 (W') from h37)]
        unfold forAll
        exact StepV.val 38 (by kernel_rfl) (by go_simp) rfl (by simp [Act.put]) rfl rfl hJ
      refine ⟨StepS.of [] (by kernel_rfl) ?_, ?_⟩
      · intro L vs wq hL hA hC hJ
        unfold forAll
        have t0 := (HC.out _ hJ.bel).cells.1
        exact StepV.val 39 (by kernel_rfl) (by go_simp) rfl (by simp) rfl rfl hJ
      refine ⟨StepS.of [38, 39] (by kernel_rfl) ?_, ?_⟩
      · intro L vs wq hL hA hC hJ h38 h39
        rw [(show vs 38 = .int .i64 ((i : Int) % W') from h38), (show vs 39 = .int .i64 (x0) from h39)]
        unfold forAll
        exact StepV.val 40 (by kernel_rfl) (by go_simp) rfl (by simp [Act.put]) rfl rfl hJ
      refine ⟨StepS.of [] (by kernel_rfl) ?_, ?_⟩
      · intro L vs wq hL hA hC hJ
        unfold forAll
        exact StepV.val 41 (by kernel_rfl) (by kernel_rfl) rfl (by simp) rfl rfl hJ
      refine ⟨StepS.of [] (by kernel_rfl) ?_, ?_⟩
      · intro L vs wq hL hA hC hJ
        unfold forAll
        exact StepV.val 42 (by kernel_rfl) (by kernel_rfl) rfl (by simp) rfl rfl hJ
      refine ⟨StepS.of [42] (by kernel_rfl) ?_, ?_⟩
      · intro L vs wq hL hA hC hJ h42
        rw [(show vs 42 = .pointer (some ⟨B7, 0, none⟩) from h42)]
        unfold forAll
        have t0 := (hJ.bx 2 rfl).1 0 _ rfl
        exact StepV.val 43 (by kernel_rfl) (by go_simp) rfl (by simp [Act.put]) rfl rfl hJ
      refine ⟨StepS.of [41, 43] (by kernel_rfl) ?_, ?_⟩
      · intro L vs wq hL hA hC hJ h41 h43
        rw [(show vs 41 = .int .i64 (i : Nat) from h41), (show vs 43 = .int .i64 (W') from h43)]
        unfold forAll
        exact StepV.val 44 (by kernel_rfl) (by go_simp) rfl (by simp [Act.put]) rfl rfl hJ
      refine ⟨StepS.of [] (by kernel_rfl) ?_, ?_⟩
      · intro L vs wq hL hA hC hJ
        unfold forAll
        have t0 := (HC.out _ hJ.bel).cells.2.2.1
        exact StepV.val 45 (by kernel_rfl) (by go_simp) rfl (by simp) rfl rfl hJ
      refine ⟨StepS.of [44, 45] (by kernel_rfl) ?_, ?_⟩
      · intro L vs wq hL hA hC hJ h44 h45
        rw [(show vs 44 = .int .i64 ((i : Int) / W') from h44), (show vs 45 = .int .i64 (y0) from h45)]
        unfold forAll
        exact StepV.val 46 (by kernel_rfl) (by go_simp) rfl (by simp [Act.put]) rfl rfl hJ
      refine ⟨StepS.of [34, 40, 46] (by kernel_rfl) ?_, ?_⟩
      · intro L vs wq hL hA hC hJ h34 h40 h46
        rw [(show vs 34 = .agg #[.int .i64 W, .int .i64 H, .slice A n c] from h34), (show vs 40 = .int .i64 ((i : Int) % W' - x0) from h40), (show vs 46 = .int .i64 ((i : Int) / W' - y0) from h46)]
        unfold forAll
        refine StepV.call (f := 46) (args := #[.agg #[.int .i64 W, .int .i64 H, .slice A n c], .int .i64 ((i : Int) % W' - x0), .int .i64 ((i : Int) / W' - y0)]) (w1 := wq) 47 (by kernel_rfl) (by kernel_rfl) rfl (by simp [Act.put]) rfl ?_
        refine (HK.out _ hJ.bel).mono ?_
        rintro e w8 ⟨rfl, hb8⟩
        exact ⟨_, rfl, rfl, hJ.ext hb8⟩
      refine ⟨StepS.of [47] (by kernel_rfl) ?_, ?_⟩
      · intro L vs wq hL hA hC hJ h47
        rw [(show vs 47 = .bool (isF W H l ((i : Int) % W' - x0) ((i : Int) / W' - y0)) from h47)]
        unfold forAll
        have h17 := hC.no (j := 17) (i := 16) (by kernel_rfl) hL
        have h19 := hC.no (j := 19) (i := 16) (by kernel_rfl) hL
        have K := Own.cast (qs := [row 4 1 (.slice A5 i c5) i (bools (padI W H W' x0 y0 l i)), row 4 1 (.slice none 0 0) 0 [], box B7 34 [.int .i64 W', .int .i64 H', .slice A5 i c5], box (w.heap.size + 1) 34 [.int .i64 0, .int .i64 0, .slice none 0 0], box w.heap.size 34 [.int .i64 W, .int .i64 H, .slice A n c]]) hJ (by simp [hL, h17, h19])
        have K2 := (K.new' 4 #[.bool (isF W H l ((i : Int) % W' - x0) ((i : Int) / W' - y0))] (B := wq.heap.size) rfl).asRow (size := 1) (n := 1) 0 rfl rfl (by unfold maxLen; omega)
        have K3 := K2.sub [1, 0, 3, 4, 5] (by decide) (qs := [row 4 1 (.slice A5 i c5) i (bools (padI W H W' x0 y0 l i)), row 4 1 (.slice (some ⟨wq.heap.size, 0, none⟩) 1 1) 1 [.bool (isF W H l ((i : Int) % W' - x0) ((i : Int) / W' - y0))], box B7 34 [.int .i64 W', .int .i64 H', .slice A5 i c5], box (w.heap.size + 1) 34 [.int .i64 0, .int .i64 0, .slice none 0 0], box w.heap.size 34 [.int .i64 W, .int .i64 H, .slice A n c]]) rfl
        exact StepV.val 48 (v := .slice (some ⟨wq.heap.size, 0, none⟩) 1 1) (w' := wq.alloc (.cells #[.bool (isF W H l ((i : Int) % W' - x0) ((i : Int) / W' - y0))] 4)) (by kernel_rfl) (by go_simp) rfl (by simp [Act.put]) rfl trivial (K3.cast (by simp [upd, updv, h17, h19]))
      refine ⟨StepS.of [33, 48] (by kernel_rfl) ?_, ?_⟩
      · intro L vs wq hL hA hC hJ h33 h48
        rw [(show vs 33 = .slice A5 i c5 from h33)]
        unfold forAll
        have h16 : L 16 = true := afterS hA (i := 16) (by kernel_rfl)
        have h19 := hC.no (j := 19) (i := 17) (by kernel_rfl) hL
        have K := Own.cast (qs := [row 4 1 (.slice A5 i c5) i (bools (padI W H W' x0 y0 l i)), row 4 1 (vs 48) 1 [.bool (isF W H l ((i : Int) % W' - x0) ((i : Int) / W' - y0))], box B7 34 [.int .i64 W', .int .i64 H', .slice A5 i c5], box (w.heap.size + 1) 34 [.int .i64 0, .int .i64 0, .slice none 0 0], box w.heap.size 34 [.int .i64 W, .int .i64 H, .slice A n c]]) hJ (by simp [hL, h16, h19])
        obtain ⟨A8, c8, e8, ho8⟩ := rd_of_own (K.get 1 rfl)
        rw [e8]
        refine StepV.app 49 rfl (.tmp 33) (.tmp 48) 32 rfl rfl (by simp [Act.put]) rfl st32 0 K rfl (by simp [Act.eval, Act.put]) (by simp [Act.eval, Act.put]; rfl) (i + 1) (bools (padI W H W' x0 y0 l (i + 1))) [.bool (isF W H l ((i : Int) % W' - x0) ((i : Int) / W' - y0))] rfl (by rw [HP.out]; simp [bools]) ho8.rd rfl (by simp [Value.oneCell']) (by unfold maxLen; omega) (by omega) ?_
        intro A9 c9 w9 hO9
        exact ⟨trivial, hO9.cast (by simp [upd, updv, h16, h19, e8])⟩
      refine ⟨StepS.of [] (by kernel_rfl) ?_, ?_⟩
      · intro L vs wq hL hA hC hJ
        unfold forAll
        exact StepV.val 50 (by kernel_rfl) (by kernel_rfl) rfl (by simp) rfl rfl hJ
      refine ⟨StepS.of [50, 49] (by kernel_rfl) ?_, ?_⟩
      · intro L vs wq hL hA hC hJ h50 h49
        rw [(show vs 50 = .pointer (some ⟨B7, 2, none⟩) from h50)]
        unfold forAll
        have h17 : L 17 = true := afterS hA (i := 17) (by kernel_rfl)
        have h16 : L 16 = true := hC.yes (j := 17) (i := 16) (by kernel_rfl) h17
        have K := Own.cast (qs := [row 4 1 (vs 49) (i + 1) (bools (padI W H W' x0 y0 l (i + 1))), row 4 1 (vs 48) 1 [.bool (isF W H l ((i : Int) % W' - x0) ((i : Int) / W' - y0))], box B7 34 [.int .i64 W', .int .i64 H', .slice A5 i c5], box (w.heap.size + 1) 34 [.int .i64 0, .int .i64 0, .slice none 0 0], box w.heap.size 34 [.int .i64 W, .int .i64 H, .slice A n c]]) hJ (by simp [hL, h16, h17])
        obtain ⟨A9, c9, e9, _⟩ := rd_of_own (K.get 0 rfl)
        rw [e9]
        have t0 := (K.bx 2 rfl).1 2 _ rfl
        have tf := (K.bx 2 rfl).2.1
        have tl := (K.bx 2 rfl).2.2
        exact StepV.skip (by kernel_rfl) (by go_simp) rfl rfl ((K.set 2 rfl 2 (.slice A9 (i + 1) c9)).cast (by simp [upd, h16, h17, e9]))
      exact trivial
    · intro vs w9 hJ h32 h33 h34 h35 h36 h37 h38 h39 h40 h41 h42 h43 h44 h45 h46 h47 h48 h49 h50
      rw [(show vs 32 = .pointer (some ⟨B7, 2, none⟩) from h32), (show vs 33 = .slice A5 i c5 from h33), (show vs 34 = .agg #[.int .i64 W, .int .i64 H, .slice A n c] from h34), (show vs 35 = .int .i64 (i : Nat) from h35), (show vs 36 = .pointer (some ⟨B7, 0, none⟩) from h36), (show vs 37 = .int .i64 (W') from h37), (show vs 38 = .int .i64 ((i : Int) % W') from h38), (show vs 39 = .int .i64 (x0) from h39), (show vs 40 = .int .i64 ((i : Int) % W' - x0) from h40), (show vs 41 = .int .i64 (i : Nat) from h41), (show vs 42 = .pointer (some ⟨B7, 0, none⟩) from h42), (show vs 43 = .int .i64 (W') from h43), (show vs 44 = .int .i64 ((i : Int) / W') from h44), (show vs 45 = .int .i64 (y0) from h45), (show vs 46 = .int .i64 ((i : Int) / W' - y0) from h46), (show vs 47 = .bool (isF W H l ((i : Int) % W' - x0) ((i : Int) / W' - y0)) from h47), (show vs 50 = .pointer (some ⟨B7, 2, none⟩) from h50)]
      clear h32 h33 h34 h35 h36 h37 h38 h39 h40 h41 h42 h43 h44 h45 h46 h47 h48 h49 h50
      have K := Own.cast (qs := [row 4 1 (vs 49) (i + 1) (bools (padI W H W' x0 y0 l (i + 1))), row 4 1 (vs 48) 1 [.bool (isF W H l ((i : Int) % W' - x0) ((i : Int) / W' - y0))], box B7 34 [.int .i64 W', .int .i64 H', vs 49], box (w.heap.size + 1) 34 [.int .i64 0, .int .i64 0, .slice none 0 0], box w.heap.size 34 [.int .i64 W, .int .i64 H, .slice A n c]]) hJ rfl
      obtain ⟨A9, c9, e9, _⟩ := rd_of_own (K.get 0 rfl)
      obtain ⟨A8, c8, e8, _⟩ := rd_of_own (K.get 1 rfl)
      rw [e9] at K
      rw [e9, e8]
      have S9 := Lib.hid (K.sub [0, 2, 3, 4] (by decide) (qs := [row 4 1 (.slice A9 (i + 1) c9) (i + 1) (bools (padI W H W' x0 y0 l (i + 1))), box B7 34 [.int .i64 W', .int .i64 H', .slice A9 (i + 1) c9], box (w.heap.size + 1) 34 [.int .i64 0, .int .i64 0, .slice none 0 0], box w.heap.size 34 [.int .i64 W, .int .i64 H, .slice A n c]]) rfl)
      clear K hJ e8 e9
      unfold forAll
      simp only [Act.put, List.setIfInBounds_toArray, List.set_cons_zero, List.set_cons_succ]
      go_wp2_with fail
      go_roundg (gk - 1)
      case measure => have := I1.out; omega
      case rel => exact ⟨i + 1, A9, c9, by omega, by go_num, by have := I1.out; omega, S9.out⟩
end Go.Proofs.Ytjelnbfnoliocaa
