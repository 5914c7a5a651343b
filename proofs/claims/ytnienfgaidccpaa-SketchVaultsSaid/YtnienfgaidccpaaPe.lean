/- Sketch: Rivals of the reference. No condition. -/
import Derived.Test.YtnienfgaidccpaaPd
namespace Go.Proofs.Ytnienfgaidccpaa
open Go.RowKit Go.Shelf
attribute [local go_sem] Oper.semAt_some

/-- With how many of the first slopes a number fits. -/
def rowC (v : List Int) (least : Int) (a k : Nat) : Nat := (List.range k).countP fun b : Nat => decide (least ≤ ((votC v (b : Int) 31 a : Nat) : Int))
theorem rowC_succ (v : List Int) (least : Int) (a k : Nat) : rowC v least a (k + 1) = rowC v least a k + if least ≤ ((votC v (k : Int) 31 a : Nat) : Int) then 1 else 0 := by
  unfold rowC
  rw [List.range_succ, List.countP_append, List.countP_singleton]
  by_cases h : least ≤ ((votC v (k : Int) 31 a : Nat) : Int) <;> simp [h]
theorem rowC_le (v : List Int) (least : Int) (a k : Nat) : rowC v least a k ≤ k := by
  have := List.countP_le_length (p := fun b : Nat => decide (least ≤ ((votC v (b : Int) 31 a : Nat) : Int))) (l := List.range k)
  rwa [List.length_range] at this
def rivG (v : List Int) (least : Int) (m : Nat) : Nat → Nat
  | 0 => 0
  | k + 1 => rivG v least m k + fitC v (k : Int) least m
theorem rivG_31 (v : List Int) (least : Int) : ∀ k, rivG v least 31 k = rivF v least k
  | 0 => rfl
  | k + 1 => by simp only [rivG, rivF, rivG_31 v least k]
theorem rivG_zero (v : List Int) (least : Int) : ∀ k, rivG v least 0 k = 0
  | 0 => rfl
  | k + 1 => by simp only [rivG, rivG_zero v least k]; rfl
theorem rivG_succ (v : List Int) (least : Int) (m : Nat) : ∀ k, rivG v least (m + 1) k = rivG v least m k + rowC v least m k
  | 0 => rfl
  | k + 1 => by
    have h := rivG_succ v least m k
    simp only [rivG]
    rw [h, fitC_succ, rowC_succ]
    omega
theorem rivG_le (v : List Int) (least : Int) (m : Nat) : ∀ k, rivG v least m k ≤ m * k
  | 0 => Nat.le_refl _
  | k + 1 => by have := rivG_le v least m k; have := fitC_le v (k : Int) least m; simp only [rivG, Nat.mul_succ]; omega
theorem agr_count (V : Int → Int) (f : List Int) : agr V f (tab 31 fun x => (x : Int)) = (List.range 31).countP fun x : Nat => valF f (x : Int) == V (x : Int) := by
  unfold agr tab
  rw [← List.countP_eq_length_filter, List.countP_map]
  rfl
theorem agr_two {v : List Int} (vi : In31 v) {a b : Nat} (ha : a < 31) (hb : b < 31) : agr (vaV v) [(a : Int), (b : Int)] (tab 31 fun x => (x : Int)) = votC v (b : Int) 31 a := by
  rw [agr_count, votC]
  refine List.countP_congr fun x hx => ?_
  have hy := getD_in vi x
  have e : vaV v (x : Int) = v.getD x 0 := by simp [vaV]
  rw [e]
  generalize v.getD x 0 = y at *
  have e2 : ((b : Int) + (x : Int) * 0) % 31 = (b : Int) := by omega
  simp only [valF, e2, beq_iff_eq, decide_eq_true_eq]
  rw [Int.mul_comm (b : Int) (x : Int)]
  generalize (x : Int) * (b : Int) = t
  omega
theorem agr_one {v : List Int} (vi : In31 v) {a : Nat} (ha : a < 31) : agr (vaV v) [(a : Int)] (tab 31 fun x => (x : Int)) = votC v (0 : Int) 31 a := by
  rw [agr_count, votC]
  refine List.countP_congr fun x hx => ?_
  have hy := getD_in vi x
  have e : vaV v (x : Int) = v.getD x 0 := by simp [vaV]
  rw [e]
  generalize v.getD x 0 = y at *
  simp only [valF, beq_iff_eq, decide_eq_true_eq]
  omega
set_option maxRecDepth 100000 in
set_option maxHeartbeats 8000000 in
theorem refRivals_any (v : List Int) (A : Option Addr) (nv cv : Nat) (n least : Int) (w : World) (hv : Rd w A (i64s v)) (hn : nv = v.length) (hb : nv ≤ 1000) :
    Calls Try.prog 10 #[.slice A nv cv, .int .i64 n, .int .i64 least] w fun e w' => e = .returned (.tuple #[.int .i64 (rivR v n least).1, .int .i64 (rivR v n least).2]) ∧ Below w.heap.size w w' := by
  have K1 := refVault_any v A nv cv w hv hn (by omega)
  have K2 := Lib.hid (fun W1 => within_any n 1 2 W1)
  have K3 := Lib.hid (fun W1 => within_any least 0 31 W1)
  cases h1 : vauB v
  · as_aux_lemma =>
    have HL := Lib.hid (show rivR v n least = (0, 2) by
      unfold rivR
      rw [if_neg]
      intro h
      simp only [rivB, Bool.and_eq_true] at h
      have : vauB v = true := by simp only [vauB, Bool.and_eq_true]; exact ⟨h.1, h.2.1⟩
      rw [h1] at this; cases this)
    rw [h1] at K1
    replace K1 := Lib.hid K1
    clear hv hn hb h1
    go_enter Try.func10, Try.ntmps10
    go_wp2_with fail
    refine K1.out.mono ?_
    rintro e w1 ⟨rfl, rfl⟩
    go_wp2_with fail
    go_ret2
    exact ⟨by rw [HL.out]; rfl, Below.refl _ _⟩
  rw [h1] at K1
  replace K1 := Lib.hid K1
  by_cases h2 : 1 ≤ n ∧ n ≤ 2
  case neg => as_aux_lemma =>
    have HL := Lib.hid (show rivR v n least = (0, 2) by unfold rivR; rw [if_neg]; simp [rivB]; omega)
    rw [decide_eq_false h2] at K2
    clear hv hn hb h1 h2
    go_enter Try.func10, Try.ntmps10
    go_wp2_with fail
    refine K1.out.mono ?_
    rintro e w1 ⟨rfl, rfl⟩
    go_wp2_with fail
    refine (K2.out _).mono ?_
    rintro e w2 ⟨rfl, rfl⟩
    go_wp2_with fail
    go_ret2
    exact ⟨by rw [HL.out]; rfl, Below.refl _ _⟩
  rw [decide_eq_true h2] at K2
  by_cases h3 : 0 ≤ least ∧ least ≤ 31
  case neg => as_aux_lemma =>
    have HL := Lib.hid (show rivR v n least = (0, 2) by unfold rivR; rw [if_neg]; simp [rivB]; omega)
    rw [decide_eq_false h3] at K3
    clear hv hn hb h1 h3
    go_enter Try.func10, Try.ntmps10
    go_wp2_with fail
    refine K1.out.mono ?_
    rintro e w1 ⟨rfl, rfl⟩
    go_wp2_with fail
    refine (K2.out _).mono ?_
    rintro e w2 ⟨rfl, rfl⟩
    go_wp2_with fail
    refine (K3.out _).mono ?_
    rintro e w3 ⟨rfl, rfl⟩
    go_wp2_with fail
    go_ret2
    exact ⟨by rw [HL.out]; rfl, Below.refl _ _⟩
  rw [decide_eq_true h3] at K3
  have hvb := h1
  simp only [vauB, Bool.and_eq_true, decide_eq_true_eq] at hvb
  have vi := numB_in hvb.2
  have HVI := Lib.hid vi
  have HL := Lib.hid (show rivR v n least = (((rivG v least 31 (if n = 2 then 31 else 1) : Nat) : Int), 0) by
    unfold rivR
    rw [if_pos, rivG_31]
    simp only [rivB, Bool.and_eq_true]
    exact ⟨decide_eq_true hvb.1, hvb.2, decide_eq_true h2.1, decide_eq_true h2.2, decide_eq_true h3.1, decide_eq_true h3.2⟩)
  obtain rfl : nv = 31 := by rw [hn]; exact hvb.1
  rw [HL.out]
  have KA := Lib.hid (fun (f : List Int) A1 c1 A2 c2 (m : Nat) W (h : Below w.heap.size w W) (hf : Rd W A1 (i64s f)) (hm : m = f.length) (hm2 : m ≤ 1000) (fi : In31 f) (hs : Rd W A2 (i64s (tab 31 fun x => (x : Int)))) => refAgree_any f v (tab 31 fun x => (x : Int)) A1 A A2 m 31 31 c1 cv c2 W hf (hv.below h) hs hm hn (by rw [tab_len]) hm2 rfl (by omega) fi (fun s hs => by
    simp only [tab, List.mem_map, List.mem_range] at hs
    obtain ⟨x, hx, rfl⟩ := hs
    omega))
  have HZ := Lib.hid (fun k => rivG_zero v least k)
  clear hv hn hb h1 hvb vi HL
  have hcase : n = 2 ∨ n = 1 := by omega
  clear h2
  rcases hcase with rfl | rfl
  · as_aux_lemma =>
    rw [if_pos rfl]
    go_enter Try.func10, Try.ntmps10
    go_wp2_with fail
    refine K1.out.mono ?_
    rintro e w1 ⟨rfl, rfl⟩
    go_wp2_with fail
    refine (K2.out _).mono ?_
    rintro e w2 ⟨rfl, rfl⟩
    go_wp2_with fail
    refine (K3.out _).mono ?_
    rintro e w3 ⟨rfl, rfl⟩
    have S3 := Lib.hid ((Own.start w).nil 3 1)
    clear K1 K2 K3
    go_wp2_with fail
    go_loopg [8, 9] 31 (fun q u8 u9 wr => ∃ x : Nat, ∃ A8 c8, x ≤ 31 ∧ u9 = .int .i64 (x : Nat) ∧ u8 = .slice A8 x c8 ∧ Hid (x + q = 31 ∧ Own w wr [row 3 1 (.slice A8 x c8) x (i64s (tab x fun x => (x : Int)))]))
    case atStart => exact ⟨0, none, 0, by omega, rfl, rfl, by omega, S3.out⟩
    case round =>
      obtain ⟨x, A8, c8, hx, rfl, rfl, hI⟩ := hrel
      have I1 := Lib.hid hI.out.1
      have I2 := Lib.hid hI.out.2
      clear hI S3
      by_cases hlt : x < 31
      · as_aux_lemma =>
        have hxi : (x : Int) < 31 := by omega
        have zx : IntKind.i64.wrap ((x : Int) + 1) = ((x + 1 : Nat) : Int) := by rw [show (x : Int) + 1 = ((x + 1 : Nat) : Int) by omega]; exact IntWalk.i64_in _ (by omega)
        have HX := Lib.hid (show i64s (tab x fun x => (x : Int)) ++ [.int .i64 (x : Int)] = i64s (tab (x + 1) fun x => (x : Int)) by rw [tab_snoc, i64s_app])
        have S7 := Lib.hid (I2.out.ext (below_alloc wr (.cells #[.int .i64 (x : Int)] 3)))
        have HN7 := Lib.hid (Rd.new wr #[.int .i64 (x : Int)] 3)
        clear I2
        go_wp2_with (at_builtin; (refine wpList_appP rfl (.tmp 30) (.tmp 32) 22 rfl stI 0 S7.out rfl rfl rfl (x + 1) (i64s (tab (x + 1) fun x => (x : Int))) ?_ [.int .i64 (x : Int)] rfl HX.out HN7.out rfl (by simp [Value.oneCell']) (by unfold maxLen; omega) (by omega); intro A9 c9 w9 hS9); have S9 := Lib.hid (hS9.cast (qs := [row 3 1 (.slice A9 (x + 1) c9) (x + 1) (i64s (tab (x + 1) fun x => (x : Int)))]) rfl); clear hS9 S7 HN7)
        go_roundg (gk - 1)
        case measure => have := I1.out; omega
        case rel => exact ⟨x + 1, A9, c9, by omega, by go_num, rfl, by have := I1.out; omega, S9.out⟩
      obtain rfl : x = 31 := by omega
      obtain ⟨g8, rfl⟩ := I2.out.rowAddr 0 rfl (by decide)
      clear I1
      go_wp2_with fail
      go_loopg [10, 11] 31 (fun q u10 u11 wr => ∃ a : Nat, a ≤ 31 ∧ u11 = .int .i64 (a : Nat) ∧ u10 = .int .i64 (rivG v least a 31 : Nat) ∧ Hid (a + q = 31 ∧ Own w wr [row 3 1 (.slice (some ⟨g8, 0, none⟩) 31 c8) 31 (i64s (tab 31 fun x => (x : Int)))]))
      case atStart => exact ⟨0, by omega, rfl, by rw [HZ.out]; rfl, by omega, I2.out⟩
      case round =>
        obtain ⟨a, ha, rfl, rfl, hJ⟩ := hrel
        have J1 := Lib.hid hJ.out.1
        have J2 := Lib.hid hJ.out.2
        clear hJ I2 HZ
        by_cases hla : a < 31
        case neg => as_aux_lemma =>
          obtain rfl : a = 31 := by omega
          go_wp2_with fail
          go_ret2
          exact ⟨rfl, J2.out.bel⟩
        obtain ⟨G1, rfl⟩ : ∃ G1 : Nat, G1 = gk := ⟨_, rfl⟩
        have hai : (a : Int) < 31 := by omega
        have za : IntKind.i64.wrap ((a : Int) + 1) = ((a + 1 : Nat) : Int) := by rw [show (a : Int) + 1 = ((a + 1 : Nat) : Int) by omega]; exact IntWalk.i64_in _ (by omega)
        have hgl := rivG_le v least a 31
        have HGS := Lib.hid (rivG_succ v least a 31)
        generalize rivG v least a 31 = c0 at *
        go_wp2_with fail
        go_loopg [10, 12] 31 (fun q u10 u12 wr => ∃ b : Nat, b ≤ 31 ∧ u12 = .int .i64 (b : Nat) ∧ u10 = .int .i64 ((c0 + rowC v least a b : Nat) : Int) ∧ Hid (b + q = 31 ∧ Own w wr [row 3 1 (.slice (some ⟨g8, 0, none⟩) 31 c8) 31 (i64s (tab 31 fun x => (x : Int)))]))
        case atStart => exact ⟨0, by omega, rfl, rfl, by omega, J2.out⟩
        case round =>
          obtain ⟨b, hbb, rfl, rfl, hI⟩ := hrel
          have L1 := Lib.hid hI.out.1
          have L2 := Lib.hid hI.out.2
          clear hI J2
          by_cases hbl : b < 31
          case neg => as_aux_lemma =>
            obtain rfl : b = 31 := by omega
            go_wp2_with fail
            go_roundg (G1 - 1)
            case measure => have := J1.out; omega
            case rel => exact ⟨a + 1, by omega, by go_num, by rw [HGS.out], by have := J1.out; omega, L2.out⟩
          have hlb : b < 31 := by omega
          have hbi : (b : Int) < 31 := by omega

          have zb : IntKind.i64.wrap ((b : Int) + 1) = ((b + 1 : Nat) : Int) := by rw [show (b : Int) + 1 = ((b + 1 : Nat) : Int) by omega]; exact IntWalk.i64_in _ (by omega)
          have hrl := rowC_le v least a b
          have HRS := Lib.hid (rowC_succ v least a b)
          have KB := Lib.hid (fun A1 W h hf hs => KA.out [(a : Int), (b : Int)] A1 2 (some ⟨g8, 0, none⟩) c8 2 W h hf rfl (by omega) (fun s hs => by simp at hs; omega) hs)
          rw [agr_two HVI.out hla hlb] at KB
          change Hid (∀ A1 W, Below w.heap.size w W → Rd W A1 (i64s [(a : Int), (b : Int)]) → Rd W (some ⟨g8, 0, none⟩) (i64s (tab 31 fun x => (x : Int))) → _) at KB
          generalize votC v (b : Int) 31 a = q0 at *
          generalize rowC v least a b = f0 at *
          obtain ⟨f1, hf1⟩ : ∃ f1, f1 = rowC v least a (b + 1) := ⟨_, rfl⟩
          rw [← hf1] at HRS
          have HF1 := Lib.hid hf1
          clear hf1
          obtain ⟨B5, hB5⟩ : ∃ B, B = wr.heap.size := ⟨_, rfl⟩
          have S5 := Lib.hid (L2.out.new' 3 #[.int .i64 (a : Nat), .int .i64 (b : Nat)] hB5)
          clear L2
          go_wp2_with fail
          rw [← hB5]
          clear hB5
          generalize wr.alloc _ = w5 at *
          refine (KB.out _ _ S5.out.bel (rd_box (xs := i64s [(a : Int), (b : Int)]) (sp := []) (S5.out.bx 0 rfl)) (S5.out.rd 1 rfl)).mono ?_
          rintro e w6 ⟨rfl, hb6⟩
          have S6 := Lib.hid ((S5.out.ext hb6).sub [1] (by decide) (qs := [row 3 1 (.slice (some ⟨g8, 0, none⟩) 31 c8) 31 (i64s (tab 31 fun x => (x : Int)))]) rfl)
          clear hb6 S5 KB
          by_cases hq : least ≤ (q0 : Int)
          · as_aux_lemma =>
            have HX := Lib.hid (show f1 = f0 + 1 by rw [HRS.out, if_pos hq])
            have zc : IntKind.i64.wrap (((c0 + f0 : Nat) : Int) + 1) = ((c0 + (f0 + 1) : Nat) : Int) := by rw [show ((c0 + f0 : Nat) : Int) + 1 = ((c0 + (f0 + 1) : Nat) : Int) by omega]; exact IntWalk.i64_in _ (by omega)
            go_wp2_with fail
            go_roundg (gk - 1)
            case measure => have := L1.out; omega
            case rel => exact ⟨b + 1, by omega, by go_num, by rw [← HF1.out, HX.out]; exact congrArg (Value.int .i64) (by omega), by have := L1.out; omega, S6.out⟩
          · as_aux_lemma =>
            have HX := Lib.hid (show f1 = f0 by rw [HRS.out, if_neg hq]; rfl)
            have hq2 : (q0 : Int) < least := by omega
            go_wp2_with fail
            go_roundg (gk - 1)
            case measure => have := L1.out; omega
            case rel => exact ⟨b + 1, by omega, by go_num, by rw [← HF1.out, HX.out]; exact congrArg (Value.int .i64) (by omega), by have := L1.out; omega, S6.out⟩
  · as_aux_lemma =>
    rw [if_neg (by decide)]
    go_enter Try.func10, Try.ntmps10
    go_wp2_with fail
    refine K1.out.mono ?_
    rintro e w1 ⟨rfl, rfl⟩
    go_wp2_with fail
    refine (K2.out _).mono ?_
    rintro e w2 ⟨rfl, rfl⟩
    go_wp2_with fail
    refine (K3.out _).mono ?_
    rintro e w3 ⟨rfl, rfl⟩
    have S3 := Lib.hid ((Own.start w).nil 3 1)
    clear K1 K2 K3
    go_wp2_with fail
    go_loopg [8, 9] 31 (fun q u8 u9 wr => ∃ x : Nat, ∃ A8 c8, x ≤ 31 ∧ u9 = .int .i64 (x : Nat) ∧ u8 = .slice A8 x c8 ∧ Hid (x + q = 31 ∧ Own w wr [row 3 1 (.slice A8 x c8) x (i64s (tab x fun x => (x : Int)))]))
    case atStart => exact ⟨0, none, 0, by omega, rfl, rfl, by omega, S3.out⟩
    case round =>
      obtain ⟨x, A8, c8, hx, rfl, rfl, hI⟩ := hrel
      have I1 := Lib.hid hI.out.1
      have I2 := Lib.hid hI.out.2
      clear hI S3
      by_cases hlt : x < 31
      · as_aux_lemma =>
        have hxi : (x : Int) < 31 := by omega
        have zx : IntKind.i64.wrap ((x : Int) + 1) = ((x + 1 : Nat) : Int) := by rw [show (x : Int) + 1 = ((x + 1 : Nat) : Int) by omega]; exact IntWalk.i64_in _ (by omega)
        have HX := Lib.hid (show i64s (tab x fun x => (x : Int)) ++ [.int .i64 (x : Int)] = i64s (tab (x + 1) fun x => (x : Int)) by rw [tab_snoc, i64s_app])
        have S7 := Lib.hid (I2.out.ext (below_alloc wr (.cells #[.int .i64 (x : Int)] 3)))
        have HN7 := Lib.hid (Rd.new wr #[.int .i64 (x : Int)] 3)
        clear I2
        go_wp2_with (at_builtin; (refine wpList_appP rfl (.tmp 30) (.tmp 32) 22 rfl stI 0 S7.out rfl rfl rfl (x + 1) (i64s (tab (x + 1) fun x => (x : Int))) ?_ [.int .i64 (x : Int)] rfl HX.out HN7.out rfl (by simp [Value.oneCell']) (by unfold maxLen; omega) (by omega); intro A9 c9 w9 hS9); have S9 := Lib.hid (hS9.cast (qs := [row 3 1 (.slice A9 (x + 1) c9) (x + 1) (i64s (tab (x + 1) fun x => (x : Int)))]) rfl); clear hS9 S7 HN7)
        go_roundg (gk - 1)
        case measure => have := I1.out; omega
        case rel => exact ⟨x + 1, A9, c9, by omega, by go_num, rfl, by have := I1.out; omega, S9.out⟩
      obtain rfl : x = 31 := by omega
      obtain ⟨g8, rfl⟩ := I2.out.rowAddr 0 rfl (by decide)
      clear I1
      go_wp2_with fail
      go_loopg [10, 11] 31 (fun q u10 u11 wr => ∃ a : Nat, a ≤ 31 ∧ u11 = .int .i64 (a : Nat) ∧ u10 = .int .i64 (rivG v least a 1 : Nat) ∧ Hid (a + q = 31 ∧ Own w wr [row 3 1 (.slice (some ⟨g8, 0, none⟩) 31 c8) 31 (i64s (tab 31 fun x => (x : Int)))]))
      case atStart => exact ⟨0, by omega, rfl, by rw [HZ.out]; rfl, by omega, I2.out⟩
      case round =>
        obtain ⟨a, ha, rfl, rfl, hJ⟩ := hrel
        have J1 := Lib.hid hJ.out.1
        have J2 := Lib.hid hJ.out.2
        clear hJ I2 HZ
        by_cases hla : a < 31
        case neg => as_aux_lemma =>
          obtain rfl : a = 31 := by omega
          go_wp2_with fail
          go_ret2
          exact ⟨rfl, J2.out.bel⟩
        obtain ⟨G1, rfl⟩ : ∃ G1 : Nat, G1 = gk := ⟨_, rfl⟩
        have hai : (a : Int) < 31 := by omega
        have za : IntKind.i64.wrap ((a : Int) + 1) = ((a + 1 : Nat) : Int) := by rw [show (a : Int) + 1 = ((a + 1 : Nat) : Int) by omega]; exact IntWalk.i64_in _ (by omega)
        have hgl := rivG_le v least a 1
        have HGS := Lib.hid (rivG_succ v least a 1)
        generalize rivG v least a 1 = c0 at *
        go_wp2_with fail
        go_loopg [10, 12] 1 (fun q u10 u12 wr => ∃ b : Nat, b ≤ 1 ∧ u12 = .int .i64 (b : Nat) ∧ u10 = .int .i64 ((c0 + rowC v least a b : Nat) : Int) ∧ Hid (b + q = 1 ∧ Own w wr [row 3 1 (.slice (some ⟨g8, 0, none⟩) 31 c8) 31 (i64s (tab 31 fun x => (x : Int)))]))
        case atStart => exact ⟨0, by omega, rfl, rfl, by omega, J2.out⟩
        case round =>
          obtain ⟨b, hbb, rfl, rfl, hI⟩ := hrel
          have L1 := Lib.hid hI.out.1
          have L2 := Lib.hid hI.out.2
          clear hI J2
          by_cases hbl : b < 1
          case neg => as_aux_lemma =>
            obtain rfl : b = 1 := by omega
            go_wp2_with fail
            go_roundg (G1 - 1)
            case measure => have := J1.out; omega
            case rel => exact ⟨a + 1, by omega, by go_num, by rw [HGS.out], by have := J1.out; omega, L2.out⟩
          have hlb : b < 31 := by omega
          have hbi : (b : Int) < 31 := by omega
          obtain rfl : b = 0 := by omega
          have zb : IntKind.i64.wrap ((0 : Int) + 1) = ((0 + 1 : Nat) : Int) := by rw [show (0 : Int) + 1 = ((0 + 1 : Nat) : Int) by omega]; exact IntWalk.i64_in _ (by omega)
          have hrl := rowC_le v least a 0
          have HRS := Lib.hid (rowC_succ v least a 0)
          have KB := Lib.hid (fun A1 W h hf hs => KA.out [(a : Int)] A1 2 (some ⟨g8, 0, none⟩) c8 1 W h hf rfl (by omega) (fun s hs => by simp at hs; omega) hs)
          rw [agr_one HVI.out hla] at KB
          change Hid (∀ A1 W, Below w.heap.size w W → Rd W A1 (i64s [(a : Int)]) → Rd W (some ⟨g8, 0, none⟩) (i64s (tab 31 fun x => (x : Int))) → _) at KB
          generalize votC v (0 : Int) 31 a = q0 at *
          generalize rowC v least a 0 = f0 at *
          obtain ⟨f1, hf1⟩ : ∃ f1, f1 = rowC v least a (0 + 1) := ⟨_, rfl⟩
          rw [← hf1] at HRS
          have HF1 := Lib.hid hf1
          clear hf1
          obtain ⟨B5, hB5⟩ : ∃ B, B = wr.heap.size := ⟨_, rfl⟩
          have S5 := Lib.hid (L2.out.new' 3 #[.int .i64 (a : Nat), .int .i64 0] hB5)
          clear L2
          go_wp2_with fail
          rw [← hB5]
          clear hB5
          generalize wr.alloc _ = w5 at *
          refine (KB.out _ _ S5.out.bel (rd_box (xs := i64s [(a : Int)]) (sp := [.int .i64 0]) (S5.out.bx 0 rfl)) (S5.out.rd 1 rfl)).mono ?_
          rintro e w6 ⟨rfl, hb6⟩
          have S6 := Lib.hid ((S5.out.ext hb6).sub [1] (by decide) (qs := [row 3 1 (.slice (some ⟨g8, 0, none⟩) 31 c8) 31 (i64s (tab 31 fun x => (x : Int)))]) rfl)
          clear hb6 S5 KB
          by_cases hq : least ≤ (q0 : Int)
          · as_aux_lemma =>
            have HX := Lib.hid (show f1 = f0 + 1 by rw [HRS.out, if_pos hq])
            have zc : IntKind.i64.wrap (((c0 + f0 : Nat) : Int) + 1) = ((c0 + (f0 + 1) : Nat) : Int) := by rw [show ((c0 + f0 : Nat) : Int) + 1 = ((c0 + (f0 + 1) : Nat) : Int) by omega]; exact IntWalk.i64_in _ (by omega)
            go_wp2_with fail
            go_roundg (gk - 1)
            case measure => have := L1.out; omega
            case rel => exact ⟨0 + 1, by omega, by go_num, by rw [← HF1.out, HX.out]; exact congrArg (Value.int .i64) (by omega), by have := L1.out; omega, S6.out⟩
          · as_aux_lemma =>
            have HX := Lib.hid (show f1 = f0 by rw [HRS.out, if_neg hq]; rfl)
            have hq2 : (q0 : Int) < least := by omega
            go_wp2_with fail
            go_roundg (gk - 1)
            case measure => have := L1.out; omega
            case rel => exact ⟨0 + 1, by omega, by go_num, by rw [← HF1.out, HX.out]; exact congrArg (Value.int .i64) (by omega), by have := L1.out; omega, S6.out⟩
end Go.Proofs.Ytnienfgaidccpaa
