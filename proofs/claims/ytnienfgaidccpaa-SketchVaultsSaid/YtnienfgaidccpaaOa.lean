/- Sketch: how many secrets fit: the program. No condition. -/
import Derived.Test.YtnienfgaidccpaaLf
import Derived.Deep.MidRow
namespace Go.Proofs.Ytnienfgaidccpaa
open Go.RowKit Go.Shelf
attribute [local go_sem] Oper.semAt_some

/-- At how many of the first places a line of a slope has a number. -/
def votC (v : List Int) (s : Int) (m : Nat) (b : Nat) : Nat := (List.range m).countP fun x : Nat => decide ((vaV v (x : Int) - s * (x : Int)) % 31 = (b : Int))
theorem votC_succ (v : List Int) (s : Int) (m b : Nat) : votC v s (m + 1) b = votC v s m b + if (vaV v (m : Int) - s * (m : Int)) % 31 = (b : Int) then 1 else 0 := by
  unfold votC
  rw [List.range_succ, List.countP_append, List.countP_singleton]
  by_cases h : (vaV v (m : Int) - s * (m : Int)) % 31 = (b : Int) <;> simp [h]
theorem votC_le (v : List Int) (s : Int) (m b : Nat) : votC v s m b ≤ m := by
  have := List.countP_le_length (p := fun x : Nat => decide ((vaV v (x : Int) - s * (x : Int)) % 31 = (b : Int))) (l := List.range m)
  rwa [List.length_range] at this
/-- How many numbers of the first k fit with a slope. -/
def fitC (v : List Int) (s least : Int) (k : Nat) : Nat := (List.range k).countP fun b : Nat => decide (least ≤ ((votC v s 31 b : Nat) : Int))
theorem fitC_succ (v : List Int) (s least : Int) (k : Nat) : fitC v s least (k + 1) = fitC v s least k + if least ≤ ((votC v s 31 k : Nat) : Int) then 1 else 0 := by
  unfold fitC
  rw [List.range_succ, List.countP_append, List.countP_singleton]
  by_cases h : least ≤ ((votC v s 31 k : Nat) : Int) <;> simp [h]
theorem fitC_le (v : List Int) (s least : Int) (k : Nat) : fitC v s least k ≤ k := by
  have := List.countP_le_length (p := fun b : Nat => decide (least ≤ ((votC v s 31 b : Nat) : Int))) (l := List.range k)
  rwa [List.length_range] at this
def rivF (v : List Int) (least : Int) : Nat → Nat
  | 0 => 0
  | k + 1 => rivF v least k + fitC v (k : Int) least 31
theorem rivF_le (v : List Int) (least : Int) : ∀ k, rivF v least k ≤ 31 * k
  | 0 => Nat.le_refl _
  | k + 1 => by have := rivF_le v least k; have := fitC_le v (k : Int) least 31; simp only [rivF]; omega
def votL (v : List Int) (s : Int) (m : Nat) : List Int := tab 31 fun b => ((votC v s m b : Nat) : Int)
theorem votL_put (v : List Int) (s : Int) (m r : Nat) (h : (vaV v (m : Int) - s * (m : Int)) % 31 = (r : Int)) : (votL v s m).set r ((votC v s m r + 1 : Nat) : Int) = votL v s (m + 1) := by
  unfold votL
  rw [tab_set]
  refine tab_congr fun j _ => ?_
  rw [votC_succ, h]
  by_cases e : j = r
  · subst e; simp
  · rw [if_neg e, if_neg (by omega)]; rfl
def rivB (v : List Int) (n least : Int) : Bool := decide (v.length = 31) && (numB v && (decide (1 ≤ n) && (decide (n ≤ 2) && (decide (0 ≤ least) && decide (least ≤ 31)))))
def rivR (v : List Int) (n least : Int) : Int × Int := if rivB v n least = true then (((rivF v least (if n = 2 then 31 else 1) : Nat) : Int), 0) else (0, 2)
theorem idx31 (CS : List Value) {k : Nat} {x : Int} (hC : CS[k]? = some (.int .i64 x)) (hk : k < 31) (w : World) : (Instr.index 46 (.agg CS.toArray) (.int .i64 (k : Int))).run Try.prog w = .ok (.int .i64 x) w := by
  simp [Instr.index, run_underlying Try.underlying46, asIntOf, hC, go_sem]
  omega
set_option maxRecDepth 100000 in
set_option maxHeartbeats 4000000 in
theorem rivals_any (v : List Int) (A : Option Addr) (nv cv : Nat) (n least : Int) (w : World) (hv : Rd w A (i64s v)) (hn : nv = v.length) (hb : nv ≤ 1000) :
    Calls Try.prog 9 #[.slice A nv cv, .int .i64 n, .int .i64 least] w fun e w' => e = .returned (.tuple #[.int .i64 (rivR v n least).1, .int .i64 (rivR v n least).2]) ∧ Below w.heap.size w w' := by
  have KN := numbers_any v A nv cv w hv hn (by omega)
  by_cases h31 : nv = 31
  case neg => as_aux_lemma =>
    have HL := Lib.hid (show rivR v n least = (0, 2) by unfold rivR; rw [if_neg]; simp [rivB]; omega)
    have d1 : ((nv : Int) == 31) = false := by simp; omega
    clear hv hn hb KN
    go_enter Try.func9, Try.ntmps9
    go_wp2_with fail
    go_ret2
    exact ⟨by rw [HL.out]; rfl, Below.refl _ _⟩
  subst h31
  cases hnb : numB v
  · as_aux_lemma =>
    have HL := Lib.hid (show rivR v n least = (0, 2) by unfold rivR; rw [if_neg]; simp [rivB, hnb])
    rw [hnb] at KN
    replace KN := Lib.hid KN
    clear hv hn hb hnb
    go_enter Try.func9, Try.ntmps9
    go_wp2_with fail
    refine KN.out.mono ?_
    rintro e w2 ⟨rfl, rfl⟩
    go_wp2_with fail
    go_ret2
    exact ⟨by rw [HL.out]; rfl, Below.refl _ _⟩
  rw [hnb] at KN
  by_cases c1 : 1 ≤ n
  case neg => as_aux_lemma =>
    have HL := Lib.hid (show rivR v n least = (0, 2) by unfold rivR; rw [if_neg]; simp [rivB]; omega)
    have c1' : n < 1 := by omega
    replace KN := Lib.hid KN
    clear hv hn hb hnb c1
    go_enter Try.func9, Try.ntmps9
    go_wp2_with fail
    refine KN.out.mono ?_
    rintro e w2 ⟨rfl, rfl⟩
    go_wp2_with fail
    go_ret2
    exact ⟨by rw [HL.out]; rfl, Below.refl _ _⟩
  have c1' : ¬ n < 1 := by omega
  by_cases c2 : n ≤ 2
  case neg => as_aux_lemma =>
    have HL := Lib.hid (show rivR v n least = (0, 2) by unfold rivR; rw [if_neg]; simp [rivB]; omega)
    have c2' : 2 < n := by omega
    replace KN := Lib.hid KN
    clear hv hn hb hnb c2
    go_enter Try.func9, Try.ntmps9
    go_wp2_with fail
    refine KN.out.mono ?_
    rintro e w2 ⟨rfl, rfl⟩
    go_wp2_with fail
    go_ret2
    exact ⟨by rw [HL.out]; rfl, Below.refl _ _⟩
  have c2' : ¬ 2 < n := by omega
  by_cases c3 : 0 ≤ least
  case neg => as_aux_lemma =>
    have HL := Lib.hid (show rivR v n least = (0, 2) by unfold rivR; rw [if_neg]; simp [rivB]; omega)
    have c3' : least < 0 := by omega
    replace KN := Lib.hid KN
    clear hv hn hb hnb c3
    go_enter Try.func9, Try.ntmps9
    go_wp2_with fail
    refine KN.out.mono ?_
    rintro e w2 ⟨rfl, rfl⟩
    go_wp2_with fail
    go_ret2
    exact ⟨by rw [HL.out]; rfl, Below.refl _ _⟩
  have c3' : ¬ least < 0 := by omega
  by_cases c4 : least ≤ 31
  case neg => as_aux_lemma =>
    have HL := Lib.hid (show rivR v n least = (0, 2) by unfold rivR; rw [if_neg]; simp [rivB]; omega)
    have c4' : 31 < least := by omega
    replace KN := Lib.hid KN
    clear hv hn hb hnb c4
    go_enter Try.func9, Try.ntmps9
    go_wp2_with fail
    refine KN.out.mono ?_
    rintro e w2 ⟨rfl, rfl⟩
    go_wp2_with fail
    go_ret2
    exact ⟨by rw [HL.out]; rfl, Below.refl _ _⟩
  have c4' : ¬ 31 < least := by omega
  have HL := Lib.hid (show rivR v n least = (((rivF v least (if n = 2 then 31 else 1) : Nat) : Int), 0) by unfold rivR; rw [if_pos]; simp [rivB, hn.symm, hnb]; omega)
  have HVI := Lib.hid (numB_in hnb)
  have HV := Lib.hid hv
  have HN := Lib.hid hn
  rw [HL.out]
  obtain ⟨sn, hsn⟩ : ∃ s : Nat, s = if n = 2 then 31 else 1 := ⟨_, rfl⟩
  have HSN := Lib.hid hsn
  rw [← hsn]
  have hsn31 : sn ≤ 31 := by rw [hsn]; split <;> omega
  have hcase : n = 2 ∧ sn = 31 ∨ ¬ n = 2 ∧ sn = 1 := by
    by_cases e : n = 2
    · exact .inl ⟨e, by rw [hsn, if_pos e]⟩
    · exact .inr ⟨e, by rw [hsn, if_neg e]⟩
  replace KN := Lib.hid KN
  clear hv hn hsn hnb HL HSN
  rcases hcase with ⟨rfl, rfl⟩ | ⟨hn2, rfl⟩
  · as_aux_lemma =>
    go_enter Try.func9, Try.ntmps9
    go_wp2_with fail
    refine KN.out.mono ?_
    rintro e w2 ⟨rfl, rfl⟩
    go_wp2_with fail
    go_loopg [9, 43] 31 (fun q u9 u43 wr => ∃ s : Nat, s ≤ 31 ∧ u43 = .int .i64 (s : Nat) ∧ u9 = .int .i64 (rivF v least s : Nat) ∧ Hid (s + q = 31 ∧ Own w wr []))
    case atStart => exact ⟨0, by omega, rfl, rfl, by omega, Own.start w⟩
    case round =>
      obtain ⟨s, hs, rfl, rfl, hI⟩ := hrel
      have I1 := Lib.hid hI.out.1
      have I2 := Lib.hid hI.out.2
      clear hI
      by_cases hlt : s < 31
      case neg => as_aux_lemma =>
        obtain rfl : s = 31 := by omega
        go_wp2_with fail
        go_ret2
        exact ⟨rfl, I2.out.bel⟩
      have hsi : (s : Int) < 31 := by omega
      have zs : IntKind.i64.wrap ((s : Int) + 1) = ((s + 1 : Nat) : Int) := by rw [show (s : Int) + 1 = ((s + 1 : Nat) : Int) by omega]; exact IntWalk.i64_in _ (by omega)
      have hrl := rivF_le v least s
      have HRS := Lib.hid (show rivF v least (s + 1) = rivF v least s + fitC v (s : Int) least 31 from rfl)
      generalize rivF v least s = c0 at *
      obtain ⟨B, hB⟩ : ∃ B, B = wr.heap.size := ⟨_, rfl⟩
      have S3 := Lib.hid ((I2.out.new' 46 #[.int .i64 0, .int .i64 0, .int .i64 0, .int .i64 0, .int .i64 0, .int .i64 0, .int .i64 0, .int .i64 0, .int .i64 0, .int .i64 0, .int .i64 0, .int .i64 0, .int .i64 0, .int .i64 0, .int .i64 0, .int .i64 0, .int .i64 0, .int .i64 0, .int .i64 0, .int .i64 0, .int .i64 0, .int .i64 0, .int .i64 0, .int .i64 0, .int .i64 0, .int .i64 0, .int .i64 0, .int .i64 0, .int .i64 0, .int .i64 0, .int .i64 0] hB).cast (qs := [box B 46 (i64s (votL v (s : Int) 0))]) (by rw [show i64s (votL v (s : Int) 0) = [.int .i64 0, .int .i64 0, .int .i64 0, .int .i64 0, .int .i64 0, .int .i64 0, .int .i64 0, .int .i64 0, .int .i64 0, .int .i64 0, .int .i64 0, .int .i64 0, .int .i64 0, .int .i64 0, .int .i64 0, .int .i64 0, .int .i64 0, .int .i64 0, .int .i64 0, .int .i64 0, .int .i64 0, .int .i64 0, .int .i64 0, .int .i64 0, .int .i64 0, .int .i64 0, .int .i64 0, .int .i64 0, .int .i64 0, .int .i64 0, .int .i64 0] by simp [votL, votC, i64s, tab]; kernel_rfl]))
      clear I2
      go_wp2_with fail
      rw [← hB]
      clear hB
      generalize wr.alloc _ = w4 at *
      obtain ⟨G1, rfl⟩ : ∃ G1 : Nat, G1 = gk := ⟨_, rfl⟩
      go_loopg [48] 31 (fun q u48 wr => ∃ m : Nat, m ≤ 31 ∧ u48 = .int .i64 (m : Nat) ∧ Hid (m + q = 31 ∧ Own w wr [box B 46 (i64s (votL v (s : Int) m))]))
      case atStart => exact ⟨0, by omega, rfl, by omega, S3.out⟩
      case round =>
        obtain ⟨m, hm, rfl, hJ⟩ := hrel
        have J1 := Lib.hid hJ.out.1
        have J2 := Lib.hid hJ.out.2
        clear hJ S3
        by_cases hlm : m < 31
        · as_aux_lemma =>
          have hmi : (m : Int) < 31 := by omega
          have zm : IntKind.i64.wrap ((m : Int) + 1) = ((m + 1 : Nat) : Int) := by rw [show (m : Int) + 1 = ((m + 1 : Nat) : Int) by omega]; exact IntWalk.i64_in _ (by omega)
          have hml : m < v.length := by rw [← HN.out]; exact hlm
          obtain ⟨b, off, rfl, k0, l0⟩ := (HV.out.below J2.out.bel).i64 hml
          have hvm := HVI.out _ (List.getElem_mem hml)
          have HP := Lib.hid (fun r h => votL_put v (s : Int) m r h)
          rw [vaV_at hml] at HP
          generalize v[m] = y at *
          have hsm : 0 ≤ (s : Int) * (m : Int) ∧ (s : Int) * (m : Int) ≤ 31 * 31 := ⟨Int.mul_nonneg (by omega) (by omega), Int.mul_le_mul (by omega) (by omega) (by omega) (by omega)⟩
          have z1 : IntKind.i64.wrap ((s : Int) * (m : Int)) = (s : Int) * (m : Int) := IntWalk.i64_in _ (by omega)
          have z2 : IntKind.i64.wrap (y - (s : Int) * (m : Int)) = y - (s : Int) * (m : Int) := IntWalk.i64_in _ (by omega)
          obtain ⟨r, hr⟩ := Int.eq_ofNat_of_zero_le (show 0 ≤ (y - (s : Int) * (m : Int)) % 31 by omega)
          have hr31 : r < 31 := by omega
          have hri : (r : Int) < 31 := by omega
          have HP2 := Lib.hid (HP.out r hr)
          have hvl := votC_le v (s : Int) m r
          have u0 := (J2.out.bx 0 rfl).1 r _ (tab_i64 (fun b => ((votC v (s : Int) m b : Nat) : Int)) hr31)
          have uf := (J2.out.bx 0 rfl).2.1
          have ul := (J2.out.bx 0 rfl).2.2
          generalize votC v (s : Int) m r = q0 at *
          have zq : IntKind.i64.wrap ((q0 : Int) + 1) = ((q0 + 1 : Nat) : Int) := by rw [show (q0 : Int) + 1 = ((q0 + 1 : Nat) : Int) by omega]; exact IntWalk.i64_in _ (by omega)
          clear hml hvm HP hsm hvl
          go_wp2_with fail
          refine (mod_any _ _).mono ?_
          rintro e w5 ⟨rfl, rfl⟩
          rw [hr]
          go_wp2_with fail
          have S5 := Lib.hid (show Own w (wr.setCell ⟨B, r, none⟩ (.int .i64 ((q0 : Int) + 1))) [box B 46 (i64s (votL v (s : Int) (m + 1)))] from (J2.out.set 0 rfl r (.int .i64 ((q0 + 1 : Nat) : Int))).cast (by rw [← HP2.out, ← i64s_set]; rfl))
          clear J2 k0 l0 u0 uf ul
          generalize wr.setCell _ _ = w6 at *
          go_roundg (gk - 1)
          case measure => have := J1.out; omega
          case rel => exact ⟨m + 1, by omega, by go_num, by have := J1.out; omega, S5.out⟩
        obtain rfl : m = 31 := by omega
        have HRG := Lib.hid (show wr.rangeAt B 0 (i64s (votL v (s : Int) 31)) from fun j u hu => by rw [Nat.zero_add]; exact (J2.out.bx 0 rfl).1 j u hu)
        have HSZ := Lib.hid (show (Try.prog.info? 46).map (·.size) = some (i64s (votL v (s : Int) 31)).length by rw [show (i64s (votL v (s : Int) 31)).length = 31 by simp [i64s_len, votL, tab_len]]; kernel_rfl)
        have HAT := Lib.hid (fun k (hk : k < 31) => tab_i64 (fun b => ((votC v (s : Int) 31 b : Nat) : Int)) hk)
        have HSL := Lib.hid (show (i64s (votL v (s : Int) 31)).length = 31 by simp [i64s_len, votL, tab_len])
        have S6 := Lib.hid (J2.out.sub [] (by decide) (qs := []) rfl)
        obtain ⟨CS, hCS⟩ : ∃ CS, CS = i64s (votL v (s : Int) 31) := ⟨_, rfl⟩
        change Hid (∀ k, k < 31 → (i64s (votL v (s : Int) 31))[k]? = some (.int .i64 ((votC v (s : Int) 31 k : Nat) : Int))) at HAT
        rw [← hCS] at HRG HSZ HAT HSL
        clear J1 J2 hCS
        go_wp2_with (refine wpList_load_mid rfl 46 (.tmp 11) rfl B 0 rfl CS _ HRG.out Try.underlying46 rfl HSZ.out ?_)
        go_loopg [9, 65] 31 (fun q u9 u65 wr => ∃ k : Nat, k ≤ 31 ∧ u65 = .int .i64 (k : Nat) ∧ u9 = .int .i64 ((c0 + fitC v (s : Int) least k : Nat) : Int) ∧ Hid (k + q = 31 ∧ Own w wr []))
        case atStart => exact ⟨0, by omega, rfl, rfl, by omega, S6.out⟩
        case round =>
          obtain ⟨k, hk, rfl, rfl, hJ⟩ := hrel
          have J1 := Lib.hid hJ.out.1
          have J2 := Lib.hid hJ.out.2
          clear hJ S6 HRG HSZ
          by_cases hlk : k < 31
          case neg => as_aux_lemma =>
            obtain rfl : k = 31 := by omega
            go_wp2_with fail
            go_roundg (G1 - 1)
            case measure => have := I1.out; omega
            case rel => exact ⟨s + 1, by omega, by go_num, by rw [HRS.out], by have := I1.out; omega, J2.out⟩
          have hki : (k : Int) < 31 := by omega
          have zk : IntKind.i64.wrap ((k : Int) + 1) = ((k + 1 : Nat) : Int) := by rw [show (k : Int) + 1 = ((k + 1 : Nat) : Int) by omega]; exact IntWalk.i64_in _ (by omega)
          have hcs := fun W => idx31 CS (HAT.out k hlk) hlk W
          have hfl := fitC_le v (s : Int) least k
          have HFS := Lib.hid (fitC_succ v (s : Int) least k)
          generalize votC v (s : Int) 31 k = q0 at *
          generalize fitC v (s : Int) least k = f0 at *
          obtain ⟨f1, hf1⟩ : ∃ f1, f1 = fitC v (s : Int) least (k + 1) := ⟨_, rfl⟩
          rw [← hf1] at HFS
          have HF1 := Lib.hid hf1
          clear hf1
          by_cases hq : least ≤ (q0 : Int)
          · as_aux_lemma =>
            have HX := Lib.hid (show f1 = f0 + 1 by rw [HFS.out, if_pos hq])
            have zc : IntKind.i64.wrap (((c0 + f0 : Nat) : Int) + 1) = ((c0 + (f0 + 1) : Nat) : Int) := by rw [show ((c0 + f0 : Nat) : Int) + 1 = ((c0 + (f0 + 1) : Nat) : Int) by omega]; exact IntWalk.i64_in _ (by omega)
            go_wp2_with fail
            go_roundg (gk - 1)
            case measure => have := J1.out; omega
            case rel => exact ⟨k + 1, by omega, by go_num, by rw [← HF1.out, HX.out]; exact congrArg (Value.int .i64) (by omega), by have := J1.out; omega, J2.out⟩
          · as_aux_lemma =>
            have HX := Lib.hid (show f1 = f0 by rw [HFS.out, if_neg hq]; rfl)
            have hq2 : (q0 : Int) < least := by omega
            go_wp2_with fail
            go_roundg (gk - 1)
            case measure => have := J1.out; omega
            case rel => exact ⟨k + 1, by omega, by go_num, by rw [← HF1.out, HX.out]; exact congrArg (Value.int .i64) (by omega), by have := J1.out; omega, J2.out⟩
  · as_aux_lemma =>
    obtain rfl : n = 1 := by omega
    clear hn2
    go_enter Try.func9, Try.ntmps9
    go_wp2_with fail
    refine KN.out.mono ?_
    rintro e w2 ⟨rfl, rfl⟩
    go_wp2_with fail
    go_loopg [9, 43] 1 (fun q u9 u43 wr => ∃ s : Nat, s ≤ 1 ∧ u43 = .int .i64 (s : Nat) ∧ u9 = .int .i64 (rivF v least s : Nat) ∧ Hid (s + q = 1 ∧ Own w wr []))
    case atStart => exact ⟨0, by omega, rfl, rfl, by omega, Own.start w⟩
    case round =>
      obtain ⟨s, hs, rfl, rfl, hI⟩ := hrel
      have I1 := Lib.hid hI.out.1
      have I2 := Lib.hid hI.out.2
      clear hI
      by_cases hlt : s < 1
      case neg => as_aux_lemma =>
        obtain rfl : s = 1 := by omega
        go_wp2_with fail
        go_ret2
        exact ⟨rfl, I2.out.bel⟩
      have hsi : (s : Int) < 1 := by omega
      have zs : IntKind.i64.wrap ((s : Int) + 1) = ((s + 1 : Nat) : Int) := by rw [show (s : Int) + 1 = ((s + 1 : Nat) : Int) by omega]; exact IntWalk.i64_in _ (by omega)
      have hrl := rivF_le v least s
      have HRS := Lib.hid (show rivF v least (s + 1) = rivF v least s + fitC v (s : Int) least 31 from rfl)
      generalize rivF v least s = c0 at *
      obtain ⟨B, hB⟩ : ∃ B, B = wr.heap.size := ⟨_, rfl⟩
      have S3 := Lib.hid ((I2.out.new' 46 #[.int .i64 0, .int .i64 0, .int .i64 0, .int .i64 0, .int .i64 0, .int .i64 0, .int .i64 0, .int .i64 0, .int .i64 0, .int .i64 0, .int .i64 0, .int .i64 0, .int .i64 0, .int .i64 0, .int .i64 0, .int .i64 0, .int .i64 0, .int .i64 0, .int .i64 0, .int .i64 0, .int .i64 0, .int .i64 0, .int .i64 0, .int .i64 0, .int .i64 0, .int .i64 0, .int .i64 0, .int .i64 0, .int .i64 0, .int .i64 0, .int .i64 0] hB).cast (qs := [box B 46 (i64s (votL v (s : Int) 0))]) (by rw [show i64s (votL v (s : Int) 0) = [.int .i64 0, .int .i64 0, .int .i64 0, .int .i64 0, .int .i64 0, .int .i64 0, .int .i64 0, .int .i64 0, .int .i64 0, .int .i64 0, .int .i64 0, .int .i64 0, .int .i64 0, .int .i64 0, .int .i64 0, .int .i64 0, .int .i64 0, .int .i64 0, .int .i64 0, .int .i64 0, .int .i64 0, .int .i64 0, .int .i64 0, .int .i64 0, .int .i64 0, .int .i64 0, .int .i64 0, .int .i64 0, .int .i64 0, .int .i64 0, .int .i64 0] by simp [votL, votC, i64s, tab]; kernel_rfl]))
      clear I2
      go_wp2_with fail
      rw [← hB]
      clear hB
      generalize wr.alloc _ = w4 at *
      obtain ⟨G1, rfl⟩ : ∃ G1 : Nat, G1 = gk := ⟨_, rfl⟩
      go_loopg [48] 31 (fun q u48 wr => ∃ m : Nat, m ≤ 31 ∧ u48 = .int .i64 (m : Nat) ∧ Hid (m + q = 31 ∧ Own w wr [box B 46 (i64s (votL v (s : Int) m))]))
      case atStart => exact ⟨0, by omega, rfl, by omega, S3.out⟩
      case round =>
        obtain ⟨m, hm, rfl, hJ⟩ := hrel
        have J1 := Lib.hid hJ.out.1
        have J2 := Lib.hid hJ.out.2
        clear hJ S3
        by_cases hlm : m < 31
        · as_aux_lemma =>
          have hmi : (m : Int) < 31 := by omega
          have zm : IntKind.i64.wrap ((m : Int) + 1) = ((m + 1 : Nat) : Int) := by rw [show (m : Int) + 1 = ((m + 1 : Nat) : Int) by omega]; exact IntWalk.i64_in _ (by omega)
          have hml : m < v.length := by rw [← HN.out]; exact hlm
          obtain ⟨b, off, rfl, k0, l0⟩ := (HV.out.below J2.out.bel).i64 hml
          have hvm := HVI.out _ (List.getElem_mem hml)
          have HP := Lib.hid (fun r h => votL_put v (s : Int) m r h)
          rw [vaV_at hml] at HP
          generalize v[m] = y at *
          have hsm : 0 ≤ (s : Int) * (m : Int) ∧ (s : Int) * (m : Int) ≤ 31 * 31 := ⟨Int.mul_nonneg (by omega) (by omega), Int.mul_le_mul (by omega) (by omega) (by omega) (by omega)⟩
          have z1 : IntKind.i64.wrap ((s : Int) * (m : Int)) = (s : Int) * (m : Int) := IntWalk.i64_in _ (by omega)
          have z2 : IntKind.i64.wrap (y - (s : Int) * (m : Int)) = y - (s : Int) * (m : Int) := IntWalk.i64_in _ (by omega)
          obtain ⟨r, hr⟩ := Int.eq_ofNat_of_zero_le (show 0 ≤ (y - (s : Int) * (m : Int)) % 31 by omega)
          have hr31 : r < 31 := by omega
          have hri : (r : Int) < 31 := by omega
          have HP2 := Lib.hid (HP.out r hr)
          have hvl := votC_le v (s : Int) m r
          have u0 := (J2.out.bx 0 rfl).1 r _ (tab_i64 (fun b => ((votC v (s : Int) m b : Nat) : Int)) hr31)
          have uf := (J2.out.bx 0 rfl).2.1
          have ul := (J2.out.bx 0 rfl).2.2
          generalize votC v (s : Int) m r = q0 at *
          have zq : IntKind.i64.wrap ((q0 : Int) + 1) = ((q0 + 1 : Nat) : Int) := by rw [show (q0 : Int) + 1 = ((q0 + 1 : Nat) : Int) by omega]; exact IntWalk.i64_in _ (by omega)
          clear hml hvm HP hsm hvl
          go_wp2_with fail
          refine (mod_any _ _).mono ?_
          rintro e w5 ⟨rfl, rfl⟩
          rw [hr]
          go_wp2_with fail
          have S5 := Lib.hid (show Own w (wr.setCell ⟨B, r, none⟩ (.int .i64 ((q0 : Int) + 1))) [box B 46 (i64s (votL v (s : Int) (m + 1)))] from (J2.out.set 0 rfl r (.int .i64 ((q0 + 1 : Nat) : Int))).cast (by rw [← HP2.out, ← i64s_set]; rfl))
          clear J2 k0 l0 u0 uf ul
          generalize wr.setCell _ _ = w6 at *
          go_roundg (gk - 1)
          case measure => have := J1.out; omega
          case rel => exact ⟨m + 1, by omega, by go_num, by have := J1.out; omega, S5.out⟩
        obtain rfl : m = 31 := by omega
        have HRG := Lib.hid (show wr.rangeAt B 0 (i64s (votL v (s : Int) 31)) from fun j u hu => by rw [Nat.zero_add]; exact (J2.out.bx 0 rfl).1 j u hu)
        have HSZ := Lib.hid (show (Try.prog.info? 46).map (·.size) = some (i64s (votL v (s : Int) 31)).length by rw [show (i64s (votL v (s : Int) 31)).length = 31 by simp [i64s_len, votL, tab_len]]; kernel_rfl)
        have HAT := Lib.hid (fun k (hk : k < 31) => tab_i64 (fun b => ((votC v (s : Int) 31 b : Nat) : Int)) hk)
        have HSL := Lib.hid (show (i64s (votL v (s : Int) 31)).length = 31 by simp [i64s_len, votL, tab_len])
        have S6 := Lib.hid (J2.out.sub [] (by decide) (qs := []) rfl)
        obtain ⟨CS, hCS⟩ : ∃ CS, CS = i64s (votL v (s : Int) 31) := ⟨_, rfl⟩
        change Hid (∀ k, k < 31 → (i64s (votL v (s : Int) 31))[k]? = some (.int .i64 ((votC v (s : Int) 31 k : Nat) : Int))) at HAT
        rw [← hCS] at HRG HSZ HAT HSL
        clear J1 J2 hCS
        go_wp2_with (refine wpList_load_mid rfl 46 (.tmp 11) rfl B 0 rfl CS _ HRG.out Try.underlying46 rfl HSZ.out ?_)
        go_loopg [9, 65] 31 (fun q u9 u65 wr => ∃ k : Nat, k ≤ 31 ∧ u65 = .int .i64 (k : Nat) ∧ u9 = .int .i64 ((c0 + fitC v (s : Int) least k : Nat) : Int) ∧ Hid (k + q = 31 ∧ Own w wr []))
        case atStart => exact ⟨0, by omega, rfl, rfl, by omega, S6.out⟩
        case round =>
          obtain ⟨k, hk, rfl, rfl, hJ⟩ := hrel
          have J1 := Lib.hid hJ.out.1
          have J2 := Lib.hid hJ.out.2
          clear hJ S6 HRG HSZ
          by_cases hlk : k < 31
          case neg => as_aux_lemma =>
            obtain rfl : k = 31 := by omega
            go_wp2_with fail
            go_roundg (G1 - 1)
            case measure => have := I1.out; omega
            case rel => exact ⟨s + 1, by omega, by go_num, by rw [HRS.out], by have := I1.out; omega, J2.out⟩
          have hki : (k : Int) < 31 := by omega
          have zk : IntKind.i64.wrap ((k : Int) + 1) = ((k + 1 : Nat) : Int) := by rw [show (k : Int) + 1 = ((k + 1 : Nat) : Int) by omega]; exact IntWalk.i64_in _ (by omega)
          have hcs := fun W => idx31 CS (HAT.out k hlk) hlk W
          have hfl := fitC_le v (s : Int) least k
          have HFS := Lib.hid (fitC_succ v (s : Int) least k)
          generalize votC v (s : Int) 31 k = q0 at *
          generalize fitC v (s : Int) least k = f0 at *
          obtain ⟨f1, hf1⟩ : ∃ f1, f1 = fitC v (s : Int) least (k + 1) := ⟨_, rfl⟩
          rw [← hf1] at HFS
          have HF1 := Lib.hid hf1
          clear hf1
          by_cases hq : least ≤ (q0 : Int)
          · as_aux_lemma =>
            have HX := Lib.hid (show f1 = f0 + 1 by rw [HFS.out, if_pos hq])
            have zc : IntKind.i64.wrap (((c0 + f0 : Nat) : Int) + 1) = ((c0 + (f0 + 1) : Nat) : Int) := by rw [show ((c0 + f0 : Nat) : Int) + 1 = ((c0 + (f0 + 1) : Nat) : Int) by omega]; exact IntWalk.i64_in _ (by omega)
            go_wp2_with fail
            go_roundg (gk - 1)
            case measure => have := J1.out; omega
            case rel => exact ⟨k + 1, by omega, by go_num, by rw [← HF1.out, HX.out]; exact congrArg (Value.int .i64) (by omega), by have := J1.out; omega, J2.out⟩
          · as_aux_lemma =>
            have HX := Lib.hid (show f1 = f0 by rw [HFS.out, if_neg hq]; rfl)
            have hq2 : (q0 : Int) < least := by omega
            go_wp2_with fail
            go_roundg (gk - 1)
            case measure => have := J1.out; omega
            case rel => exact ⟨k + 1, by omega, by go_num, by rw [← HF1.out, HX.out]; exact congrArg (Value.int .i64) (by omega), by have := J1.out; omega, J2.out⟩
end Go.Proofs.Ytnienfgaidccpaa
