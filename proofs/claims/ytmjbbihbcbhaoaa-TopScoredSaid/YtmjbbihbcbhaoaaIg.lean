/- Top: the walk of TopScored. No condition. -/
import Derived.Test.YtmjbbihbcbhaoaaIf
import Derived.Test.YtmjbbihbcbhaoaaSt
namespace Go.Proofs.Ytmjbbihbcbhaoaa
open Go.RowKit Go.Shelf
attribute [local go_sem] Oper.semAt_some

/-- A stranger's code. -/
abbrev Iri := Nat × Nat
def encI (x : Iri) : List Value := [.int .u64 (x.1 : Nat), .int .u64 (x.2 : Nat)]
theorem encI_len (x : Iri) : (encI x).length = 2 := rfl
theorem Rd.iri {w : World} {A : Option Addr} {l : List Iri} (h : Rd w A (flat encI l)) {k : Nat} (hk : k < l.length) :
    ∃ b off, A = some ⟨b, off, none⟩ ∧ b < w.heap.size ∧ w.cell? ⟨b, off + k * 2, none⟩ = some (.int .u64 (l[k].1 : Nat)) ∧ w.cell? ⟨b, off + k * 2 + 1, none⟩ = some (.int .u64 (l[k].2 : Nat)) := by
  have F := fun j (hj : j < 2) => flat_get encI 2 encI_len l k l[k] j (List.getElem?_eq_getElem hk) hj
  have f0 : (flat encI l)[k * 2]? = some (.int .u64 (l[k].1 : Nat)) := by rw [← Nat.add_zero (k * 2), F 0 (by omega)]; rfl
  have f1 : (flat encI l)[k * 2 + 1]? = some (.int .u64 (l[k].2 : Nat)) := by rw [F 1 (by omega)]; rfl
  obtain ⟨b, off, e, hb, hc⟩ := h.at_ f0
  exact ⟨b, off, e, hb, hc _ _ f0, by rw [Nat.add_assoc]; exact hc _ _ f1⟩
theorem rd_sub {w : World} {b off : Nat} {xs : List Value} (h : Rd w (some ⟨b, off, none⟩) xs) (k m : Nat) : Rd w (some ⟨b, off + k, none⟩) ((xs.drop k).take m) := by
  rcases h with h | ⟨b', off', e, hb, hc⟩
  · exact .inl (by simp [h])
  · injection e with e
    injection e with e1 e2
    subst e1 e2
    refine .inr ⟨b, off + k, rfl, hb, fun j u hu => ?_⟩
    rw [List.getElem?_take] at hu
    split at hu
    · rw [List.getElem?_drop] at hu
      rw [Nat.add_assoc]
      exact hc _ _ hu
    · cases hu
theorem ints_takeL (l : List Int) (k : Nat) : (ints l).take k = ints (l.take k) := by simp [ints]
theorem ints_dropL (l : List Int) (k : Nat) : (ints l).drop k = ints (l.drop k) := by simp [ints]
theorem rd_take {w : World} {b off : Nat} {l : List Int} (h : Rd w (some ⟨b, off, none⟩) (ints l)) (k : Nat) : Rd w (some ⟨b, off, none⟩) (ints (l.take k)) := by
  have := rd_sub h 0 k
  rwa [Nat.add_zero, List.drop_zero, ints_takeL] at this
theorem rd_drop {w : World} {b off : Nat} {l : List Int} (h : Rd w (some ⟨b, off, none⟩) (ints l)) (k : Nat) : Rd w (some ⟨b, off + k, none⟩) (ints (l.drop k)) := by
  have := rd_sub h k (ints l).length
  rw [List.take_of_length_le (by simp), ints_dropL] at this
  exact this
/-- A stranger's score. -/
def scI (c m : Nat) (t : Int) (x : Iri) : Int := (((scoS c m x.1 x.2 t).1 : Nat) : Int)
theorem ints_snoc {l : List Iri} {k : Nat} (h : k < l.length) (f : Iri → Int) : ints ((l.take k).map f) ++ ints [f l[k]] = ints ((l.take (k + 1)).map f) := by
  rw [List.take_succ_eq_append_getElem h, List.map_append]
  simp only [ints, List.map_append, List.map_cons, List.map_nil]
theorem fr_scores (c m : Nat) (t : Int) (l : List Iri) : frB 0 1000 (l.map (scI c m t)) = true := by
  rw [frB, List.all_eq_true]
  intro x hx
  obtain ⟨y, _, rfl⟩ := List.mem_map.1 hx
  have := scoS_le c m y.1 y.2 t
  rw [inB, decide_eq_true_eq]
  unfold scI
  omega
theorem thr_wo {S : List Int} {num den : Int} (hf : frB 0 1000 S = true) (hs : shareB num den = true) (hn : S.length ≤ 60) (i : Nat) (hi : i < S.length) : ∃ u, thrF (wo S i) num den = (u, 0) := by
  unfold thrF
  have h1 : scoE (wo S i) = 0 := by
    unfold scoE
    rw [if_neg (by rw [wo_len hi]; omega), if_pos (frB_wo hf)]
  rw [if_pos h1, if_pos hs]
  exact ⟨_, rfl⟩
theorem mul_bd {a b A B : Int} (ha : 0 ≤ a) (hb : 0 ≤ b) (h1 : a ≤ A) (h2 : b ≤ B) : 0 ≤ a * b ∧ a * b ≤ A * B :=
  ⟨Int.mul_nonneg ha hb, Int.mul_le_mul h1 h2 hb (Int.le_trans ha h1)⟩
set_option maxRecDepth 100000 in
set_option maxHeartbeats 8000000 in
theorem topScored_walk (c m : Nat) (hc : c < 18446744073709551616) (hm : m < 18446744073709551616) (A : Option Addr) (l : List Iri) (n cp : Nat) (t num den : Int) (w : World) (hr : Rd w A (flat encI l)) (hn : n = l.length)
    (hl : ∀ x ∈ l, x.1 < 18446744073709551616 ∧ x.2 < 18446744073709551616) :
    Calls Try.prog 3 #[irV c m, .slice A n cp, .int .i64 t, .agg #[.int .i64 num, .int .i64 den]] w fun e w' => e = .returned (.bool true) ∧ Below w.heap.size w w' := by
  obtain ⟨B, hB⟩ : ∃ B, B = w.heap.size := ⟨_, rfl⟩
  have S1 := Lib.hid (((Own.start w).new' 24 #[.int .u64 (c : Nat), .int .u64 (m : Nat)] (B := B) hB).new' 27 #[.int .i64 num, .int .i64 den] (B := B + 1) (by simp [hB]))
  have K6 := Lib.hid (fun x (hx : x ∈ l) W => scored_any c m x.1 x.2 hc hm (hl x hx).1 (hl x hx).2 t W)
  have K7 := Lib.hid (fun W => check_any c m hc hm W)
  have K7x := Lib.hid (fun x (hx : x ∈ l) W => check_any x.1 x.2 (hl x hx).1 (hl x hx).2 W)
  have K5 := fun W => validShare_any num den W
  have HR := Lib.hid (fun W (h : Below w.heap.size w W) => hr.below h)
  have HN := Lib.hid hn
  clear hr hn hl hc hm
  unfold irV at K6 K7 K7x ⊢
  by_cases h20 : 20 < n
  · as_aux_lemma =>
    have z1 : (20 : Int) < (n : Int) := by omega
    clear h20
    go_enter Try.func3, Try.ntmps3
    go_upto_region 1 with (fail)
    rw [← hB]
    clear hB
    generalize World.alloc _ _ = w2 at *
    go_wp2_with fail
    refine (alive_any _).mono ?_
    rintro e w3 ⟨rfl, hb3⟩
    have S3 := Lib.hid (S1.out.ext hb3)
    clear hb3 S1
    obtain ⟨s0, s1, _⟩ := (S3.out.bx 0 rfl).c2
    have sl := (S3.out.bx 0 rfl).2.2
    go_wp2_with fail
    go_ret
    exact ⟨rfl, S3.out.bel⟩
  have z1 : ¬ (20 : Int) < (n : Int) := by omega
  by_cases h0 : n = 0
  · as_aux_lemma =>
    subst h0
    go_enter Try.func3, Try.ntmps3
    go_upto_region 1 with (fail)
    rw [← hB]
    clear hB
    generalize World.alloc _ _ = w2 at *
    go_wp2_with fail
    refine (alive_any _).mono ?_
    rintro e w3 ⟨rfl, hb3⟩
    have S3 := Lib.hid (S1.out.ext hb3)
    clear hb3 S1
    obtain ⟨s0, s1, _⟩ := (S3.out.bx 0 rfl).c2
    have sl := (S3.out.bx 0 rfl).2.2
    go_wp2_with fail
    go_ret
    exact ⟨rfl, S3.out.bel⟩
  have z2 : ((n : Int) == 0) = false := by simp [h0]
  have z3 : ¬ (n : Int) = 0 := by omega
  have hn1 : 1 ≤ n ∧ n ≤ 20 := by omega
  clear h20 h0
  cases hs : shareB num den
  · as_aux_lemma =>
    rw [hs] at K5
    replace K5 := Lib.hid K5
    clear hs
    go_enter Try.func3, Try.ntmps3
    go_upto_region 1 with (fail)
    rw [← hB]
    clear hB
    generalize World.alloc _ _ = w2 at *
    go_wp2_with fail
    refine (alive_any _).mono ?_
    rintro e w3 ⟨rfl, hb3⟩
    have S3 := Lib.hid (S1.out.ext hb3)
    clear hb3 S1
    obtain ⟨s0, s1, _⟩ := (S3.out.bx 0 rfl).c2
    have sl := (S3.out.bx 0 rfl).2.2
    go_wp2_with fail
    refine (K5.out _).mono ?_
    rintro e w4 ⟨rfl, hb4⟩
    have S4 := Lib.hid (S3.out.ext hb4)
    clear hb4
    go_wp2_with fail
    go_ret
    exact ⟨rfl, S4.out.bel⟩
  rw [hs] at K5
  replace K5 := Lib.hid K5
  have HSH := Lib.hid hs
  clear hs
  as_aux_lemma =>
  go_enter Try.func3, Try.ntmps3
  go_upto_region 1 with (fail)
  rw [← hB]
  clear hB
  generalize World.alloc _ _ = w2 at *
  go_wp2_with fail
  refine (alive_any _).mono ?_
  rintro e w3 ⟨rfl, hb3⟩
  have S3 := Lib.hid (S1.out.ext hb3)
  clear hb3 S1
  obtain ⟨s0, s1, _⟩ := (S3.out.bx 0 rfl).c2
  have sl := (S3.out.bx 0 rfl).2.2
  go_wp2_with fail
  refine (K5.out _).mono ?_
  rintro e w4 ⟨rfl, hb4⟩
  have S4 := Lib.hid (((S3.out.ext hb4).nil 3 1).cast (qs := [row 3 1 (.slice none 0 0) 0 (ints ((l.take 0).map (scI c m t))), box (B + 1) 27 [.int .i64 num, .int .i64 den], box B 24 [.int .u64 (c : Nat), .int .u64 (m : Nat)]]) rfl)
  clear hb4 s0 s1 sl S3 K5
  go_wp2_with fail
  go_loopg [10, 41] n (fun q u10 u41 wr => ∃ (i : Nat) (A1 : Option Addr) (c1 : Nat), i ≤ n ∧ u10 = .slice A1 i c1 ∧ u41 = .int .i64 ((i : Nat) : Int) ∧ Hid (i + q = n ∧ Own w wr [row 3 1 (.slice A1 i c1) i (ints ((l.take i).map (scI c m t))), box (B + 1) 27 [.int .i64 num, .int .i64 den], box B 24 [.int .u64 (c : Nat), .int .u64 (m : Nat)]]))
  case atStart => exact ⟨0, none, 0, by omega, rfl, rfl, by omega, S4.out⟩
  case round =>
    obtain ⟨i, A1, c1, hi, rfl, rfl, hI⟩ := hrel
    have I1 := Lib.hid hI.out.1
    have I2 := Lib.hid hI.out.2
    clear hI S4
    by_cases hlt : i < n
    case pos =>
      have hil : i < l.length := by rw [← HN.out]; exact hlt
      have hix : (i : Int) < (n : Int) := by omega
      obtain ⟨b0, off, rfl, lb, p0, p1⟩ := (HR.out _ I2.out.bel).iri hil
      have hmem := List.getElem_mem hil
      have K6x := Lib.hid (fun W => K6.out l[i] hmem W)
      have K7y := Lib.hid (fun W => K7x.out l[i] hmem W)
      have HS := Lib.hid (ints_snoc hil (scI c m t))
      have HNO := Lib.hid (fun (h : (scoS c m l[i].1 l[i].2 t).2 = false) => scoS_no h)
      have HSC := Lib.hid (show scI c m t l[i] = (((scoS c m l[i].1 l[i].2 t).1 : Nat) : Int) from rfl)
      rw [HSC.out] at HS
      clear hmem HSC
      generalize l[i] = x at *
      obtain ⟨x1, x2⟩ := x
      dsimp only at p0 p1 K6x K7y HS HNO
      clear hil
      generalize scoS c m x1 x2 t = sc at *
      obtain ⟨s, sb⟩ := sc
      dsimp only at K6x HS HNO
      obtain ⟨s0, s1, _⟩ := (I2.out.bx 2 rfl).c2
      have sl := (I2.out.bx 2 rfl).2.2
      have I3 := Lib.hid (I2.out.new' 24 #[.int .u64 (x1 : Nat), .int .u64 (x2 : Nat)] (B := wr.heap.size) rfl)
      cases sb
      · as_aux_lemma =>
        have HN0 := Lib.hid (HNO.out rfl)
        clear HNO HS
        go_wp2_with fail
        refine (K6x.out _).mono ?_
        rintro e w5 ⟨rfl, hb5⟩
        have S5 := Lib.hid (I3.out.ext hb5)
        clear hb5 p0 p1 s0 s1 sl I3 lb
        obtain ⟨s0, s1, _⟩ := (S5.out.bx 3 rfl).c2
        have sl := (S5.out.bx 3 rfl).2.2
        go_wp2_with fail
        refine (K7.out _).mono ?_
        rintro e w6 ⟨rfl, hb6⟩
        have S6 := Lib.hid (S5.out.ext hb6)
        clear hb6 s0 s1 sl S5
        unfold chkE
        cases hk1 : chkB c m
        · as_aux_lemma =>
          clear HN0 hk1
          unfold chkN
          go_wp2_with fail
          go_ret
          exact ⟨rfl, S6.out.bel⟩
        unfold chkE at K7y
        cases hk2 : chkB x1 x2
        · as_aux_lemma =>
          rw [hk2] at K7y
          clear HN0 hk1 hk2
          unfold chkN at K7y ⊢
          obtain ⟨s0, s1, _⟩ := (S6.out.bx 0 rfl).c2
          have sl := (S6.out.bx 0 rfl).2.2
          go_wp2_with fail
          refine (K7y.out _).mono ?_
          rintro e w7 ⟨rfl, hb7⟩
          have S7 := Lib.hid (S6.out.ext hb7)
          clear hb7
          go_wp2_with fail
          go_ret
          exact ⟨rfl, S7.out.bel⟩
        rw [hk2] at K7y
        have ht : t < 0 ∨ 7 < t := by
          rcases HN0.out with h | h | h
          · rw [hk1] at h; cases h
          · rw [hk2] at h; cases h
          · exact h
        clear HN0 hk1 hk2
        unfold chkN at K7y ⊢
        by_cases ht0 : t < 0
        · as_aux_lemma =>
          clear ht
          obtain ⟨s0, s1, _⟩ := (S6.out.bx 0 rfl).c2
          have sl := (S6.out.bx 0 rfl).2.2
          go_wp2_with fail
          refine (K7y.out _).mono ?_
          rintro e w7 ⟨rfl, hb7⟩
          have S7 := Lib.hid (S6.out.ext hb7)
          clear hb7
          go_wp2_with fail
          go_ret
          exact ⟨rfl, S7.out.bel⟩
        · as_aux_lemma =>
          have ht7 : 7 < t := by omega
          clear ht
          obtain ⟨s0, s1, _⟩ := (S6.out.bx 0 rfl).c2
          have sl := (S6.out.bx 0 rfl).2.2
          go_wp2_with fail
          refine (K7y.out _).mono ?_
          rintro e w7 ⟨rfl, hb7⟩
          have S7 := Lib.hid (S6.out.ext hb7)
          clear hb7
          go_wp2_with fail
          go_ret
          exact ⟨rfl, S7.out.bel⟩
      · as_aux_lemma =>
        clear HNO K7y
        go_wp2_with fail
        refine (K6x.out _).mono ?_
        rintro e w5 ⟨rfl, hb5⟩
        have S5 := Lib.hid ((I3.out.ext hb5).tail)
        clear hb5 p0 p1 s0 s1 sl I3 lb
        go_wp2_with (at_builtin; refine wpList_appP rfl (.tmp 73) (.tmp 75) 30 rfl st36 0 (S5.out.ext (below_alloc w5 (.cells #[.int .i64 (s : Nat)] 3))) rfl rfl rfl (i + 1) (ints ((l.take (i + 1)).map (scI c m t))) ?_ (ints [((s : Nat) : Int)]) (by omega) HS.out (Rd.new w5 #[.int .i64 (s : Nat)] 3) (by simp [ints]) (ints_one [((s : Nat) : Int)]) (by unfold maxLen; omega) (by omega); intro A9 c9 w9 hO9; have HO9 := Lib.hid hO9; clear hO9)
        go_roundg (gk - 1)
        case measure => have := I1.out; omega
        case rel => exact ⟨i + 1, A9, c9, by omega, rfl, by go_num, by have := I1.out; omega, HO9.out⟩
    case neg => as_aux_lemma =>
      obtain rfl : i = n := by omega
      have hni : ¬ (i : Int) < (i : Int) := by omega
      obtain ⟨S, hS⟩ : ∃ S, S = l.map (scI c m t) := ⟨_, rfl⟩
      rw [List.take_of_length_le (by rw [← HN.out]; exact Nat.le_refl _), ← hS] at I2
      have hSl : S.length = i := by rw [hS, List.length_map, HN.out]
      have hF : frB 0 1000 S = true := by rw [hS]; exact fr_scores c m t l
      obtain ⟨g, rfl⟩ := I2.out.rowAddr 0 rfl (by omega)
      obtain ⟨_, _, -, hcap, -⟩ := I2.out.asBoxC 0 rfl (by omega)
      have HSR := Lib.hid (fun W (h : Below wr.heap.size wr W) => (I2.out.rd 0 rfl).below h)
      have HBX := Lib.hid (fun W (h : Below wr.heap.size wr W) => (I2.out.bx 1 rfl).below h (I2.out.bx 1 rfl).2.2)
      have HBL := Lib.hid I2.out.bel
      have HSL := Lib.hid hSl
      have HF := Lib.hid hF
      have HCAP := Lib.hid hcap
      clear hS hSl hF hcap I2 K6 K7 K7x HR HN
      obtain ⟨w9, rfl⟩ : ∃ v : World, v = wr := ⟨_, rfl⟩
      go_wp2_with fail
      go_loopg [15, 80] i (fun q u15 u80 wx => ∃ j a : Nat, (j ≤ i ∧ a ≤ j) ∧ u15 = .int .i64 ((a : Nat) : Int) ∧ u80 = .int .i64 ((j : Nat) : Int) ∧ Hid (j + q = i ∧ a = (S.take j).countP (keptP S num den) ∧ Own w9 wx []))
      case atStart => exact ⟨0, 0, by omega, rfl, rfl, by omega, rfl, Own.start w9⟩
      case round =>
        obtain ⟨j, a, hja, rfl, rfl, hI⟩ := hrel
        have J1 := Lib.hid hI.out.1
        have J2 := Lib.hid hI.out.2.1
        have J3 := Lib.hid hI.out.2.2
        clear hI
        by_cases hjt : j < i
        case neg => as_aux_lemma =>
          have hji : j = i := by omega
          have hnj : ¬ (j : Int) < (i : Int) := by omega
          have HL := kept_law (l := S) HSH.out (by rw [HSL.out]; omega)
          change (((S.countP (keptP S num den) : Nat) : Int)) * den ≤ num * (S.length : Int) at HL
          have h4 : a = S.countP (keptP S num den) := by
            have := J2.out
            rwa [hji, List.take_of_length_le (by rw [HSL.out]; exact Nat.le_refl _)] at this
          rw [← h4, HSL.out] at HL
          obtain ⟨s1, s2, s3⟩ := share_of HSH.out
          have p1 := mul_bd (a := (a : Int)) (b := den) (A := 61) (B := 1000) (by omega) (by omega) (by omega) (by omega)
          have p2 := mul_bd (a := num) (b := (i : Int)) (A := 1000) (B := 61) (by omega) (by omega) (by omega) (by omega)
          have y1 : IntKind.i64.wrap ((a : Int) * den) = (a : Int) * den := IntWalk.i64_in _ (by omega)
          have y2 : IntKind.i64.wrap (num * (i : Int)) = num * (i : Int) := IntWalk.i64_in _ (by omega)
          obtain ⟨s0, s1', _⟩ := (HBX.out _ J3.out.bel).c2
          have sl := (HBX.out _ J3.out.bel).2.2
          have HBL2 := Lib.hid (below_step HBL.out J3.out.bel)
          clear p1 p2 s1 s2 s3 h4 hji
          go_wp2_with fail
          go_ret
          exact ⟨rfl, HBL2.out⟩
        as_aux_lemma =>
        have hjl : j < S.length := by rw [HSL.out]; exact hjt
        have hjx : (j : Int) < (i : Int) := by omega
        obtain ⟨u, hu⟩ := thr_wo HF.out HSH.out (by rw [HSL.out]; omega) j hjl
        have K8 := fun A' c' W (h : Rd W A' (ints (wo S j))) => threshold_any A' (wo S j) (i - 1) c' num den W h (by rw [wo_len hjl, HSL.out]) (by omega)
        rw [hu] at K8
        dsimp only at K8
        replace K8 := Lib.hid K8
        have hrng : 0 ≤ S[j] ∧ S[j] ≤ 1000 := by
          have h := List.all_eq_true.1 HF.out _ (List.getElem_mem hjl)
          simpa [inB] using h
        have HK := Lib.hid (keptP_is hjl hu hrng.1 hrng.2).2
        have HCT := Lib.hid (keptP_take (keptP S num den) hjl)
        rw [← HK.out] at HCT
        have HCE := Lib.hid (fun W (h : Below w9.heap.size w9 W) => (show W.cell? ⟨g, j, none⟩ = some (.int .i64 S[j]) ∧ g < W.heap.size by
          obtain ⟨b1, off1, e1, k1, l1⟩ := (HSR.out W h).int hjl
          injection e1 with e1
          injection e1 with e1 e2
          subst e1 e2
          exact ⟨by rw [← k1, Nat.zero_add], l1⟩))
        have R1 := Lib.hid (fun W (h : Below w9.heap.size w9 W) => rd_take (HSR.out W h) j)
        have R2 := Lib.hid (fun W (h : Below w9.heap.size w9 W) => (show Rd W (if c1 = j + 1 then some ⟨g, 0, none⟩ else some ⟨g, j + 1, none⟩) (ints (S.drop (j + 1))) by
          by_cases hc : c1 = j + 1
          · rw [List.drop_of_length_le (by have := HCAP.out; have := HSL.out; omega)]; exact Rd.nil _ _
          · rw [if_neg hc]
            have := rd_drop (HSR.out W h) (j + 1)
            rwa [Nat.zero_add] at this))
        have L1 := Lib.hid (show (ints (S.take j)).length = j * 1 by rw [ints_len, List.length_take]; omega)
        have L2 := Lib.hid (show (ints (S.drop (j + 1))).length = (i - (j + 1)) * 1 by rw [ints_len, List.length_drop, HSL.out]; omega)
        have HX := Lib.hid (show ints (S.take j) ++ ints (S.drop (j + 1)) = ints (wo S j) by simp [ints, wo])
        have y1 : IntKind.i64.wrap ((j : Int) + 1) = (j : Int) + 1 := IntWalk.i64_in _ (by omega)
        have y2 : (0 : Int) ≤ (j : Int) + 1 := by omega
        have y3 : ((j : Int) + 1).toNat = j + 1 := by omega
        have y4 : j ≤ c1 := by have := HCAP.out; omega
        have y5 : j + 1 ≤ i := by omega
        have y6 : (j : Int) + 1 ≤ (i : Int) := by omega
        have y7 : i ≤ c1 := HCAP.out
        have y8 : (i : Int) ≤ (c1 : Int) := by omega
        obtain ⟨c0, gl⟩ := HCE.out _ J3.out.bel
        generalize wo S j = X at *
        generalize S.drop (j + 1) = X2 at *
        generalize S[j] = x at *
        clear hu hrng HK hjl
        obtain ⟨T1, hT1⟩ : ∃ T1, T1 = S.take (j + 1) := ⟨_, rfl⟩
        rw [← hT1] at HCT
        replace hT1 := Lib.hid hT1
        generalize S.take j = X1 at *
        go_upto_region 17 with (fail)
        clear c0 gl
        refine wp_region_state 121 [(87, (.slice (some ⟨g, 0, none⟩) i c1)), (88, (.int .i64 (j : Nat))), (89, (.slice (some ⟨g, 0, none⟩) j c1)), (91, (.slice (some ⟨g, 0, none⟩) i c1)), (92, (.int .i64 (j : Nat))), (93, (.int .i64 ((j : Int) + 1))), (94, (.slice (if c1 = j + 1 then some ⟨g, 0, none⟩ else some ⟨g, j + 1, none⟩) (i - (j + 1)) (c1 - (j + 1)))), (96, (.agg #[.int .i64 num, .int .i64 den])), (97, (.tuple #[.int .i64 u, .int .i64 0])), (85, (.tuple #[.int .i64 u, .int .i64 0])), (98, (.int .i64 u)), (99, (.int .i64 0)), (18, (.int .i64 u)), (19, (.int .i64 0))] (fun L vs w' => Own w9 w' [cond (L 9) (row 3 1 (vs 95) (i - 1) (ints X)) (cond (L 4) (row 3 1 (vs 90) (j) (ints X1)) (cond (L 0) (row 3 1 (vs 86) 0 []) (row 3 1 (.slice none 0 0) 0 [])))]) (by kernel_rfl) (by kernel_rfl) [86, 87, 88, 89, 90, 91, 92, 93, 94, 95, 96, 97, 85, 98, 99, 18, 19] (by kernel_rfl) rfl (by kernel_rfl) 17 rfl ?_ ?_ ?_
        · exact fun L hL => (((J3.out.nil 3 1).sub [0] (by decide) (qs := [row 3 1 (.slice none 0 0) 0 []]) rfl).ext (Below.refl _ _).drew).cast (by simp [hL 9 (by decide), hL 4 (by decide), hL 0 (by decide)])
        · refine ⟨StepS.of [] (by kernel_rfl) ?_, ?_⟩
          · intro L vs wq hL hA hC hJ
            unfold forAll
            have h1 := hC.no (j := 4) (i := 0) (by kernel_rfl) hL
            have h2 := hC.no (j := 9) (i := 4) (by kernel_rfl) h1
            have K := Own.cast (qs := [row 3 1 (.slice none 0 0) 0 []]) hJ (by simp [hL, h1, h2])
            have K2 := ((K.sub [] (by decide) (qs := []) rfl).new' 3 #[] (B := wq.heap.size) rfl).asRow (size := 1) (n := 0) 0 rfl rfl (by unfold maxLen; omega)
            have K3 := K2.sub [0] (by decide) (qs := [row 3 1 (.slice (some ⟨wq.heap.size, 0, none⟩) 0 0) 0 []]) rfl
            exact StepV.val 86 (v := .slice (some ⟨wq.heap.size, 0, none⟩) 0 0) (w' := wq.alloc (.cells #[] 3)) (by kernel_rfl) (by go_simp) rfl (by simp) rfl trivial (K3.cast (by simp [upd, updv, h1, h2]))
          refine ⟨StepS.of [] (by kernel_rfl) ?_, ?_⟩
          · intro L vs wq hL hA hC hJ
            unfold forAll
            exact StepV.val 87 (by kernel_rfl) (by kernel_rfl) rfl (by simp) rfl rfl hJ
          refine ⟨StepS.of [] (by kernel_rfl) ?_, ?_⟩
          · intro L vs wq hL hA hC hJ
            unfold forAll
            exact StepV.val 88 (by kernel_rfl) (by kernel_rfl) rfl (by simp) rfl rfl hJ
          refine ⟨StepS.of [87, 88] (by kernel_rfl) ?_, ?_⟩
          · intro L vs wq hL hA hC hJ h87 h88
            rw [(show vs 87 = (.slice (some ⟨g, 0, none⟩) i c1) from h87), (show vs 88 = (.int .i64 (j : Nat)) from h88)]
            unfold forAll
            exact StepV.val 89 (by kernel_rfl) (by go_simp) rfl (by simp [Act.put]) rfl rfl hJ
          refine ⟨StepS.of [86, 89] (by kernel_rfl) ?_, ?_⟩
          · intro L vs wq hL hA hC hJ h86 h89
            rw [(show vs 89 = (.slice (some ⟨g, 0, none⟩) j c1) from h89)]
            unfold forAll
            have hb := afterS hA (i := 0) (by kernel_rfl)
            have h2 := hC.no (j := 9) (i := 4) (by kernel_rfl) hL
            have K := Own.cast (qs := [row 3 1 (vs 86) 0 []]) hJ (by simp [hL, hb, h2])
            obtain ⟨A8, c8, e8, ho8⟩ := rd_of_own (K.get 0 rfl)
            rw [e8]
            refine StepV.app 90 rfl (.tmp 86) (.tmp 89) 30 rfl rfl (by simp [Act.put]) rfl st36 0 K rfl (by simp [Act.eval, Act.put, e8]) (by simp [Act.eval, Act.put]; rfl) (j) (ints X1) (ints X1) (by omega) rfl (R1.out wq K.bel) (L1.out) (ints_one X1) (by unfold maxLen; omega) (by omega) ?_
            intro A9 c9 w9 hO9
            exact ⟨trivial, hO9.cast (by simp [upd, updv, hb, h2])⟩
          refine ⟨StepS.of [] (by kernel_rfl) ?_, ?_⟩
          · intro L vs wq hL hA hC hJ
            unfold forAll
            exact StepV.val 91 (by kernel_rfl) (by kernel_rfl) rfl (by simp) rfl rfl hJ
          refine ⟨StepS.of [] (by kernel_rfl) ?_, ?_⟩
          · intro L vs wq hL hA hC hJ
            unfold forAll
            exact StepV.val 92 (by kernel_rfl) (by kernel_rfl) rfl (by simp) rfl rfl hJ
          refine ⟨StepS.of [92] (by kernel_rfl) ?_, ?_⟩
          · intro L vs wq hL hA hC hJ h92
            rw [(show vs 92 = (.int .i64 (j : Nat)) from h92)]
            unfold forAll
            exact StepV.val 93 (by kernel_rfl) (by go_simp) rfl (by simp [Act.put]) rfl rfl hJ
          refine ⟨StepS.of [91, 93] (by kernel_rfl) ?_, ?_⟩
          · intro L vs wq hL hA hC hJ h91 h93
            rw [(show vs 91 = (.slice (some ⟨g, 0, none⟩) i c1) from h91), (show vs 93 = (.int .i64 ((j : Int) + 1)) from h93)]
            unfold forAll
            exact StepV.val 94 (by kernel_rfl) (by go_simp) rfl (by simp [Act.put]) rfl rfl hJ
          refine ⟨StepS.of [90, 94] (by kernel_rfl) ?_, ?_⟩
          · intro L vs wq hL hA hC hJ h90 h94
            rw [(show vs 94 = (.slice (if c1 = j + 1 then some ⟨g, 0, none⟩ else some ⟨g, j + 1, none⟩) (i - (j + 1)) (c1 - (j + 1))) from h94)]
            unfold forAll
            have ha := afterS hA (i := 4) (by kernel_rfl)
            have K := Own.cast (qs := [row 3 1 (vs 90) (j) (ints X1)]) hJ (by simp [hL, ha])
            obtain ⟨A8, c8, e8, ho8⟩ := rd_of_own (K.get 0 rfl)
            rw [e8]
            refine StepV.app 95 rfl (.tmp 90) (.tmp 94) 30 rfl rfl (by simp [Act.put]) rfl st36 0 K rfl (by simp [Act.eval, Act.put, e8]) (by simp [Act.eval, Act.put]; rfl) (i - 1) (ints X) (ints X2) (by omega) (HX.out) (R2.out wq K.bel) (L2.out) (ints_one X2) (by unfold maxLen; omega) (by omega) ?_
            intro A9 c9 w9 hO9
            exact ⟨trivial, hO9.cast (by simp [upd, updv, ha])⟩
          refine ⟨StepS.of [] (by kernel_rfl) ?_, ?_⟩
          · intro L vs wq hL hA hC hJ
            unfold forAll
            obtain ⟨t0, t1, _⟩ := (HBX.out wq hJ.bel).c2
            have tl := (HBX.out wq hJ.bel).2.2
            exact StepV.val 96 (by kernel_rfl) (by go_simp) rfl (by simp) rfl rfl hJ
          refine ⟨StepS.of [95, 96] (by kernel_rfl) ?_, ?_⟩
          · intro L vs wq hL hA hC hJ h95 h96
            rw [(show vs 96 = (.agg #[.int .i64 num, .int .i64 den]) from h96)]
            unfold forAll
            have ha := afterS hA (i := 9) (by kernel_rfl)
            have K := Own.cast (qs := [row 3 1 (vs 95) (i - 1) (ints X)]) hJ (by simp [ha])
            obtain ⟨A8, c8, e8, ho8⟩ := rd_of_own (K.get 0 rfl)
            rw [e8]
            refine StepV.call (f := 8) (w1 := wq) (args := #[.slice A8 (i - 1) c8, .agg #[.int .i64 num, .int .i64 den]]) 97 (by kernel_rfl) (by kernel_rfl) rfl (by simp [Act.put]) rfl ?_
            refine (K8.out A8 c8 wq ho8.rd).mono ?_
            rintro e w8 ⟨rfl, hb8⟩
            exact ⟨_, rfl, rfl, (K.ext hb8).cast (by simp [upd, updv, ha])⟩
          refine ⟨StepS.of [97] (by kernel_rfl) ?_, ?_⟩
          · intro L vs wq hL hA hC hJ h97
            rw [(show vs 97 = (.tuple #[.int .i64 u, .int .i64 0]) from h97)]
            unfold forAll
            exact StepV.val 85 (by kernel_rfl) (by kernel_rfl) rfl (by simp [Act.put]) rfl rfl hJ
          refine ⟨StepS.of [85] (by kernel_rfl) ?_, ?_⟩
          · intro L vs wq hL hA hC hJ h85
            rw [(show vs 85 = (.tuple #[.int .i64 u, .int .i64 0]) from h85)]
            unfold forAll
            exact StepV.val 98 (by kernel_rfl) (by kernel_rfl) rfl (by simp [Act.put]) rfl rfl hJ
          refine ⟨StepS.of [85] (by kernel_rfl) ?_, ?_⟩
          · intro L vs wq hL hA hC hJ h85
            rw [(show vs 85 = (.tuple #[.int .i64 u, .int .i64 0]) from h85)]
            unfold forAll
            exact StepV.val 99 (by kernel_rfl) (by kernel_rfl) rfl (by simp [Act.put]) rfl rfl hJ
          refine ⟨StepS.of [98] (by kernel_rfl) ?_, ?_⟩
          · intro L vs wq hL hA hC hJ h98
            rw [(show vs 98 = (.int .i64 u) from h98)]
            unfold forAll
            exact StepV.val 18 (by kernel_rfl) (by kernel_rfl) rfl (by simp [Act.put]) rfl rfl hJ
          refine ⟨StepS.of [99] (by kernel_rfl) ?_, ?_⟩
          · intro L vs wq hL hA hC hJ h99
            rw [(show vs 99 = (.int .i64 0) from h99)]
            unfold forAll
            exact StepV.val 19 (by kernel_rfl) (by kernel_rfl) rfl (by simp [Act.put]) rfl rfl hJ
          exact trivial
        · intro vs w9 hJ h86 h87 h88 h89 h90 h91 h92 h93 h94 h95 h96 h97 h85 h98 h99 h18 h19
          rw [(show vs 87 = (.slice (some ⟨g, 0, none⟩) i c1) from h87), (show vs 88 = (.int .i64 (j : Nat)) from h88), (show vs 89 = (.slice (some ⟨g, 0, none⟩) j c1) from h89), (show vs 91 = (.slice (some ⟨g, 0, none⟩) i c1) from h91), (show vs 92 = (.int .i64 (j : Nat)) from h92), (show vs 93 = (.int .i64 ((j : Int) + 1)) from h93), (show vs 94 = (.slice (if c1 = j + 1 then some ⟨g, 0, none⟩ else some ⟨g, j + 1, none⟩) (i - (j + 1)) (c1 - (j + 1))) from h94), (show vs 96 = (.agg #[.int .i64 num, .int .i64 den]) from h96), (show vs 97 = (.tuple #[.int .i64 u, .int .i64 0]) from h97), (show vs 85 = (.tuple #[.int .i64 u, .int .i64 0]) from h85), (show vs 98 = (.int .i64 u) from h98), (show vs 99 = (.int .i64 0) from h99), (show vs 18 = (.int .i64 u) from h18), (show vs 19 = (.int .i64 0) from h19)]
          clear h86 h87 h88 h89 h90 h91 h92 h93 h94 h95 h96 h97 h85 h98 h99 h18 h19
          have K := Own.cast (qs := [row 3 1 (vs 95) (i - 1) (ints X)]) hJ rfl
          obtain ⟨A9, c9, e9, _⟩ := rd_of_own (K.get 0 rfl)
          rw [e9] at K
          rw [e9]
          have S9 := Lib.hid K
          clear K hJ
          unfold forAll
          simp only [Act.put, List.setIfInBounds_toArray, List.set_cons_zero, List.set_cons_succ]
          generalize (if c1 = j + 1 then some (⟨g, 0, none⟩ : Addr) else some ⟨g, j + 1, none⟩) = A94 at *
          by_cases hxu : x ≤ u
          · as_aux_lemma =>
            have HA := Lib.hid (show a + 1 = T1.countP (keptP S num den) by rw [HCT.out, ← J2.out, decide_eq_true hxu]; rfl)
            have za : IntKind.i64.wrap ((a : Int) + 1) = ((a + 1 : Nat) : Int) := by rw [show (a : Int) + 1 = ((a + 1 : Nat) : Int) by omega]; exact IntWalk.i64_in _ (by omega)
            go_wp2_with fail
            go_roundg (gk - 1)
            case measure => have := J1.out; omega
            case rel => exact ⟨j + 1, a + 1, by omega, by go_num, by go_num, by have := J1.out; omega, by rw [HA.out, hT1.out], S9.out.tail⟩
          · as_aux_lemma =>
            have HA := Lib.hid (show a = T1.countP (keptP S num den) by rw [HCT.out, ← J2.out, decide_eq_false hxu]; rfl)
            go_wp2_with fail
            go_roundg (gk - 1)
            case measure => have := J1.out; omega
            case rel => exact ⟨j + 1, a, by omega, rfl, by go_num, by have := J1.out; omega, by rw [← hT1.out]; exact HA.out, S9.out.tail⟩
end Go.Proofs.Ytmjbbihbcbhaoaa
