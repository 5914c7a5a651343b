/- Sketch: Unlock and Lock of the program. No condition. -/
import Derived.Test.YtnienfgaidccpaaDoorLd
namespace Go.Proofs.YtnienfgaidccpaaDoor
open Go.RowKit Go.Shelf
attribute [local go_sem] Oper.semAt_some

def unlB (v pl : List Int) (n : Int) : Bool := decide (v.length = 31) && (numB v && (setB pl && (decide (1 ≤ n) && decide (n ≤ 4))))
def unlO : Option (List Int) → List Int × Int
  | some r => (r, 0)
  | none => ([], 51)
/-- What Unlock returns. -/
def unlR (v pl : List Int) (n : Int) : List Int × Int := if unlB v pl n = true then unlO (unlN (vaV v) pl n.toNat) else ([], 2)
def IntsPost (r : List Int × Int) (w : World) (e : Ending) (w' : World) : Prop :=
  ∃ A c, e = .returned (.tuple #[.slice A r.1.length c, .int .i64 r.2]) ∧ Own w w' [row 3 1 (.slice A r.1.length c) r.1.length (i64s r.1)]
theorem setB_num {l : List Int} (h : setB l = true) : In31 l := (setB_ok l h).1
set_option maxRecDepth 100000 in
set_option maxHeartbeats 4000000 in
theorem unlock_any (v pl : List Int) (n : Int) (Av Ap : Option Addr) (nv np cv cp : Nat) (w : World) (hv : Rd w Av (i64s v)) (hp : Rd w Ap (i64s pl)) (hnv : nv = v.length) (hnp : np = pl.length) (hnv2 : nv ≤ 1000) (hnp2 : np ≤ 1000) :
    Calls Tryd.prog 40 #[.slice Av nv cv, .slice Ap np cp, .int .i64 n] w (IntsPost (unlR v pl n) w) := by
  have KN := fun W (h : Below w.heap.size w W) => numbers_any v Av nv cv W (hv.below h) hnv (by omega)
  have KS := fun W (h : Below w.heap.size w W) => set_any pl Ap np cp W (hp.below h) hnp (by omega)
  have S0 := Lib.hid ((((Own.start w).new 61 #[.slice Av nv cv]).new' 61 #[.slice Ap np cp] (B := w.heap.size + 1) (by simp)).new' 3 #[.int .i64 n] (B := w.heap.size + 1 + 1) (by simp))
  by_cases h31 : nv = 31
  case neg => as_aux_lemma =>
    have HL := Lib.hid (show unlR v pl n = ([], 2) by unfold unlR; rw [if_neg]; simp [unlB]; omega)
    have d1 : ¬ (nv : Int) = 31 := by omega
    clear hv hp hnv hnp hnv2 hnp2 KN KS
    go_enter Tryd.func40, Tryd.ntmps40
    go_upto_region 1 with fail
    generalize (((w.alloc _).alloc _).alloc _) = w1 at *
    have x0 := (S0.out.bx 0 rfl).1 0 _ rfl
    have l0 := (S0.out.bx 0 rfl).2.2
    have x1 := (S0.out.bx 1 rfl).1 0 _ rfl
    have l1 := (S0.out.bx 1 rfl).2.2
    have x2 := (S0.out.bx 2 rfl).1 0 _ rfl
    have l2 := (S0.out.bx 2 rfl).2.2
    go_wp2_with fail
    go_ret2
    exact ⟨none, 0, by rw [HL.out]; rfl, by rw [HL.out]; exact ((S0.out.nil 3 1).sub [0] (by decide) rfl)⟩
  subst h31
  cases hnb : numB v
  · as_aux_lemma =>
    have HL := Lib.hid (show unlR v pl n = ([], 2) by unfold unlR; rw [if_neg]; simp [unlB, hnb])
    rw [hnb] at KN
    replace KN := Lib.hid KN
    clear hv hp hnv hnp hnv2 hnp2 KS hnb
    go_enter Tryd.func40, Tryd.ntmps40
    go_upto_region 1 with fail
    generalize (((w.alloc _).alloc _).alloc _) = w1 at *
    have x0 := (S0.out.bx 0 rfl).1 0 _ rfl
    have l0 := (S0.out.bx 0 rfl).2.2
    have x1 := (S0.out.bx 1 rfl).1 0 _ rfl
    have l1 := (S0.out.bx 1 rfl).2.2
    have x2 := (S0.out.bx 2 rfl).1 0 _ rfl
    have l2 := (S0.out.bx 2 rfl).2.2
    go_wp2_with fail
    refine (KN.out _ S0.out.bel).mono ?_
    rintro e w2 ⟨rfl, rfl⟩
    go_wp2_with fail
    go_ret2
    exact ⟨none, 0, by rw [HL.out]; rfl, by rw [HL.out]; exact ((S0.out.nil 3 1).sub [0] (by decide) rfl)⟩
  have HVI := Lib.hid (numB_in hnb)
  rw [hnb] at KN
  replace KN := Lib.hid KN
  cases hsb : setB pl
  · as_aux_lemma =>
    have HL := Lib.hid (show unlR v pl n = ([], 2) by unfold unlR; rw [if_neg]; simp [unlB, hsb])
    rw [hsb] at KS
    replace KS := Lib.hid KS
    clear hv hp hnv hnp hnv2 hnp2 hnb hsb
    go_enter Tryd.func40, Tryd.ntmps40
    go_upto_region 1 with fail
    generalize (((w.alloc _).alloc _).alloc _) = w1 at *
    have x0 := (S0.out.bx 0 rfl).1 0 _ rfl
    have l0 := (S0.out.bx 0 rfl).2.2
    have x1 := (S0.out.bx 1 rfl).1 0 _ rfl
    have l1 := (S0.out.bx 1 rfl).2.2
    have x2 := (S0.out.bx 2 rfl).1 0 _ rfl
    have l2 := (S0.out.bx 2 rfl).2.2
    go_wp2_with fail
    refine (KN.out _ S0.out.bel).mono ?_
    rintro e w2 ⟨rfl, rfl⟩
    go_wp2_with fail
    refine (KS.out _ S0.out.bel).mono ?_
    rintro e w3 ⟨rfl, hb3⟩
    have S3 := Lib.hid (S0.out.ext hb3)
    clear hb3 S0
    clear x0 x1 x2 l0 l1 l2
    have x0 := (S3.out.bx 0 rfl).1 0 _ rfl
    have l0 := (S3.out.bx 0 rfl).2.2
    have x1 := (S3.out.bx 1 rfl).1 0 _ rfl
    have l1 := (S3.out.bx 1 rfl).2.2
    have x2 := (S3.out.bx 2 rfl).1 0 _ rfl
    have l2 := (S3.out.bx 2 rfl).2.2
    go_wp2_with fail
    go_ret2
    exact ⟨none, 0, by rw [HL.out]; rfl, by rw [HL.out]; exact ((S3.out.nil 3 1).sub [0] (by decide) rfl)⟩
  have HPI := Lib.hid (setB_num hsb)
  rw [hsb] at KS
  replace KS := Lib.hid KS
  by_cases hn1 : 1 ≤ n
  case neg => as_aux_lemma =>
    have HL := Lib.hid (show unlR v pl n = ([], 2) by unfold unlR; rw [if_neg]; simp [unlB]; omega)
    have d1 : n < 1 := by omega
    clear hv hp hnv hnp hnv2 hnp2 hnb hsb hn1
    go_enter Tryd.func40, Tryd.ntmps40
    go_upto_region 1 with fail
    generalize (((w.alloc _).alloc _).alloc _) = w1 at *
    have x0 := (S0.out.bx 0 rfl).1 0 _ rfl
    have l0 := (S0.out.bx 0 rfl).2.2
    have x1 := (S0.out.bx 1 rfl).1 0 _ rfl
    have l1 := (S0.out.bx 1 rfl).2.2
    have x2 := (S0.out.bx 2 rfl).1 0 _ rfl
    have l2 := (S0.out.bx 2 rfl).2.2
    go_wp2_with fail
    refine (KN.out _ S0.out.bel).mono ?_
    rintro e w2 ⟨rfl, rfl⟩
    go_wp2_with fail
    refine (KS.out _ S0.out.bel).mono ?_
    rintro e w3 ⟨rfl, hb3⟩
    have S3 := Lib.hid (S0.out.ext hb3)
    clear hb3 S0
    clear x0 x1 x2 l0 l1 l2
    have x0 := (S3.out.bx 0 rfl).1 0 _ rfl
    have l0 := (S3.out.bx 0 rfl).2.2
    have x1 := (S3.out.bx 1 rfl).1 0 _ rfl
    have l1 := (S3.out.bx 1 rfl).2.2
    have x2 := (S3.out.bx 2 rfl).1 0 _ rfl
    have l2 := (S3.out.bx 2 rfl).2.2
    go_wp2_with fail
    go_ret2
    exact ⟨none, 0, by rw [HL.out]; rfl, by rw [HL.out]; exact ((S3.out.nil 3 1).sub [0] (by decide) rfl)⟩
  by_cases hn4 : n ≤ 4
  case neg => as_aux_lemma =>
    have HL := Lib.hid (show unlR v pl n = ([], 2) by unfold unlR; rw [if_neg]; simp [unlB]; omega)
    have d1 : ¬ n < 1 := by omega
    have d2 : 4 < n := by omega
    clear hv hp hnv hnp hnv2 hnp2 hnb hsb hn1 hn4
    go_enter Tryd.func40, Tryd.ntmps40
    go_upto_region 1 with fail
    generalize (((w.alloc _).alloc _).alloc _) = w1 at *
    have x0 := (S0.out.bx 0 rfl).1 0 _ rfl
    have l0 := (S0.out.bx 0 rfl).2.2
    have x1 := (S0.out.bx 1 rfl).1 0 _ rfl
    have l1 := (S0.out.bx 1 rfl).2.2
    have x2 := (S0.out.bx 2 rfl).1 0 _ rfl
    have l2 := (S0.out.bx 2 rfl).2.2
    go_wp2_with fail
    refine (KN.out _ S0.out.bel).mono ?_
    rintro e w2 ⟨rfl, rfl⟩
    go_wp2_with fail
    refine (KS.out _ S0.out.bel).mono ?_
    rintro e w3 ⟨rfl, hb3⟩
    have S3 := Lib.hid (S0.out.ext hb3)
    clear hb3 S0
    clear x0 x1 x2 l0 l1 l2
    have x0 := (S3.out.bx 0 rfl).1 0 _ rfl
    have l0 := (S3.out.bx 0 rfl).2.2
    have x1 := (S3.out.bx 1 rfl).1 0 _ rfl
    have l1 := (S3.out.bx 1 rfl).2.2
    have x2 := (S3.out.bx 2 rfl).1 0 _ rfl
    have l2 := (S3.out.bx 2 rfl).2.2
    go_wp2_with fail
    go_ret2
    exact ⟨none, 0, by rw [HL.out]; rfl, by rw [HL.out]; exact ((S3.out.nil 3 1).sub [0] (by decide) rfl)⟩
  obtain ⟨nn, rfl⟩ : ∃ nn : Nat, n = nn := ⟨n.toNat, by omega⟩
  have HL := Lib.hid (show unlR v pl (nn : Int) = unlO (unlN (vaV v) pl nn) by
    unfold unlR
    rw [if_pos (by simp only [unlB, hnb, hsb, Bool.true_and, Bool.and_eq_true, decide_eq_true_eq]; omega), Int.toNat_natCast])
  have HU := Lib.hid (show srch (tstN (vaV v) pl nn) ((pl.take (few np nn)).drop 0) nn [] = unlN (vaV v) pl nn by rw [List.drop_zero, unlN, hnp])
  obtain ⟨nd, hnd⟩ : ∃ nd, nd = need np nn := ⟨_, rfl⟩
  obtain ⟨fw, hfw⟩ : ∃ fw, fw = few np nn := ⟨_, rfl⟩
  have hfnp : fw ≤ np := by rw [hfw]; unfold few; omega
  have e1 : ((np : Int) + (nn : Int) + 1) / 2 = (nd : Int) := by rw [hnd]; unfold need; omega
  have hmin : fw = np ∧ np ≤ nn + np - nd ∨ fw = nn + np - nd ∧ nn + np - nd < np := by rw [hfw]; unfold few; rw [← hnd]; omega
  have hndb : nd ≤ np + nn := by rw [hnd]; unfold need; omega
  have HCH := Lib.hid (fun Bn Bv Bf Bp Bd Bw Bc => choose_any v pl w Bn Bv Bf Bp Bd Bw Bc nn cv np cp nd fw Av Ap hv hp hnv hnp hnp2 HVI.out HPI.out (by omega) (by omega) hnd hfnp nn)
  rw [← hfw] at HU
  generalize unlN (vaV v) pl nn = UO at *
  have d1 : ¬ (nn : Int) < 1 := by omega
  have d2 : ¬ (4 : Int) < (nn : Int) := by omega
  have b1 : (nn : Int) ≤ 4 := by omega
  have b2 : (np : Int) ≤ 1000 := by omega
  have b3 : (nd : Int) ≤ (np : Int) + (nn : Int) := by omega
  have hls : Hid (nn ≤ 4) := by unfold Hid; omega
  clear hv hp hnv hnp hnb hsb hn1 hn4 hnd hfw hnv2
  rcases hmin with ⟨hm1, hm2⟩ | ⟨hm1, hm2⟩
  · as_aux_lemma =>
    have e2 : (np : Int) ≤ (nn : Int) + (np : Int) - (nd : Int) := by omega
    have e3 : ¬ (nn : Int) + (np : Int) - (nd : Int) < (np : Int) := by omega
    subst hm1
    clear hm2 hndb hfnp
    go_enter Tryd.func40, Tryd.ntmps40
    go_upto_region 1 with fail
    generalize (((w.alloc _).alloc _).alloc _) = w1 at *
    have x0 := (S0.out.bx 0 rfl).1 0 _ rfl
    have l0 := (S0.out.bx 0 rfl).2.2
    have x1 := (S0.out.bx 1 rfl).1 0 _ rfl
    have l1 := (S0.out.bx 1 rfl).2.2
    have x2 := (S0.out.bx 2 rfl).1 0 _ rfl
    have l2 := (S0.out.bx 2 rfl).2.2
    go_wp2_with fail
    refine (KN.out _ S0.out.bel).mono ?_
    rintro e w2 ⟨rfl, rfl⟩
    go_wp2_with fail
    refine (KS.out _ S0.out.bel).mono ?_
    rintro e w3 ⟨rfl, hb3⟩
    have S3 := Lib.hid (S0.out.ext hb3)
    clear hb3 S0
    clear x0 x1 x2 l0 l1 l2
    have x0 := (S3.out.bx 0 rfl).1 0 _ rfl
    have l0 := (S3.out.bx 0 rfl).2.2
    have x1 := (S3.out.bx 1 rfl).1 0 _ rfl
    have l1 := (S3.out.bx 1 rfl).2.2
    have x2 := (S3.out.bx 2 rfl).1 0 _ rfl
    have l2 := (S3.out.bx 2 rfl).2.2
    go_upto_region 8 with fail
    clear e2 e3 e1
    have S6 := Lib.hid (((((S3.out.new' 3 #[.int .i64 (nd : Nat)] (B := w3.heap.size) rfl).new' 3 #[.int .i64 (fw : Nat)] (B := w3.heap.size + 1) (by simp)).new' 61 #[.slice none 0 0] (B := w3.heap.size + 1 + 1) (by simp)).new' 73 #[.func (.func 78) #[] #[.pointer (some ⟨w.heap.size + 1 + 1, 0, none⟩), .pointer (some ⟨w.heap.size, 0, none⟩), .pointer (some ⟨w3.heap.size + 1 + 1, 0, none⟩), .pointer (some ⟨w.heap.size + 1, 0, none⟩), .pointer (some ⟨w3.heap.size, 0, none⟩), .pointer (some ⟨w3.heap.size + 1, 0, none⟩), .pointer (some ⟨w3.heap.size + 1 + 1 + 1, 0, none⟩)]] (B := w3.heap.size + 1 + 1 + 1) (by simp)))
    replace S6 := Lib.hid (S6.out.sub [4, 6, 1, 5, 3, 2, 0] (by decide) (qs := envL (w.heap.size + 1 + 1) w.heap.size (w3.heap.size + 1 + 1) (w.heap.size + 1) w3.heap.size (w3.heap.size + 1) (w3.heap.size + 1 + 1 + 1) nn cv fw cp nd fw Av Ap (.slice none 0 0) ++ []) rfl)
    clear S3 x0 x1 x2 l0 l1 l2
    generalize World.alloc _ _ = w8 at *
    generalize w3.heap.size + 1 + 1 + 1 = Bc at *
    generalize w3.heap.size + 1 + 1 = Bf at *
    generalize w3.heap.size + 1 = Bw at *
    generalize w3.heap.size = Bd at *
    generalize hBv : w.heap.size = Bv at S6 ⊢
    generalize Bv + 1 + 1 = Bn at *
    generalize Bv + 1 = Bp at *
    rw [← hBv] at S6 ⊢
    have x6 := (S6.out.bx (b := Bc) (t := 73) (cs := [.func (.func 78) #[] #[.pointer (some ⟨Bn, 0, none⟩), .pointer (some ⟨w.heap.size, 0, none⟩), .pointer (some ⟨Bf, 0, none⟩), .pointer (some ⟨Bp, 0, none⟩), .pointer (some ⟨Bd, 0, none⟩), .pointer (some ⟨Bw, 0, none⟩), .pointer (some ⟨Bc, 0, none⟩)]]) 6 rfl).1 0 _ rfl
    have HC1 := Lib.hid (HCH.out Bn w.heap.size Bf Bp Bd Bw Bc [] 0 0 0 none [] (.slice none 0 0) w8 rfl (by omega) (by omega) (by omega) (fun s hs => by simp at hs) S6.out (fun _ _ _ => .inl rfl))
    rw [HU.out] at HC1
    clear HCH HU hBv
    cases UO with
      | none => as_aux_lemma =>
        have HR := Lib.hid HL.out
        clear HL
        go_wp2_with fail
        refine HC1.out.mono ?_
        rintro e w9 ⟨rfl, fv9, hO9⟩
        have HO9 := Lib.hid hO9
        clear hO9 x6
        go_wp2_with fail
        go_ret2
        exact ⟨none, 0, by rw [HR.out]; rfl, by rw [HR.out]; exact (Own.sub (qs := [row 3 1 (.slice none 0 0) 0 []]) (HO9.out.nil 3 1) [0] (by decide) rfl)⟩
      | some r => as_aux_lemma =>
        have HR := Lib.hid HL.out
        clear HL
        go_wp2_with fail
        refine HC1.out.mono ?_
        rintro e w9 ⟨rfl, A9, c9, hO9⟩
        have HO9 := Lib.hid hO9
        clear hO9 x6
        have x2 := (HO9.out.bx (b := Bf) (t := 61) (cs := [.slice A9 nn c9]) 3 rfl).1 0 _ rfl
        have hlen := Lib.hid (show r.length = nn by have := (show w9.ownsRow 0 3 1 (.slice A9 nn c9) nn (i64s r) from HO9.out.get 0 rfl).1; rw [i64s_len] at this; omega)
        go_wp2_with fail
        go_ret2
        exact ⟨A9, c9, by rw [HR.out]; simp only [unlO]; rw [hlen.out]; rfl, by rw [HR.out]; simp only [unlO]; rw [hlen.out]; exact (Own.sub HO9.out [0] (by decide) rfl)⟩
  · as_aux_lemma =>
    have e2 : ¬ (np : Int) ≤ (nn : Int) + (np : Int) - (nd : Int) := by omega
    have e3 : (nn : Int) + (np : Int) - (nd : Int) < (np : Int) := by omega
    have z9 : (nn : Int) + (np : Int) - (nd : Int) = (fw : Int) := by omega
    have e4 : (fw : Int) < (np : Int) := by omega
    have e5 : ¬ (np : Int) ≤ (fw : Int) := by omega
    clear hm1 hm2 hndb hfnp
    go_enter Tryd.func40, Tryd.ntmps40
    go_upto_region 1 with fail
    generalize (((w.alloc _).alloc _).alloc _) = w1 at *
    have x0 := (S0.out.bx 0 rfl).1 0 _ rfl
    have l0 := (S0.out.bx 0 rfl).2.2
    have x1 := (S0.out.bx 1 rfl).1 0 _ rfl
    have l1 := (S0.out.bx 1 rfl).2.2
    have x2 := (S0.out.bx 2 rfl).1 0 _ rfl
    have l2 := (S0.out.bx 2 rfl).2.2
    go_wp2_with fail
    refine (KN.out _ S0.out.bel).mono ?_
    rintro e w2 ⟨rfl, rfl⟩
    go_wp2_with fail
    refine (KS.out _ S0.out.bel).mono ?_
    rintro e w3 ⟨rfl, hb3⟩
    have S3 := Lib.hid (S0.out.ext hb3)
    clear hb3 S0
    clear x0 x1 x2 l0 l1 l2
    have x0 := (S3.out.bx 0 rfl).1 0 _ rfl
    have l0 := (S3.out.bx 0 rfl).2.2
    have x1 := (S3.out.bx 1 rfl).1 0 _ rfl
    have l1 := (S3.out.bx 1 rfl).2.2
    have x2 := (S3.out.bx 2 rfl).1 0 _ rfl
    have l2 := (S3.out.bx 2 rfl).2.2
    go_upto_region 8 with fail
    clear z9 e2 e3 e1 e4 e5
    have S6 := Lib.hid (((((S3.out.new' 3 #[.int .i64 (nd : Nat)] (B := w3.heap.size) rfl).new' 3 #[.int .i64 (fw : Nat)] (B := w3.heap.size + 1) (by simp)).new' 61 #[.slice none 0 0] (B := w3.heap.size + 1 + 1) (by simp)).new' 73 #[.func (.func 78) #[] #[.pointer (some ⟨w.heap.size + 1 + 1, 0, none⟩), .pointer (some ⟨w.heap.size, 0, none⟩), .pointer (some ⟨w3.heap.size + 1 + 1, 0, none⟩), .pointer (some ⟨w.heap.size + 1, 0, none⟩), .pointer (some ⟨w3.heap.size, 0, none⟩), .pointer (some ⟨w3.heap.size + 1, 0, none⟩), .pointer (some ⟨w3.heap.size + 1 + 1 + 1, 0, none⟩)]] (B := w3.heap.size + 1 + 1 + 1) (by simp)))
    replace S6 := Lib.hid (S6.out.sub [4, 6, 1, 5, 3, 2, 0] (by decide) (qs := envL (w.heap.size + 1 + 1) w.heap.size (w3.heap.size + 1 + 1) (w.heap.size + 1) w3.heap.size (w3.heap.size + 1) (w3.heap.size + 1 + 1 + 1) nn cv np cp nd fw Av Ap (.slice none 0 0) ++ []) rfl)
    clear S3 x0 x1 x2 l0 l1 l2
    generalize World.alloc _ _ = w8 at *
    generalize w3.heap.size + 1 + 1 + 1 = Bc at *
    generalize w3.heap.size + 1 + 1 = Bf at *
    generalize w3.heap.size + 1 = Bw at *
    generalize w3.heap.size = Bd at *
    generalize hBv : w.heap.size = Bv at S6 ⊢
    generalize Bv + 1 + 1 = Bn at *
    generalize Bv + 1 = Bp at *
    rw [← hBv] at S6 ⊢
    have x6 := (S6.out.bx (b := Bc) (t := 73) (cs := [.func (.func 78) #[] #[.pointer (some ⟨Bn, 0, none⟩), .pointer (some ⟨w.heap.size, 0, none⟩), .pointer (some ⟨Bf, 0, none⟩), .pointer (some ⟨Bp, 0, none⟩), .pointer (some ⟨Bd, 0, none⟩), .pointer (some ⟨Bw, 0, none⟩), .pointer (some ⟨Bc, 0, none⟩)]]) 6 rfl).1 0 _ rfl
    have HC1 := Lib.hid (HCH.out Bn w.heap.size Bf Bp Bd Bw Bc [] 0 0 0 none [] (.slice none 0 0) w8 rfl (by omega) (by omega) (by omega) (fun s hs => by simp at hs) S6.out (fun _ _ _ => .inl rfl))
    rw [HU.out] at HC1
    clear HCH HU hBv
    cases UO with
      | none => as_aux_lemma =>
        have HR := Lib.hid HL.out
        clear HL
        go_wp2_with fail
        refine HC1.out.mono ?_
        rintro e w9 ⟨rfl, fv9, hO9⟩
        have HO9 := Lib.hid hO9
        clear hO9 x6
        go_wp2_with fail
        go_ret2
        exact ⟨none, 0, by rw [HR.out]; rfl, by rw [HR.out]; exact (Own.sub (qs := [row 3 1 (.slice none 0 0) 0 []]) (HO9.out.nil 3 1) [0] (by decide) rfl)⟩
      | some r => as_aux_lemma =>
        have HR := Lib.hid HL.out
        clear HL
        go_wp2_with fail
        refine HC1.out.mono ?_
        rintro e w9 ⟨rfl, A9, c9, hO9⟩
        have HO9 := Lib.hid hO9
        clear hO9 x6
        have x2 := (HO9.out.bx (b := Bf) (t := 61) (cs := [.slice A9 nn c9]) 3 rfl).1 0 _ rfl
        have hlen := Lib.hid (show r.length = nn by have := (show w9.ownsRow 0 3 1 (.slice A9 nn c9) nn (i64s r) from HO9.out.get 0 rfl).1; rw [i64s_len] at this; omega)
        go_wp2_with fail
        go_ret2
        exact ⟨A9, c9, by rw [HR.out]; simp only [unlO]; rw [hlen.out]; rfl, by rw [HR.out]; simp only [unlO]; rw [hlen.out]; exact (Own.sub HO9.out [0] (by decide) rfl)⟩
end Go.Proofs.YtnienfgaidccpaaDoor
