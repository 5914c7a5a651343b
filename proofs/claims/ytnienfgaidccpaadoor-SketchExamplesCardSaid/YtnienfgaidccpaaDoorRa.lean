/- Words: the data of a sort; cmp.Less; insertion sort. No condition. -/
import Derived.Test.YtnienfgaidccpaaDoorLf
import Derived.Test.YtnienfgaidccpaaDoorSt
import Derived.Test.YtnienfgaidccpaaDoorKg
import Derived.Sort.AssemblyPlain
namespace Go.Proofs.YtnienfgaidccpaaDoor
open Go.RowKit Go.Shelf
attribute [local go_sem] Oper.semAt_some

abbrev ltN (x y : Nat) : Bool := decide (x < y)
theorem swoN : Sort.SWO ltN := ⟨fun x => by simp [ltN], fun x y z h1 h2 => by simp [ltN] at *; omega, fun x y z h1 h2 => by simp [ltN] at *; omega⟩
/-- The data of a sort: a row of words of the call's own. -/
def dat (g n c : Nat) (d : Array Nat) : Piece := row 41 1 (.slice (some ⟨g, 0, none⟩) n c) n (u16s d.toList)
theorem Own.setD {w0 w : World} {ps : List Piece} {g n c : Nat} {d : Array Nat} (h : Own w0 w (dat g n c d :: ps)) (i v : Nat) : Own w0 (w.setCell ⟨g, i, none⟩ (.int .u16 (v : Nat))) (dat g n c (d.setIfInBounds i v) :: ps) :=
  (h.setRow 0 rfl i (.int .u16 (v : Nat))).cast (by show row 41 1 _ n ((u16s d.toList).set i _) :: ps = _; rw [dat, u16s, u16s, Array.toList_setIfInBounds, List.map_set])
theorem at_arr {d : Array Nat} {i v : Nat} (hi : i < d.size) (h : d[i]! = v) : (u16s d.toList)[i]? = some (.int .u16 (v : Nat)) := by
  subst h
  simp [u16s, hi]
theorem Own.someD {w0 w : World} {ps : List Piece} {g n c : Nat} {d : Array Nat} (h : Own w0 w (dat g n c d :: ps)) {i : Nat} (hi : i < d.size) : ∃ v : Nat, w.cell? ⟨g, i, none⟩ = some (.int .u16 (v : Nat)) :=
  ⟨_, h.rowAt 0 rfl (at_arr hi rfl)⟩
theorem swp_size (d : Array Nat) (i j : Nat) : (Sort.swp d i j).size = d.size := by simp [Sort.swp]
theorem set_comm_arr (d : Array Nat) (i j a b : Nat) (h : i = j → a = b) : (d.setIfInBounds i a).setIfInBounds j b = (d.setIfInBounds j b).setIfInBounds i a := by
  by_cases e : i = j
  · subst e
    rw [h rfl]
  · exact Array.ext' (by simp only [Array.toList_setIfInBounds]; exact List.set_comm _ _ e)
theorem swp_vars (d : Array Nat) (i j : Nat) : ∃ (vi vj : Nat) (d1 d2 dn : Array Nat), d[i]! = vi ∧ d[j]! = vj ∧ d.setIfInBounds i vj = d1 ∧ d.setIfInBounds j vi = d2 ∧ d1.setIfInBounds j vi = dn ∧ d2.setIfInBounds i vj = dn ∧ Sort.swp d i j = dn :=
  ⟨_, _, _, _, _, rfl, rfl, rfl, rfl, rfl, set_comm_arr d j i _ _ (fun e => by rw [e]), rfl⟩
theorem nan_any (a : Nat) (w : World) : Calls Tryd.prog 122 #[.int .u16 (a : Nat)] w fun e w' => e = .returned (.bool false) ∧ w = w' := by
  go_enter Tryd.func122, Tryd.ntmps122
  go_wp2_with fail
  go_ret
  trivial
theorem less_any (a b : Nat) (w : World) : Calls Tryd.prog 111 #[.int .u16 (a : Nat), .int .u16 (b : Nat)] w fun e w' => e = .returned (.bool (ltN a b)) ∧ w = w' := by
  by_cases h : a < b
  · have HL := Lib.hid (show ltN a b = true from decide_eq_true h)
    have h1 : (a : Int) < (b : Int) := by omega
    go_enter Tryd.func111, Tryd.ntmps111
    go_wp2_with (go_at_call 122; refine (nan_any _ _).mono ?_; rintro e w' ⟨rfl, rfl⟩)
    go_ret
    exact ⟨by rw [HL.out]; rfl, rfl⟩
  · have HL := Lib.hid (show ltN a b = false from decide_eq_false h)
    have h1 : ¬ (a : Int) < (b : Int) := by omega
    go_enter Tryd.func111, Tryd.ntmps111
    go_wp2_with (go_at_call 122; refine (nan_any _ _).mono ?_; rintro e w' ⟨rfl, rfl⟩)
    go_ret
    exact ⟨by rw [HL.out]; rfl, rfl⟩
theorem ins_go {a b i : Nat} {d : Array Nat} (h : i < b) : Sort.insOuter ltN a b i d = Sort.insOuter ltN a b (i + 1) (Sort.insInner ltN a i d) := by
  rw [Sort.insOuter, if_pos h]
theorem ins_end {a b i : Nat} {d : Array Nat} (h : ¬ i < b) : Sort.insOuter ltN a b i d = d := by
  rw [Sort.insOuter, if_neg h]
theorem inn_go {a j : Nat} {d : Array Nat} (h1 : a < j) (h : ltN d[j]! d[j - 1]! = true) : Sort.insInner ltN a j d = Sort.insInner ltN a (j - 1) (Sort.swp d j (j - 1)) := by
  obtain ⟨k, rfl⟩ : ∃ k, j = k + 1 := ⟨j - 1, by omega⟩
  simp only [Nat.add_sub_cancel] at *
  rw [Sort.insInner, if_pos]
  simp [h]; omega
theorem inn_end {a j : Nat} {d : Array Nat} (h : ¬ a < j ∨ ltN d[j]! d[j - 1]! = false) : Sort.insInner ltN a j d = d := by
  cases j with
  | zero => rfl
  | succ k =>
    simp only [Nat.add_sub_cancel] at *
    rw [Sort.insInner, if_neg]
    rcases h with h | h
    · simp; omega
    · simp [h]
set_option maxRecDepth 100000 in
set_option maxHeartbeats 8000000 in
theorem insSort_any (w0 : World) (ps : List Piece) (g n c : Nat) (d : Array Nat) (W : World) (hO : Own w0 W (dat g n c d :: ps)) (a b : Nat) (hd : d.size = n) (hab : a ≤ b) (hbn : b ≤ n) (hn : n ≤ 1000000) :
    Calls Tryd.prog 105 #[.slice (some ⟨g, 0, none⟩) n c, .int .i64 (a : Nat), .int .i64 (b : Nat)] W fun e w' => e = .returned (.tuple #[]) ∧ Own w0 w' (dat g n c (Sort.insertionSort ltN d a b) :: ps) := by
  have S0 := Lib.hid hO
  have HD := Lib.hid hd
  obtain ⟨R, hR⟩ : ∃ R, R = Sort.insertionSort ltN d a b := ⟨_, rfl⟩
  rw [← hR]
  have H0 := Lib.hid (show R = Sort.insOuter ltN a b (a + 1) d from hR)
  clear hO hd hR
  have z0 : IntKind.i64.wrap ((a : Int) + 1) = ((a + 1 : Nat) : Int) := by rw [show (a : Int) + 1 = ((a + 1 : Nat) : Int) by omega]; exact IntWalk.i64_in _ (by omega)
  go_enter Tryd.func105, Tryd.ntmps105
  go_wp2_with fail
  go_loopg [6] (b + 1) (fun q u6 wr => ∃ i : Nat, (a + 1 ≤ i ∧ i ≤ b + 1) ∧ u6 = .int .i64 ((i : Nat) : Int) ∧ Hid (∃ d, R = Sort.insOuter ltN a b i d ∧ d.size = n ∧ i + q = b + 1 + (a + 1) ∧ Own w0 wr (dat g n c d :: ps)))
  case atStart => exact ⟨a + 1, by omega, rfl, d, H0.out, HD.out, by omega, S0.out⟩
  case round =>
    obtain ⟨i, ⟨hi1, hi2⟩, rfl, hI⟩ := hrel
    obtain ⟨d, q1, q2, q3, q4⟩ := hI.out
    have I0 := Lib.hid q1
    have I1 := Lib.hid q2
    have I2 := Lib.hid q3
    have I3 := Lib.hid q4
    clear hI q1 q2 q3 q4 S0 H0 HD
    by_cases hlt : i < b
    case neg => as_aux_lemma =>
      have hni : ¬ (i : Int) < (b : Int) := by omega
      have HE := Lib.hid (show R = d by rw [I0.out, ins_end hlt])
      go_wp2_with fail
      go_end0
      exact ⟨rfl, by rw [HE.out]; exact I3.out⟩
    have hii : (i : Int) < (b : Int) := by omega
    have zi : IntKind.i64.wrap ((i : Int) + 1) = ((i + 1 : Nat) : Int) := by rw [show (i : Int) + 1 = ((i + 1 : Nat) : Int) by omega]; exact IntWalk.i64_in _ (by omega)
    obtain ⟨G1, rfl⟩ : ∃ G1 : Nat, G1 = gk := ⟨_, rfl⟩
    obtain ⟨RI, hRI⟩ : ∃ RI, RI = Sort.insInner ltN a i d := ⟨_, rfl⟩
    have HG := Lib.hid (show R = Sort.insOuter ltN a b (i + 1) RI by rw [I0.out, ins_go hlt, hRI])
    have HRI := Lib.hid hRI
    clear hRI I0
    go_wp2_with fail
    go_loopg [7] i (fun q u7 wr => ∃ j : Nat, j ≤ i ∧ u7 = .int .i64 ((j : Nat) : Int) ∧ Hid (∃ d, RI = Sort.insInner ltN a j d ∧ d.size = n ∧ j = q ∧ Own w0 wr (dat g n c d :: ps)))
    case atStart => exact ⟨i, by omega, rfl, d, HRI.out, I1.out, rfl, I3.out⟩
    case round =>
      obtain ⟨j, hj, rfl, hJ⟩ := hrel
      obtain ⟨d, q1, q2, q3, q4⟩ := hJ.out
      have J0 := Lib.hid q1
      have J1 := Lib.hid q2
      have JQ := Lib.hid q3
      have J2 := Lib.hid q4
      have hsz : d.size = n := q2
      clear hJ q1 q2 q3 q4 I3 HRI I1
      by_cases haj : a < j
      case neg => as_aux_lemma =>
        have haj' : ¬ (a : Int) < (j : Int) := by omega
        have HE := Lib.hid (show RI = d by rw [J0.out, inn_end (.inl haj)])
        clear hsz
        go_wp2_with fail
        have haj2 : ¬ (a : Int) < (j : Int) := by omega
        have hne : Nonempty (OwnOf w0 (dat g n c d :: ps)) := ⟨⟨_, J2.out⟩⟩
        refine wp_region_own J2.out (by kernel_rfl) (by kernel_rfl) ?_
        iterate 15 (go_big_quiet_step (fail))
        refine wpQuiet_nil ?_
        rintro w9 ⟨z, hz⟩
        have S9 := Lib.hid (show Own w0 w9 (dat g n c d :: ps) by rw [hz]; exact z.own)
        clear hz z J2
        go_wp2_with fail
        go_roundg (G1 - 1)
        case measure => have := I2.out; omega
        case rel => exact ⟨i + 1, by omega, by go_num, d, by rw [← HE.out]; exact HG.out, J1.out, by have := I2.out; omega, S9.out⟩
      have haj' : (a : Int) < (j : Int) := by omega
      have hjn : (j : Int) < (n : Int) := by omega
      have hjc : (((j - 1 : Nat)) : Int) < (n : Int) := by omega
      have zj : (j : Int) - 1 = ((j - 1 : Nat) : Int) := by omega
      have zw : IntKind.i64.wrap ((j - 1 : Nat) : Int) = ((j - 1 : Nat) : Int) := IntWalk.i64_in _ (by omega)
      have FA := Lib.hid (fun x : OwnOf w0 (dat g n c d :: ps) => x.own.rowAt (g := g) 0 rfl (at_arr (d := d) (i := j) (by omega) rfl))
      have FB := Lib.hid (fun x : OwnOf w0 (dat g n c d :: ps) => x.own.rowAt (g := g) 0 rfl (at_arr (d := d) (i := j - 1) (by omega) rfl))
      have HGO := Lib.hid (fun h => inn_go (d := d) haj h)
      have HEN := Lib.hid (fun h => inn_end (a := a) (j := j) (d := d) (.inr h))
      obtain ⟨jm, hjm⟩ : ∃ jm, jm = j - 1 := ⟨_, rfl⟩
      rw [← hjm] at zj zw hjc FB HGO HEN
      obtain ⟨vi, vj, d1, d2, dn, sq1, sq2, sq3, sq4, sq5, sq6, sq7⟩ := swp_vars d (j) (jm)
      have SI := Lib.hid (at_arr (d := d) (i := j) (by omega) sq1)
      have SJ := Lib.hid (at_arr (d := d) (i := jm) (by omega) sq2)
      have SBI := Lib.hid (show j < d.size by omega)
      have SBJ := Lib.hid (show jm < d.size by omega)
      have SQ3 := Lib.hid sq3
      have SQ4 := Lib.hid sq4
      have SQ5 := Lib.hid sq5
      have SQ6 := Lib.hid sq6
      have SQ7 := Lib.hid sq7
      have SZ := Lib.hid (show dn.size = d.size by rw [← sq7]; exact swp_size _ _ _)
      clear sq1 sq2 sq3 sq4 sq5 sq6 sq7
      generalize d[j]! = x1 at *
      generalize d[jm]! = x2 at *
      have fa := FA.out
      have fb := FB.out
      have hne : Nonempty (OwnOf w0 (dat g n c d :: ps)) := ⟨⟨_, J2.out⟩⟩
      clear FA FB
      have KL := Lib.hid (fun W1 => less_any x1 x2 W1)
      cases hl : ltN x1 x2
      · as_aux_lemma =>
        rw [hl] at KL
        have HE := Lib.hid (show RI = d by rw [J0.out, HEN.out hl])
        clear hl hsz hjm HGO HEN SI SJ SQ3 SQ4 SQ5 SQ6 SQ7 SZ SBI SBJ
        go_wp2_with fail
        refine wp_region_own J2.out (by kernel_rfl) (by kernel_rfl) ?_
        iterate 13 (go_big_quiet_step (fail))
        go_big_quiet_step ((go_at_call 111; exact own_same (KL.out _)))
        iterate 1 (go_big_quiet_step (fail))
        refine wpQuiet_nil ?_
        rintro w9 ⟨z, hz⟩
        have S9 := Lib.hid (show Own w0 w9 (dat g n c d :: ps) by rw [hz]; exact z.own)
        clear hz z J2 fa fb hne KL
        go_wp2_with fail
        go_roundg (G1 - 1)
        case measure => have := I2.out; omega
        case rel => exact ⟨i + 1, by omega, by go_num, d, by rw [← HE.out]; exact HG.out, J1.out, by have := I2.out; omega, S9.out⟩
      · as_aux_lemma =>
        rw [hl] at KL
        have HE := Lib.hid (show RI = Sort.insInner ltN a jm dn by rw [J0.out, HGO.out hl, SQ7.out])
        have HJM := Lib.hid hjm
        clear hl HGO HEN hsz hjm
        go_wp2_with fail
        refine wp_region_own J2.out (by kernel_rfl) (by kernel_rfl) ?_
        iterate 13 (go_big_quiet_step (fail))
        go_big_quiet_step ((go_at_call 111; exact own_same (KL.out _)))
        iterate 1 (go_big_quiet_step (fail))
        refine wpQuiet_nil ?_
        rintro w9 ⟨z, hz⟩
        have S9 := Lib.hid (show Own w0 w9 (dat g n c d :: ps) by rw [hz]; exact z.own)
        clear hz z J2 fa fb hne KL
        go_upto_region 6 with (fail)
        refine wp_region_state 49 [(33, (.slice (some ⟨g, 0, none⟩) n c)), (34, (.int .i64 ((j : Nat) : Int))), (35, (.slice (some ⟨g, 0, none⟩) n c)), (36, (.int .i64 ((j : Nat) : Int))), (37, (.int .i64 ((jm : Nat) : Int))), (38, (.slice (some ⟨g, 0, none⟩) n c)), (39, (.int .i64 ((j : Nat) : Int))), (40, (.int .i64 ((jm : Nat) : Int))), (41, (.pointer (some ⟨g, jm, none⟩))), (42, (.int .u16 (vj : Nat))), (43, (.slice (some ⟨g, 0, none⟩) n c)), (44, (.int .i64 ((j : Nat) : Int))), (45, (.pointer (some ⟨g, j, none⟩))), (46, (.int .u16 (vi : Nat))), (47, (.pointer (some ⟨g, j, none⟩))), (48, (.pointer (some ⟨g, jm, none⟩)))] (fun L vs w' => Own w0 w' (dat g n c (cond (L 15) (cond (L 17) dn d1) (cond (L 17) d2 d)) :: ps)) (by kernel_rfl) (by kernel_rfl) [33, 34, 35, 36, 37, 38, 39, 40, 41, 42, 43, 44, 45, 46, 47, 48] (by kernel_rfl) rfl (by kernel_rfl) 18 rfl ?_ ?_ ?_
        · exact fun L hL => (S9.out.ext (Below.refl _ _).drew).cast (by simp [hL 15 (by decide), hL 17 (by decide)])
        · refine ⟨StepS.of [] (by kernel_rfl) ?_, ?_⟩
          · intro L vs wq hL hA hC hJ
            unfold forAll
            exact StepV.val 33 (by kernel_rfl) (by kernel_rfl) rfl (by simp) rfl rfl hJ
          refine ⟨StepS.of [] (by kernel_rfl) ?_, ?_⟩
          · intro L vs wq hL hA hC hJ
            unfold forAll
            exact StepV.val 34 (by kernel_rfl) (by kernel_rfl) rfl (by simp) rfl rfl hJ
          refine ⟨StepS.of [] (by kernel_rfl) ?_, ?_⟩
          · intro L vs wq hL hA hC hJ
            unfold forAll
            exact StepV.val 35 (by kernel_rfl) (by kernel_rfl) rfl (by simp) rfl rfl hJ
          refine ⟨StepS.of [] (by kernel_rfl) ?_, ?_⟩
          · intro L vs wq hL hA hC hJ
            unfold forAll
            exact StepV.val 36 (by kernel_rfl) (by kernel_rfl) rfl (by simp) rfl rfl hJ
          refine ⟨StepS.of [36] (by kernel_rfl) ?_, ?_⟩
          · intro L vs wq hL hA hC hJ h36
            rw [(show vs 36 = (.int .i64 ((j : Nat) : Int)) from h36)]
            unfold forAll
            exact StepV.val 37 (by kernel_rfl) (by go_simp) rfl (by simp [Act.put]) rfl rfl hJ
          refine ⟨StepS.of [] (by kernel_rfl) ?_, ?_⟩
          · intro L vs wq hL hA hC hJ
            unfold forAll
            exact StepV.val 38 (by kernel_rfl) (by kernel_rfl) rfl (by simp) rfl rfl hJ
          refine ⟨StepS.of [] (by kernel_rfl) ?_, ?_⟩
          · intro L vs wq hL hA hC hJ
            unfold forAll
            exact StepV.val 39 (by kernel_rfl) (by kernel_rfl) rfl (by simp) rfl rfl hJ
          refine ⟨StepS.of [39] (by kernel_rfl) ?_, ?_⟩
          · intro L vs wq hL hA hC hJ h39
            rw [(show vs 39 = (.int .i64 ((j : Nat) : Int)) from h39)]
            unfold forAll
            exact StepV.val 40 (by kernel_rfl) (by go_simp) rfl (by simp [Act.put]) rfl rfl hJ
          refine ⟨StepS.of [38, 40] (by kernel_rfl) ?_, ?_⟩
          · intro L vs wq hL hA hC hJ h38 h40
            rw [(show vs 38 = (.slice (some ⟨g, 0, none⟩) n c) from h38), (show vs 40 = (.int .i64 ((jm : Nat) : Int)) from h40)]
            unfold forAll
            exact StepV.val 41 (by kernel_rfl) (by go_simp) rfl (by simp [Act.put]) rfl rfl hJ
          refine ⟨StepS.of [41] (by kernel_rfl) ?_, ?_⟩
          · intro L vs wq hL hA hC hJ h41
            rw [(show vs 41 = (.pointer (some ⟨g, jm, none⟩)) from h41)]
            unfold forAll
            have q1 := hC.no (j := 15) (i := 9) (by kernel_rfl) hL
            have q2 := hC.no (j := 17) (i := 9) (by kernel_rfl) hL
            have K := Own.cast (qs := dat g n c d :: ps) hJ (by simp [q1, q2])
            have t0 := K.rowAt 0 rfl (u := .int .u16 (vj : Nat)) (j := jm) SJ.out
            have tl := (K.rowLt 0 rfl).1
            exact StepV.val 42 (by kernel_rfl) (by go_simp) rfl (by simp [Act.put]) rfl rfl hJ
          refine ⟨StepS.of [] (by kernel_rfl) ?_, ?_⟩
          · intro L vs wq hL hA hC hJ
            unfold forAll
            exact StepV.val 43 (by kernel_rfl) (by kernel_rfl) rfl (by simp) rfl rfl hJ
          refine ⟨StepS.of [] (by kernel_rfl) ?_, ?_⟩
          · intro L vs wq hL hA hC hJ
            unfold forAll
            exact StepV.val 44 (by kernel_rfl) (by kernel_rfl) rfl (by simp) rfl rfl hJ
          refine ⟨StepS.of [43, 44] (by kernel_rfl) ?_, ?_⟩
          · intro L vs wq hL hA hC hJ h43 h44
            rw [(show vs 43 = (.slice (some ⟨g, 0, none⟩) n c) from h43), (show vs 44 = (.int .i64 ((j : Nat) : Int)) from h44)]
            unfold forAll
            exact StepV.val 45 (by kernel_rfl) (by go_simp) rfl (by simp [Act.put]) rfl rfl hJ
          refine ⟨StepS.of [45] (by kernel_rfl) ?_, ?_⟩
          · intro L vs wq hL hA hC hJ h45
            rw [(show vs 45 = (.pointer (some ⟨g, j, none⟩)) from h45)]
            unfold forAll
            have q1 := hC.no (j := 15) (i := 13) (by kernel_rfl) hL
            have q2 := hC.no (j := 17) (i := 13) (by kernel_rfl) hL
            have K := Own.cast (qs := dat g n c d :: ps) hJ (by simp [q1, q2])
            have t0 := K.rowAt 0 rfl (u := .int .u16 (vi : Nat)) (j := j) SI.out
            have tl := (K.rowLt 0 rfl).1
            exact StepV.val 46 (by kernel_rfl) (by go_simp) rfl (by simp [Act.put]) rfl rfl hJ
          refine ⟨StepS.of [33, 34] (by kernel_rfl) ?_, ?_⟩
          · intro L vs wq hL hA hC hJ h33 h34
            rw [(show vs 33 = (.slice (some ⟨g, 0, none⟩) n c) from h33), (show vs 34 = (.int .i64 ((j : Nat) : Int)) from h34)]
            unfold forAll
            exact StepV.val 47 (by kernel_rfl) (by go_simp) rfl (by simp [Act.put]) rfl rfl hJ
          refine ⟨StepS.of [47, 42] (by kernel_rfl) ?_, ?_⟩
          · intro L vs wq hL hA hC hJ h47 h42
            rw [(show vs 47 = (.pointer (some ⟨g, j, none⟩)) from h47), (show vs 42 = (.int .u16 (vj : Nat)) from h42)]
            unfold forAll
            cases q : L 17
            · have K := Own.cast (qs := dat g n c d :: ps) hJ (by simp [hL, q])
              have tl := (K.rowLt 0 rfl).1; have tf := (K.rowLt 0 rfl).2
              have t0 := K.rowAt 0 rfl (j := j) SI.out
              exact StepV.skip (by kernel_rfl) (by go_simp) rfl rfl ((K.setD (j) vj).cast (by simp [upd, q, SQ3.out]))
            · have K := Own.cast (qs := dat g n c d2 :: ps) hJ (by simp [hL, q])
              have tl := (K.rowLt 0 rfl).1; have tf := (K.rowLt 0 rfl).2
              obtain ⟨u9, t0⟩ := K.someD (i := j) (by rw [← SQ4.out, Array.size_setIfInBounds]; exact SBI.out)
              exact StepV.skip (by kernel_rfl) (by go_simp) rfl rfl ((K.setD (j) vj).cast (by simp [upd, q, SQ6.out]))
          refine ⟨StepS.of [35, 37] (by kernel_rfl) ?_, ?_⟩
          · intro L vs wq hL hA hC hJ h35 h37
            rw [(show vs 35 = (.slice (some ⟨g, 0, none⟩) n c) from h35), (show vs 37 = (.int .i64 ((jm : Nat) : Int)) from h37)]
            unfold forAll
            exact StepV.val 48 (by kernel_rfl) (by go_simp) rfl (by simp [Act.put]) rfl rfl hJ
          refine ⟨StepS.of [48, 46] (by kernel_rfl) ?_, ?_⟩
          · intro L vs wq hL hA hC hJ h48 h46
            rw [(show vs 48 = (.pointer (some ⟨g, jm, none⟩)) from h48), (show vs 46 = (.int .u16 (vi : Nat)) from h46)]
            unfold forAll
            cases q : L 15
            · have K := Own.cast (qs := dat g n c d :: ps) hJ (by simp [hL, q])
              have tl := (K.rowLt 0 rfl).1; have tf := (K.rowLt 0 rfl).2
              have t0 := K.rowAt 0 rfl (j := jm) SJ.out
              exact StepV.skip (by kernel_rfl) (by go_simp) rfl rfl ((K.setD (jm) vi).cast (by simp [upd, q, SQ4.out]))
            · have K := Own.cast (qs := dat g n c d1 :: ps) hJ (by simp [hL, q])
              have tl := (K.rowLt 0 rfl).1; have tf := (K.rowLt 0 rfl).2
              obtain ⟨u9, t0⟩ := K.someD (i := jm) (by rw [← SQ3.out, Array.size_setIfInBounds]; exact SBJ.out)
              exact StepV.skip (by kernel_rfl) (by go_simp) rfl rfl ((K.setD (jm) vi).cast (by simp [upd, q, SQ5.out]))
          exact trivial
        · intro vs wS5 hJ h33 h34 h35 h36 h37 h38 h39 h40 h41 h42 h43 h44 h45 h46 h47 h48
          rw [(show vs 33 = (.slice (some ⟨g, 0, none⟩) n c) from h33), (show vs 34 = (.int .i64 ((j : Nat) : Int)) from h34), (show vs 35 = (.slice (some ⟨g, 0, none⟩) n c) from h35), (show vs 36 = (.int .i64 ((j : Nat) : Int)) from h36), (show vs 37 = (.int .i64 ((jm : Nat) : Int)) from h37), (show vs 38 = (.slice (some ⟨g, 0, none⟩) n c) from h38), (show vs 39 = (.int .i64 ((j : Nat) : Int)) from h39), (show vs 40 = (.int .i64 ((jm : Nat) : Int)) from h40), (show vs 41 = (.pointer (some ⟨g, jm, none⟩)) from h41), (show vs 42 = (.int .u16 (vj : Nat)) from h42), (show vs 43 = (.slice (some ⟨g, 0, none⟩) n c) from h43), (show vs 44 = (.int .i64 ((j : Nat) : Int)) from h44), (show vs 45 = (.pointer (some ⟨g, j, none⟩)) from h45), (show vs 46 = (.int .u16 (vi : Nat)) from h46), (show vs 47 = (.pointer (some ⟨g, j, none⟩)) from h47), (show vs 48 = (.pointer (some ⟨g, jm, none⟩)) from h48)]
          clear h33 h34 h35 h36 h37 h38 h39 h40 h41 h42 h43 h44 h45 h46 h47 h48
          have S5 := Lib.hid (Own.cast (qs := dat g n c dn :: ps) hJ rfl)
          clear hJ
          unfold forAll
          simp only [Act.put, List.setIfInBounds_toArray, List.set_cons_zero, List.set_cons_succ]
          go_wp2_with fail
          go_roundg (gk - 1)
          case measure => have := JQ.out; omega
          case rel => exact ⟨jm, by have := HJM.out; omega, by go_num, dn, HE.out, by rw [SZ.out]; exact J1.out, by have := JQ.out; have := HJM.out; omega, S5.out⟩
end Go.Proofs.YtnienfgaidccpaaDoor
