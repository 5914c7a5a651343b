/- Merging by symmetric comparisons: one step, with its own calls as a premise. No condition. -/
import Derived.Test.YtnalbchggjepdaaSe
import Derived.Deep.DeepCutAuto
namespace Go.Proofs.Ytnalbchggjepdaa
open Go.RowKit Go.Shelf
attribute [local go_sem] Oper.semAt_some

def SymSays (k : Nat) : Prop := ∀ (w0 : World) (ps : List Piece) (g n c : Nat) (P X Y Q : List Pt) (W : World) (_ : Own w0 W (dat g n c (P ++ X ++ Y ++ Q) :: ps)) (a m b : Nat)
    (_ : P.length = a) (_ : a + X.length = m) (_ : m + Y.length = b) (_ : 0 < X.length) (_ : 0 < Y.length) (_ : (P ++ X ++ Y ++ Q).length = n) (_ : n ≤ 1000000) (_ : Srt ltP X) (_ : Srt ltP Y) (_ : X.length + Y.length ≤ k),
    Calls Try.prog 95 #[.slice (some ⟨g, 0, none⟩) n c, .int .i64 (a : Nat), .int .i64 (m : Nat), .int .i64 (b : Nat), .func (.func 71) #[] #[]] W fun e w' => e = .returned (.tuple #[]) ∧ ∃ S', Srt ltP S' ∧ Stb ltP (X ++ Y) S' ∧ Own w0 w' (dat g n c (P ++ S' ++ Q) :: ps)
theorem take_last {α : Type} {X : List α} {k : Nat} {z : α} (hk : k ≤ X.length) (h : z ∈ (X.take k).getLast?) : 0 < k ∧ X[k - 1]? = some z := by
  obtain ⟨p0, p1⟩ := last_at _ _ h
  rw [List.length_take, Nat.min_eq_left hk] at p0 p1
  rw [List.getElem?_take_of_lt (by omega)] at p1
  exact ⟨p0, p1⟩
theorem drop_head {α : Type} {X : List α} {k : Nat} {z : α} (h : z ∈ (X.drop k).head?) : k < X.length ∧ X[k]? = some z := by
  have h : (X.drop k).head? = some z := h
  rw [List.head?_drop] at h
  exact ⟨(List.getElem?_eq_some_iff.1 h).1, h⟩
theorem srt_one {α : Type} {lt : α → α → Bool} {X Y : List α} (hX : Srt lt X) (hY : Srt lt Y) (h : X = [] ∨ Y = []) : Srt lt (X ++ Y) := by
  rcases h with h | h
  · subst h; simpa using hY
  · subst h; simpa using hX
set_option maxRecDepth 100000 in
set_option maxHeartbeats 4000000 in
theorem symC_any (k : Nat) (ih : SymSays k) (w0 : World) (ps : List Piece) (g n c : Nat) (P X Y Q : List Pt) (W : World) (hO : Own w0 W (dat g n c (P ++ X ++ Y ++ Q) :: ps)) (a m b : Nat)
    (ha : P.length = a) (hm : a + X.length = m) (hb : m + Y.length = b) (hx2 : 2 ≤ X.length) (hy2 : 2 ≤ Y.length) (hn : (P ++ X ++ Y ++ Q).length = n) (hn2 : n ≤ 1000000) (hX : Srt ltP X) (hY : Srt ltP Y) (hk : X.length + Y.length ≤ k + 1) :
    Calls Try.prog 95 #[.slice (some ⟨g, 0, none⟩) n c, .int .i64 (a : Nat), .int .i64 (m : Nat), .int .i64 (b : Nat), .func (.func 71) #[] #[]] W fun e w' => e = .returned (.tuple #[]) ∧ ∃ S', Srt ltP S' ∧ Stb ltP (X ++ Y) S' ∧ Own w0 w' (dat g n c (P ++ S' ++ Q) :: ps) := by
  have IH := Lib.hid ih
  have HK := Lib.hid hk
  have HA := Lib.hid ha
  have HX := Lib.hid hX
  have HY := Lib.hid hY
  have HM := Lib.hid hm
  have HB := Lib.hid hb
  obtain ⟨XY, hXY⟩ : ∃ Z, Z = X ++ Y := ⟨_, rfl⟩
  rw [← hXY]
  replace hXY := Lib.hid hXY
  obtain ⟨l, hl⟩ : ∃ l, l = P ++ X ++ Y ++ Q := ⟨_, rfl⟩
  rw [← hl] at hO hn
  have HL := Lib.hid hl
  have HN := Lib.hid hn
  have S0 := Lib.hid hO
  have HAX := Lib.hid (fun (h : Nat) (h1 : a ≤ h) (h2 : h < m) => (show l[h]? = X[h - a]? by
    rw [hl, List.append_assoc, List.append_assoc, List.getElem?_append_right (by omega), List.getElem?_append_left (by omega), ha]))
  have HAY := Lib.hid (fun (h : Nat) (h1 : m ≤ h) (h2 : h < b) => (show l[h]? = Y[h - m]? by
    rw [hl, List.append_assoc (P ++ X), List.getElem?_append_right (by rw [List.length_append]; omega), List.getElem?_append_left (by rw [List.length_append]; omega), List.length_append, ha, hm]))
  obtain ⟨ma, hma⟩ : ∃ k, k = X.length := ⟨_, rfl⟩
  obtain ⟨mb, hmb⟩ : ∃ k, k = Y.length := ⟨_, rfl⟩
  have bd : m = a + ma ∧ b = m + mb ∧ b ≤ n ∧ 2 ≤ ma ∧ 2 ≤ mb := by rw [hl] at hn; simp at hn; omega
  have z0 : IntKind.i64.wrap ((m : Int) - (a : Int)) = (ma : Int) := by rw [show (m : Int) - (a : Int) = (ma : Int) by omega]; exact IntWalk.i64_in _ (by omega)
  have z00 : IntKind.i64.wrap ((b : Int) - (m : Int)) = (mb : Int) := by rw [show (b : Int) - (m : Int) = (mb : Int) by omega]; exact IntWalk.i64_in _ (by omega)
  have d0 : ((ma : Int) == 1) = false := by rw [beq_eq_false_iff_ne]; omega
  have d00 : ((mb : Int) == 1) = false := by rw [beq_eq_false_iff_ne]; omega
  obtain ⟨s, hs⟩ : ∃ s, s = a + b := ⟨_, rfl⟩
  obtain ⟨h, hh⟩ : ∃ h, h = s / 2 := ⟨_, rfl⟩
  have z1 : IntKind.i64.wrap ((a : Int) + (b : Int)) = (s : Int) := by rw [show (a : Int) + (b : Int) = (s : Int) by omega]; exact IntWalk.i64_in _ (by omega)
  have z2 : IntKind.u64.wrap (s : Int) = (s : Int) := IntWalk.u64_in _ (by omega)
  have z3 : (s : Int) / 2 = (h : Int) := by omega
  have z4 : IntKind.i64.wrap (h : Int) = (h : Int) := IntWalk.i64_in _ (by omega)
  obtain ⟨mid, hmid⟩ : ∃ q, q = h := ⟨_, rfl⟩
  rw [← hmid] at z3 z4
  obtain ⟨nn, hnn⟩ : ∃ q, q = mid + m := ⟨_, rfl⟩
  obtain ⟨p, hp⟩ : ∃ q, q = nn - 1 := ⟨_, rfl⟩
  have z5 : IntKind.i64.wrap ((mid : Int) + (m : Int)) = (nn : Int) := by rw [show (mid : Int) + (m : Int) = (nn : Int) by omega]; exact IntWalk.i64_in _ (by omega)
  have z6 : IntKind.i64.wrap ((nn : Int) - 1) = (p : Int) := by rw [show (nn : Int) - 1 = (p : Int) by omega]; exact IntWalk.i64_in _ (by omega)
  obtain ⟨s0, hs0⟩ : ∃ q, q = if mid < m then nn - b else a := ⟨_, rfl⟩
  obtain ⟨r0, hr0⟩ : ∃ q, q = if mid < m then mid else m := ⟨_, rfl⟩
  have hmm : a < mid ∧ mid < b ∧ a + b ≤ 2 * mid + 1 ∧ 2 * mid ≤ a + b := by omega
  have hsr : (mid < m → s0 = nn - b ∧ r0 = mid) ∧ (¬ mid < m → s0 = a ∧ r0 = m) := by
    refine ⟨fun q => ?_, fun q => ?_⟩
    · rw [hs0, hr0, if_pos q, if_pos q]; exact ⟨rfl, rfl⟩
    · rw [hs0, hr0, if_neg q, if_neg q]; exact ⟨rfl, rfl⟩
  have bs : a ≤ s0 ∧ s0 ≤ r0 ∧ r0 ≤ m ∧ r0 ≤ mid ∧ nn ≤ s0 + b ∧ nn ≤ 2000000 ∧ p + 1 = nn := by
    by_cases q : mid < m
    · obtain ⟨q1, q2⟩ := hsr.1 q; omega
    · obtain ⟨q1, q2⟩ := hsr.2 q; omega
  have HSR := Lib.hid (show (∀ s, s < m → s < mid → s < r0) ∧ (∀ s, a < s → nn < s + b → s0 < s) by
    by_cases q : mid < m
    · obtain ⟨q1, q2⟩ := hsr.1 q; exact ⟨fun s _ _ => by omega, fun s _ _ => by omega⟩
    · obtain ⟨q1, q2⟩ := hsr.2 q; exact ⟨fun s _ _ => by omega, fun s _ _ => by omega⟩)
  have HNN := Lib.hid (show nn = mid + m ∧ a < mid ∧ mid < b by omega)
  have HW := Lib.hid (fun (q : mid < m) => (show IntKind.i64.wrap ((nn : Int) - (b : Int)) = (s0 : Int) ∧ mid = r0 by
    obtain ⟨q1, q2⟩ := hsr.1 q
    refine ⟨?_, q2.symm⟩
    rw [show (nn : Int) - (b : Int) = (s0 : Int) by omega]; exact IntWalk.i64_in _ (by omega)))
  have HW2 := Lib.hid (fun (q : ¬ mid < m) => (show a = s0 ∧ m = r0 by
    obtain ⟨q1, q2⟩ := hsr.2 q
    exact ⟨q1.symm, q2.symm⟩))
  have bb : a < m ∧ m < b ∧ b ≤ n ∧ m ≤ 1000000 ∧ m < n := by omega
  clear ha hm hb hn hl hO hX hY bd hma hmb hx2 hy2 hs hh hmid hnn hp hs0 hr0 hsr hmm hk ih
  as_aux_lemma =>
  go_enter Try.func95, Try.ntmps95
  go_upto_if 140 with fail
  go_cut [20, 21] (fun u20 u21 wx => u20 = .int .i64 (s0 : Nat) ∧ u21 = .int .i64 (r0 : Nat) ∧ Hid (Own w0 wx (dat g n c l :: ps)))
  case first =>
    as_aux_lemma =>
    by_cases q : mid < m
    · obtain ⟨q1, q2⟩ := HW.out q
      replace q2 := Lib.hid q2
      have qi : (mid : Int) < (m : Int) := by omega
      go_wp2_with fail
      go_meet
      exact ⟨rfl, by rw [q2.out], S0.out⟩
    · obtain ⟨q1, q2⟩ := HW2.out q
      replace q1 := Lib.hid q1
      replace q2 := Lib.hid q2
      have qi : ¬ (mid : Int) < (m : Int) := by omega
      go_wp2_with fail
      go_meet
      exact ⟨by rw [q1.out], by rw [q2.out], S0.out⟩
  case rest =>
  obtain ⟨rfl, rfl, hS⟩ := hcut
  clear HW HW2 S0 z00 z0 z1 z2 z3 z4 z5 d0 d00
  as_aux_lemma =>
  go_wp2_with fail
  go_loopg [20, 21, 23] (r0 - s0) (fun q u20 u21 u23 wr => ∃ i j : Nat, (s0 ≤ i ∧ i ≤ j ∧ j ≤ r0) ∧ u20 = .int .i64 (i : Nat) ∧ u21 = .int .i64 (j : Nat) ∧ Hid (j - i ≤ q ∧ (s0 < i → ∃ x y, X[i - 1 - a]? = some x ∧ Y[nn - i - m]? = some y ∧ ltP y x = false) ∧ (j < r0 → ∃ x y, X[j - a]? = some x ∧ Y[p - j - m]? = some y ∧ ltP y x = true) ∧ Own w0 wr (dat g n c l :: ps)))
  case atStart => exact ⟨s0, r0, by omega, rfl, rfl, by omega, by omega, by omega, hS.out⟩
  case round =>
    obtain ⟨i, j, ⟨hmi, hij, hjb⟩, rfl, rfl, hI⟩ := hrel
    have I1 := Lib.hid hI.out.1
    have I2 := Lib.hid hI.out.2.1
    have I3 := Lib.hid hI.out.2.2.1
    have I4 := Lib.hid hI.out.2.2.2
    clear hI hS
    by_cases hlt : i < j
    · obtain ⟨s, hs⟩ : ∃ s, s = i + j := ⟨_, rfl⟩
      obtain ⟨h, hh⟩ : ∃ h, h = s / 2 := ⟨_, rfl⟩
      have hix : (i : Int) < (j : Int) := by omega
      have z1 : IntKind.i64.wrap ((i : Int) + (j : Int)) = (s : Int) := by rw [show (i : Int) + (j : Int) = (s : Int) by omega]; exact IntWalk.i64_in _ (by omega)
      have z2 : IntKind.u64.wrap (s : Int) = (s : Int) := IntWalk.u64_in _ (by omega)
      have z3 : (s : Int) / 2 = (h : Int) := by omega
      have z4 : IntKind.i64.wrap (h : Int) = (h : Int) := IntWalk.i64_in _ (by omega)
      have bh : i ≤ h ∧ h < j := by omega
      obtain ⟨pc, hpc⟩ : ∃ q, q = p - h := ⟨_, rfl⟩
      have bq : h < n ∧ pc < n ∧ m ≤ pc ∧ pc < b ∧ a ≤ h ∧ h < m := by have := HNN.out; omega
      have z5 : IntKind.i64.wrap ((p : Int) - (h : Int)) = (pc : Int) := by rw [show (p : Int) - (h : Int) = (pc : Int) by have := HNN.out; omega]; exact IntWalk.i64_in _ (by omega)
      obtain ⟨x, hx⟩ : ∃ x, X[h - a]? = some x := ⟨_, List.getElem?_eq_getElem (by have := HM.out; omega)⟩
      obtain ⟨y, hy⟩ : ∃ y, Y[pc - m]? = some y := ⟨_, List.getElem?_eq_getElem (by have := HB.out; omega)⟩
      have HXH := Lib.hid (show l[h]? = some x by rw [HAX.out h (by omega) (by omega)]; exact hx)
      have HYH := Lib.hid (show l[pc]? = some y by rw [HAY.out pc (by omega) (by omega)]; exact hy)
      have HG := Lib.hid (fun (hv : ltP y x = false) => (show ∃ x y, X[h + 1 - 1 - a]? = some x ∧ Y[nn - (h + 1) - m]? = some y ∧ ltP y x = false from ⟨x, y, by rw [show h + 1 - 1 - a = h - a by omega]; exact hx, by rw [show nn - (h + 1) - m = pc - m by omega]; exact hy, hv⟩))
      have HG2 := Lib.hid (fun (hv : ltP y x = true) => (show ∃ x y, X[h - a]? = some x ∧ Y[p - h - m]? = some y ∧ ltP y x = true from ⟨x, y, hx, by rw [← hpc]; exact hy, hv⟩))
      clear hs hh hx hy hpc
      as_aux_lemma =>
      go_upto_region 35 with fail
      refine wp_region_table 220 [(158, .is (.func (.func 71) #[] #[])), (159, .is (.slice (some ⟨g, 0, none⟩) n c)), (160, .is (.int .i64 (p : Nat))), (161, .is (.int .i64 (h : Nat))), (162, .is (.int .i64 (pc : Nat))), (163, .is (.pointer (some ⟨g, pc * 4, none⟩))), (164, .is (aggP y)), (165, .is (.slice (some ⟨g, 0, none⟩) n c)), (166, .is (.int .i64 (h : Nat))), (167, .is (.pointer (some ⟨g, h * 4, none⟩))), (168, .is (aggP x)), (169, .is (.int .i64 (cf y x))), (170, .is (.bool (ltP y x))), (171, .is (.bool (!ltP y x)))] (I4.out) (by kernel_rfl) (by kernel_rfl) [158, 159, 160, 161, 162, 163, 164, 165, 166, 167, 168, 169, 170, 171] (by kernel_rfl) rfl (by kernel_rfl) ?_ ?_
      · refine ⟨StepT.of [] (by kernel_rfl) ?_, ?_⟩
        · intro v hO
          exact StepG.val 158 (by kernel_rfl) (by kernel_rfl) rfl (by simp) rfl (Below.refl _ _) rfl
        refine ⟨StepT.of [] (by kernel_rfl) ?_, ?_⟩
        · intro v hO
          exact StepG.val 159 (by kernel_rfl) (by kernel_rfl) rfl (by simp) rfl (Below.refl _ _) rfl
        refine ⟨StepT.of [] (by kernel_rfl) ?_, ?_⟩
        · intro v hO
          exact StepG.val 160 (by kernel_rfl) (by kernel_rfl) rfl (by simp) rfl (Below.refl _ _) rfl
        refine ⟨StepT.of [] (by kernel_rfl) ?_, ?_⟩
        · intro v hO
          exact StepG.val 161 (by kernel_rfl) (by kernel_rfl) rfl (by simp) rfl (Below.refl _ _) rfl
        refine ⟨StepT.of [160, 161] (by kernel_rfl) ?_, ?_⟩
        · intro v hO x160 h160 x161 h161
          obtain rfl : x160 = (.int .i64 (p : Nat)) := h160
          obtain rfl : x161 = (.int .i64 (h : Nat)) := h161
          exact StepG.val 162 (by kernel_rfl) (by go_simp) rfl (by simp [Act.put]) rfl (Below.refl _ _) rfl
        refine ⟨StepT.of [159, 162] (by kernel_rfl) ?_, ?_⟩
        · intro v hO x159 h159 x162 h162
          obtain rfl : x159 = (.slice (some ⟨g, 0, none⟩) n c) := h159
          obtain rfl : x162 = (.int .i64 (pc : Nat)) := h162
          exact StepG.val 163 (by kernel_rfl) (by go_simp) rfl (by simp [Act.put]) rfl (Below.refl _ _) rfl
        refine ⟨StepT.of [163] (by kernel_rfl) ?_, ?_⟩
        · intro v hO x163 h163
          obtain rfl : x163 = (.pointer (some ⟨g, pc * 4, none⟩)) := h163
          obtain ⟨t0, t1, t2, t3⟩ := hO.ptAt HYH.out
          have tl := (hO.rowLt 0 rfl).1
          unfold aggP
          exact StepG.val 164 (by kernel_rfl) (by go_simp) rfl (by simp [Act.put]) rfl (Below.refl _ _) rfl
        refine ⟨StepT.of [] (by kernel_rfl) ?_, ?_⟩
        · intro v hO
          exact StepG.val 165 (by kernel_rfl) (by kernel_rfl) rfl (by simp) rfl (Below.refl _ _) rfl
        refine ⟨StepT.of [] (by kernel_rfl) ?_, ?_⟩
        · intro v hO
          exact StepG.val 166 (by kernel_rfl) (by kernel_rfl) rfl (by simp) rfl (Below.refl _ _) rfl
        refine ⟨StepT.of [165, 166] (by kernel_rfl) ?_, ?_⟩
        · intro v hO x165 h165 x166 h166
          obtain rfl : x165 = (.slice (some ⟨g, 0, none⟩) n c) := h165
          obtain rfl : x166 = (.int .i64 (h : Nat)) := h166
          exact StepG.val 167 (by kernel_rfl) (by go_simp) rfl (by simp [Act.put]) rfl (Below.refl _ _) rfl
        refine ⟨StepT.of [167] (by kernel_rfl) ?_, ?_⟩
        · intro v hO x167 h167
          obtain rfl : x167 = (.pointer (some ⟨g, h * 4, none⟩)) := h167
          obtain ⟨t0, t1, t2, t3⟩ := hO.ptAt HXH.out
          have tl := (hO.rowLt 0 rfl).1
          unfold aggP
          exact StepG.val 168 (by kernel_rfl) (by go_simp) rfl (by simp [Act.put]) rfl (Below.refl _ _) rfl
        refine ⟨StepT.of [158, 164, 168] (by kernel_rfl) ?_, ?_⟩
        · intro v hO x158 h158 x164 h164 x168 h168
          obtain rfl : x158 = (.func (.func 71) #[] #[]) := h158
          obtain rfl : x164 = (aggP y) := h164
          obtain rfl : x168 = (aggP x) := h168
          refine StepG.call 169 (by kernel_rfl) (by kernel_rfl) rfl (by simp [Act.put]) rfl ((cmp_any y x v).mono ?_)
          rintro e w2 ⟨rfl, hb2⟩
          exact ⟨_, rfl, hb2, rfl⟩
        refine ⟨StepT.of [169] (by kernel_rfl) ?_, ?_⟩
        · intro v hO x169 h169
          obtain rfl : x169 = (.int .i64 (cf y x)) := h169
          exact StepG.val 170 (by kernel_rfl) (by kernel_rfl) rfl (by simp [Act.put]) rfl (Below.refl _ _) rfl
        refine ⟨StepT.of [170] (by kernel_rfl) ?_, ?_⟩
        · intro v hO x170 h170
          obtain rfl : x170 = (.bool (ltP y x)) := h170
          exact StepG.val 171 (by kernel_rfl) (by kernel_rfl) rfl (by simp [Act.put]) rfl (Below.refl _ _) rfl
        exact trivial
      · intro v hO x158 h158 x159 h159 x160 h160 x161 h161 x162 h162 x163 h163 x164 h164 x165 h165 x166 h166 x167 h167 x168 h168 x169 h169 x170 h170 x171 h171
        obtain rfl : x158 = (.func (.func 71) #[] #[]) := h158
        obtain rfl : x159 = (.slice (some ⟨g, 0, none⟩) n c) := h159
        obtain rfl : x160 = (.int .i64 (p : Nat)) := h160
        obtain rfl : x161 = (.int .i64 (h : Nat)) := h161
        obtain rfl : x162 = (.int .i64 (pc : Nat)) := h162
        obtain rfl : x163 = (.pointer (some ⟨g, pc * 4, none⟩)) := h163
        obtain rfl : x164 = (aggP y) := h164
        obtain rfl : x165 = (.slice (some ⟨g, 0, none⟩) n c) := h165
        obtain rfl : x166 = (.int .i64 (h : Nat)) := h166
        obtain rfl : x167 = (.pointer (some ⟨g, h * 4, none⟩)) := h167
        obtain rfl : x168 = (aggP x) := h168
        obtain rfl : x169 = (.int .i64 (cf y x)) := h169
        obtain rfl : x170 = (.bool (ltP y x)) := h170
        obtain rfl : x171 = (.bool (!ltP y x)) := h171
        have S5 := Lib.hid hO
        simp only [stepFor, Act.put, List.setIfInBounds_toArray, List.set_cons_zero, List.set_cons_succ]
        clear hO I4
        cases hv : ltP y x
        · as_aux_lemma =>
          replace HG := Lib.hid (HG.out hv)
          replace hv := Lib.hid hv
          go_wp2_with fail
          go_roundg (j - (h + 1))
          case measure => have := I1.out; omega
          case rel => exact ⟨h + 1, j, by omega, by go_num, rfl, Nat.le_refl _, fun _ => HG.out, I3.out, S5.out⟩
        · as_aux_lemma =>
          replace HG2 := Lib.hid (HG2.out hv)
          replace hv := Lib.hid hv
          go_wp2_with fail
          go_roundg (h - i)
          case measure => have := I1.out; omega
          case rel => exact ⟨i, h, by omega, rfl, rfl, Nat.le_refl _, I2.out, fun _ => HG2.out, S5.out⟩
    · obtain rfl : i = j := by omega
      have hni : ¬ (i : Int) < (i : Int) := by omega
      obtain ⟨e, he⟩ : ∃ q, q = nn - i := ⟨_, rfl⟩
      have be : e + i = mid + m ∧ m ≤ e ∧ e ≤ b ∧ a ≤ i ∧ i ≤ m ∧ i ≤ mid := by have := HNN.out; omega
      have z7 : IntKind.i64.wrap ((nn : Int) - (i : Int)) = (e : Int) := by rw [show (nn : Int) - (i : Int) = (e : Int) by have := HNN.out; omega]; exact IntWalk.i64_in _ (by omega)
      have lx : i - a ≤ X.length := by have := HM.out; omega
      have ly : e - m ≤ Y.length := by have := HB.out; omega
      have MS := Lib.hid (fun (S1 S2 : List Pt) (k1 : Srt ltP S1) (k2 : Srt ltP S2) (s1 : Stb ltP (X.take (i - a) ++ Y.take (e - m)) S1) (s2 : Stb ltP (X.drop (i - a) ++ Y.drop (e - m)) S2) =>
        (show Srt ltP (S1 ++ S2) ∧ Stb ltP XY (S1 ++ S2) by
          have := merge_split swoP (by rw [List.take_append_drop]; exact HX.out) (by rw [List.take_append_drop]; exact HY.out)
            (fun x hx y hy => by
              obtain ⟨p0, p1⟩ := drop_head hx
              obtain ⟨q0, q1⟩ := take_last ly hy
              obtain ⟨x', y', e1, e2, e3⟩ := I3.out (HSR.out.1 i (by have := HM.out; omega) (by omega))
              rw [p1] at e1
              rw [show p - i - m = e - m - 1 by omega, q1] at e2
              injection e1 with e1; injection e2 with e2
              rw [e1, e2]; exact e3)
            (fun x hx y hy => by
              obtain ⟨p0, p1⟩ := take_last lx hx
              obtain ⟨q0, q1⟩ := drop_head hy
              obtain ⟨x', y', e1, e2, e3⟩ := I2.out (HSR.out.2 i (by omega) (by have := HB.out; omega))
              rw [show i - 1 - a = i - a - 1 by omega, p1] at e1
              rw [← he, q1] at e2
              injection e1 with e1; injection e2 with e2
              rw [e1, e2]; exact e3) k1 k2 s1 s2
          rw [List.take_append_drop, List.take_append_drop, ← hXY.out] at this
          exact this))
      have l1 : (X.take (i - a)).length = i - a := by rw [List.length_take]; omega
      have l2 : (X.drop (i - a)).length = m - i := by rw [List.length_drop]; have := HM.out; omega
      have l3 : (Y.take (e - m)).length = e - m := by rw [List.length_take]; omega
      have l4 : (Y.drop (e - m)).length = b - e := by rw [List.length_drop]; have := HB.out; omega
      have x1 : Srt ltP (X.take (i - a)) := HX.out.sublist (List.take_sublist _ _)
      have x2 : Srt ltP (X.drop (i - a)) := HX.out.sublist (List.drop_sublist _ _)
      have y1 : Srt ltP (Y.take (e - m)) := HY.out.sublist (List.take_sublist _ _)
      have y2 : Srt ltP (Y.drop (e - m)) := HY.out.sublist (List.drop_sublist _ _)
      have hll : l = P ++ X.take (i - a) ++ X.drop (i - a) ++ (Y.take (e - m) ++ Y.drop (e - m)) ++ Q := by
        rw [HL.out, List.append_assoc P (X.take _), List.take_append_drop, List.take_append_drop]
      have kb : b ≤ a + k + 1 := by have := HK.out; have := HM.out; have := HB.out; omega
      generalize X.take (i - a) = X1 at *
      generalize X.drop (i - a) = X2 at *
      generalize Y.take (e - m) = Y1 at *
      generalize Y.drop (e - m) = Y2 at *
      have S5 := Lib.hid (show Own w0 wr (dat g n c (P ++ X1 ++ X2 ++ Y1 ++ (Y2 ++ Q)) :: ps) by
        have := I4.out
        rw [hll] at this
        simpa using this)
      have ln := HN.out
      rw [hll] at ln
      have HLN := Lib.hid (show a + X1.length = i ∧ i + X2.length = m ∧ m + Y1.length = e ∧ e + Y2.length = b ∧ i + Y1.length = mid ∧ mid + X2.length = e ∧ P.length + X1.length + X2.length + Y1.length + Y2.length + Q.length = n ∧ b ≤ a + k + 1 ∧ a < mid ∧ mid < b ∧ P.length = a by
        have := HNN.out
        have := HA.out
        simp only [List.length_append] at ln
        omega)
      have HSS := Lib.hid (show Srt ltP X1 ∧ Srt ltP X2 ∧ Srt ltP Y1 ∧ Srt ltP Y2 from ⟨x1, x2, y1, y2⟩)
      clear I1 I2 I3 I4 HSR HAX HAY HX HY HM HB HL HN hXY he lx ly l1 l2 l3 l4 x1 x2 y1 y2 hll kb ln HK hij hlt hmi hjb bs z6
      as_aux_lemma =>
      obtain ⟨B1, hB1⟩ : ∃ B, B = (decide (i < m) && decide (m < e)) := ⟨_, rfl⟩
      replace hB1 := Lib.hid hB1
      go_upto_region 39 with fail
      go_cut [185] (fun u185 wx => u185 = .bool B1 ∧ Hid (wx = wr))
      case first =>
        as_aux_lemma =>
        by_cases q1 : i < m
        · have q1i : (i : Int) < (m : Int) := by omega
          by_cases q2 : m < e
          · have q2i : (m : Int) < (e : Int) := by omega
            have HE := Lib.hid (show B1 = true by rw [hB1.out, decide_eq_true q1, decide_eq_true q2]; rfl)
            go_wp2_with fail
            go_meet
            exact ⟨by rw [HE.out], rfl⟩
          · have q2i : ¬ (m : Int) < (e : Int) := by omega
            have HE := Lib.hid (show B1 = false by rw [hB1.out, decide_eq_true q1, decide_eq_false q2]; rfl)
            go_wp2_with fail
            go_meet
            exact ⟨by rw [HE.out], rfl⟩
        · have q1i : ¬ (i : Int) < (m : Int) := by omega
          have HE := Lib.hid (show B1 = false by rw [hB1.out, decide_eq_false q1]; rfl)
          go_wp2_with fail
          go_meet
          exact ⟨by rw [HE.out], rfl⟩
      case rest =>
      obtain ⟨rfl, hw0⟩ := hcut
      obtain rfl := hw0.out
      clear hw0
      go_upto_if 185 with fail
      go_cut [24] (fun u24 wx => u24 = .int .i64 (e : Nat) ∧ Hid (Own w0 wx (dat g n c (P ++ X1 ++ Y1 ++ X2 ++ Y2 ++ Q) :: ps)))
      case first =>
        as_aux_lemma =>
        cases hB : B1
        · have HE := Lib.hid (show Own w0 wc (dat g n c (P ++ X1 ++ Y1 ++ X2 ++ Y2 ++ Q) :: ps) by
            have h1 := hB1.out
            have h2 := HLN.out
            have h3 := S5.out
            rw [hB] at h1
            by_cases q1 : i < m
            · have q2 : ¬ m < e := fun q2 => by rw [decide_eq_true q1, decide_eq_true q2] at h1; cases h1
              have e1 : Y1 = [] := List.eq_nil_of_length_eq_zero (by omega)
              subst e1
              simpa using h3
            · have e1 : X2 = [] := List.eq_nil_of_length_eq_zero (by omega)
              subst e1
              simpa using h3)
          clear hB1
          subst hB
          go_wp2_with fail
          go_meet
          exact ⟨rfl, Lib.hid (by simpa only [List.append_assoc] using HE.out)⟩
        · have K := Lib.hid (rotate_any w0 ps g n c (P ++ X1) X2 Y1 (Y2 ++ Q) wc S5.out i m e (by have := HLN.out; rw [List.length_append]; omega) (by have := HLN.out; rw [List.length_append]; omega) (by have := HLN.out; rw [List.length_append]; omega)
            (by have h1 := hB1.out; rw [hB] at h1; have := HLN.out; simp at h1; omega) (by have h1 := hB1.out; rw [hB] at h1; have := HLN.out; simp at h1; omega) (by have := HLN.out; simp only [List.length_append]; omega) hn2)
          clear hB1
          subst hB
          go_wp2_with fail
          refine K.out.mono ?_
          rintro e5 w5 ⟨rfl, hO5⟩
          replace hO5 := Lib.hid hO5
          go_wp2_with fail
          go_meet
          exact ⟨rfl, Lib.hid (by simpa only [List.append_assoc] using hO5.out)⟩
      case rest =>
      obtain ⟨rfl, hS⟩ := hcut
      clear S5
      as_aux_lemma =>
      obtain ⟨B2, hB2⟩ : ∃ B, B = (decide (a < i) && decide (i < mid)) := ⟨_, rfl⟩
      replace hB2 := Lib.hid hB2
      go_upto_region 41 with fail
      obtain ⟨wd, hwd⟩ : ∃ x : World, x = wc := ⟨_, rfl⟩
      rw [← hwd] at hS ⊢
      clear hwd
      go_cut [199] (fun u199 wx => u199 = .bool B2 ∧ Hid (wx = wd))
      case first =>
        as_aux_lemma =>
        by_cases q1 : a < i
        · have q1i : (a : Int) < (i : Int) := by omega
          by_cases q2 : i < mid
          · have q2i : (i : Int) < (mid : Int) := by omega
            have HE := Lib.hid (show B2 = true by rw [hB2.out, decide_eq_true q1, decide_eq_true q2]; rfl)
            go_wp2_with fail
            go_meet
            exact ⟨by rw [HE.out], rfl⟩
          · have q2i : ¬ (i : Int) < (mid : Int) := by omega
            have HE := Lib.hid (show B2 = false by rw [hB2.out, decide_eq_true q1, decide_eq_false q2]; rfl)
            go_wp2_with fail
            go_meet
            exact ⟨by rw [HE.out], rfl⟩
        · have q1i : ¬ (a : Int) < (i : Int) := by omega
          have HE := Lib.hid (show B2 = false by rw [hB2.out, decide_eq_false q1]; rfl)
          go_wp2_with fail
          go_meet
          exact ⟨by rw [HE.out], rfl⟩
      case rest =>
      obtain ⟨rfl, hw0⟩ := hcut
      obtain rfl := hw0.out
      clear hw0
      go_upto_if 199 with fail
      go_cut [24] (fun u24 wx => u24 = .int .i64 (e : Nat) ∧ Hid (∃ S1, Srt ltP S1 ∧ Stb ltP (X1 ++ Y1) S1 ∧ Own w0 wx (dat g n c (P ++ S1 ++ X2 ++ Y2 ++ Q) :: ps)))
      case first =>
        as_aux_lemma =>
        cases hB : B2
        · have HE := Lib.hid (srt_one HSS.out.1 HSS.out.2.2.1 (by
            have h1 := hB2.out
            have h2 := HLN.out
            rw [hB] at h1
            by_cases q1 : a < i
            · have q2 : ¬ i < mid := fun q2 => by rw [decide_eq_true q1, decide_eq_true q2] at h1; cases h1
              exact .inr (List.eq_nil_of_length_eq_zero (by omega))
            · exact .inl (List.eq_nil_of_length_eq_zero (by omega))))
          clear hB2
          subst hB
          go_wp2_with fail
          go_meet
          exact ⟨rfl, _, HE.out, Stb.refl _, by simpa only [List.append_assoc] using hS.out⟩
        · have K := Lib.hid (IH.out w0 ps g n c P X1 Y1 (X2 ++ Y2 ++ Q) wc (by have := hS.out; simpa only [List.append_assoc] using this) a i mid (by have := HLN.out; omega) (by have := HLN.out; omega) (by have := HLN.out; omega)
            (by have h1 := hB2.out; rw [hB] at h1; have := HLN.out; simp at h1; omega) (by have h1 := hB2.out; rw [hB] at h1; have := HLN.out; simp at h1; omega) (by have := HLN.out; simp only [List.length_append]; omega) hn2 HSS.out.1 HSS.out.2.2.1 (by have := HLN.out; omega))
          clear hB2
          subst hB
          go_wp2_with fail
          refine K.out.mono ?_
          rintro e5 w5 ⟨rfl, hO5⟩
          replace hO5 := Lib.hid hO5
          go_wp2_with fail
          go_meet
          refine ⟨rfl, ?_⟩
          obtain ⟨S1, u1, u2, u3⟩ := hO5.out
          exact ⟨S1, u1, u2, by simpa only [List.append_assoc] using u3⟩
      case rest =>
      obtain ⟨rfl, hS2⟩ := hcut
      obtain ⟨S1, u1, u2, u3⟩ := hS2.out
      have U1 := Lib.hid u1
      have U2 := Lib.hid u2
      have U3 := Lib.hid u3
      have HS1 := Lib.hid (show a + S1.length = mid by have := u2.1; rw [List.length_append] at this; have := HLN.out; omega)
      clear hS u1 u2 u3 hS2
      as_aux_lemma =>
      by_cases q1 : mid < e
      · have q1i : (mid : Int) < (e : Int) := by omega
        by_cases q2 : e < b
        · as_aux_lemma =>
          have q2i : (e : Int) < (b : Int) := by omega
          have K := Lib.hid (IH.out w0 ps g n c (P ++ S1) X2 Y2 Q wc U3.out mid e b (by have := HLN.out; have := HS1.out; rw [List.length_append]; omega) (by have := HLN.out; omega) (by have := HLN.out; omega) (by have := HLN.out; omega) (by have := HLN.out; omega) (by have := HLN.out; have := HS1.out; simp only [List.length_append]; omega) hn2 HSS.out.2.1 HSS.out.2.2.2 (by have := HLN.out; omega))
          go_wp2_with fail
          refine K.out.mono ?_
          rintro e5 w5 ⟨rfl, hO5⟩
          replace hO5 := Lib.hid hO5
          go_wp2_with fail
          go_end0
          refine ⟨rfl, ?_⟩
          obtain ⟨S2, v1, v2, v3⟩ := hO5.out
          obtain ⟨m1, m2⟩ := MS.out S1 S2 U1.out v1 U2.out v2
          exact ⟨S1 ++ S2, m1, m2, by simpa only [List.append_assoc] using v3⟩
        · as_aux_lemma =>
          have q2i : ¬ (e : Int) < (b : Int) := by omega
          have HE := Lib.hid (MS.out S1 (X2 ++ Y2) U1.out (srt_one HSS.out.2.1 HSS.out.2.2.2 (.inr (List.eq_nil_of_length_eq_zero (by have := HLN.out; omega)))) U2.out (Stb.refl _))
          go_wp2_with fail
          go_end0
          exact ⟨rfl, _, HE.out.1, HE.out.2, by simpa only [List.append_assoc] using U3.out⟩
      · as_aux_lemma =>
        have q1i : ¬ (mid : Int) < (e : Int) := by omega
        have HE := Lib.hid (MS.out S1 (X2 ++ Y2) U1.out (srt_one HSS.out.2.1 HSS.out.2.2.2 (.inl (List.eq_nil_of_length_eq_zero (by have := HLN.out; omega)))) U2.out (Stb.refl _))
        go_wp2_with fail
        go_end0
        exact ⟨rfl, _, HE.out.1, HE.out.2, by simpa only [List.append_assoc] using U3.out⟩
end Go.Proofs.Ytnalbchggjepdaa
