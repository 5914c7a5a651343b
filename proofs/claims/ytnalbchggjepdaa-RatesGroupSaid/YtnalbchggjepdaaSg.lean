/- Stable sorting of a row of points. No condition. -/
import Derived.Test.YtnalbchggjepdaaSf
namespace Go.Proofs.Ytnalbchggjepdaa
open Go.RowKit Go.Shelf
attribute [local go_sem] Oper.semAt_some

theorem sym_all : ∀ k : Nat, SymSays k
  | 0 => by
    intro w0 ps g n c P X Y Q W hO a m b ha hm hb hx hy hn hn2 hX hY hk
    omega
  | k + 1 => by
    intro w0 ps g n c P X Y Q W hO a m b ha hm hb hx hy hn hn2 hX hY hk
    by_cases h1 : X.length = 1
    · obtain ⟨x, rfl⟩ := List.length_eq_one_iff.1 h1
      exact symA_any w0 ps g n c P x Y Q W hO a m b ha (by simpa using hm) hb hn hn2 hY
    · by_cases h2 : Y.length = 1
      · obtain ⟨y, rfl⟩ := List.length_eq_one_iff.1 h2
        exact symB_any w0 ps g n c P X y Q W hO a m b ha hm (by simpa using hb) (by omega) hn hn2 hX
      · exact symC_any k (sym_all k) w0 ps g n c P X Y Q W hO a m b ha hm hb (by omega) (by omega) hn hn2 hX hY hk
theorem sym_any (w0 : World) (ps : List Piece) (g n c : Nat) (P X Y Q : List Pt) (W : World) (hO : Own w0 W (dat g n c (P ++ X ++ Y ++ Q) :: ps)) (a m b : Nat)
    (ha : P.length = a) (hm : a + X.length = m) (hb : m + Y.length = b) (hx : 0 < X.length) (hy : 0 < Y.length) (hn : (P ++ X ++ Y ++ Q).length = n) (hn2 : n ≤ 1000000) (hX : Srt ltP X) (hY : Srt ltP Y) :
    Calls Try.prog 95 #[.slice (some ⟨g, 0, none⟩) n c, .int .i64 (a : Nat), .int .i64 (m : Nat), .int .i64 (b : Nat), .func (.func 71) #[] #[]] W fun e w' => e = .returned (.tuple #[]) ∧ ∃ S', Srt ltP S' ∧ Stb ltP (X ++ Y) S' ∧ Own w0 w' (dat g n c (P ++ S' ++ Q) :: ps) :=
  sym_all _ w0 ps g n c P X Y Q W hO a m b ha hm hb hx hy hn hn2 hX hY (Nat.le_refl _)
theorem ch_app {α : Type} {lt : α → α → Bool} {bs j : Nat} {D S : List α} (h : Ch lt bs D) (hD : D.length = j * bs) (hS : Srt lt S) (hl : S.length = bs) : Ch lt bs (D ++ S) ∧ (D ++ S).length = (j + 1) * bs :=
  ⟨ch_snoc h hD hS (by omega), by rw [List.length_append, hD, hl, Nat.succ_mul]⟩
set_option maxRecDepth 100000 in
set_option maxHeartbeats 4000000 in
theorem stable_any (w0 : World) (ps : List Piece) (g n c : Nat) (l : List Pt) (W : World) (hO : Own w0 W (dat g n c l :: ps)) (hn : l.length = n) (hn2 : n ≤ 1000000) :
    Calls Try.prog 84 #[.slice (some ⟨g, 0, none⟩) n c, .int .i64 (n : Nat), .func (.func 71) #[] #[]] W fun e w' => e = .returned (.tuple #[]) ∧ Own w0 w' (dat g n c (isort ltP l) :: ps) := by
  obtain ⟨R, hR⟩ : ∃ R, R = isort ltP l := ⟨_, rfl⟩
  rw [← hR]
  replace hR := Lib.hid hR
  have HN := Lib.hid hn
  have S0 := Lib.hid hO
  clear hn hO
  go_enter Try.func84, Try.ntmps84
  go_wp2_with fail
  go_loopg [7, 8] n (fun q u7 u8 wr => ∃ a b : Nat, (a ≤ n ∧ b = a + 20) ∧ u7 = .int .i64 (a : Nat) ∧ u8 = .int .i64 (b : Nat) ∧ Hid (n ≤ a + q ∧ ∃ D Z j, D.length = j * 20 ∧ D.length = a ∧ Ch ltP 20 D ∧ Stb ltP l (D ++ Z) ∧ Own w0 wr (dat g n c (D ++ Z) :: ps)))
  case atStart => exact ⟨0, 20, by omega, rfl, rfl, by omega, [], l, 0, rfl, rfl, ch_nil, Stb.refl _, S0.out⟩
  case round =>
    obtain ⟨a, b, ⟨han, hab⟩, rfl, rfl, hI⟩ := hrel
    have I1 := Lib.hid hI.out.1
    obtain ⟨D, Z, j, h1, h2, h3, h4, h5⟩ := hI.out.2
    have hlen : (D ++ Z).length = n := by rw [← h4.1]; exact HN.out
    clear hI S0
    by_cases hlt : b ≤ n
    · as_aux_lemma =>
      have hix : (b : Int) ≤ (n : Int) := by omega
      have e4 : Z = Z.take 20 ++ Z.drop 20 := (List.take_append_drop _ _).symm
      have l1 : (Z.take 20).length = 20 := by rw [List.length_take]; rw [List.length_append] at hlen; omega
      generalize Z.take 20 = Z1 at *
      generalize Z.drop 20 = Z2 at *
      subst e4
      have K := Lib.hid (insertion_any w0 ps g n c D Z1 Z2 wr (by simpa using h5) a b h2 (by omega) (by simpa using hlen) hn2)
      have HG := Lib.hid (fun S' (k1 : Srt ltP S') (k2 : Stb ltP Z1 S') => (show (D ++ S').length = (j + 1) * 20 ∧ (D ++ S').length = b ∧ Ch ltP 20 (D ++ S') ∧ Stb ltP l (D ++ S' ++ Z2) by
        have k3 := k2.1
        obtain ⟨k4, k5⟩ := ch_app h3 h1 k1 (by omega)
        exact ⟨k5, by rw [List.length_append]; omega, k4, h4.trans (by rw [← List.append_assoc]; exact ((Stb.refl D).app k2).app (Stb.refl Z2))⟩))
      obtain ⟨b2, hb2⟩ : ∃ b2, b2 = b + 20 := ⟨_, rfl⟩
      have z1 : IntKind.i64.wrap ((b : Int) + 20) = (b2 : Int) := by rw [show (b : Int) + 20 = (b2 : Int) by omega]; exact IntWalk.i64_in _ (by omega)
      have HQ := Lib.hid (show b2 = b + 20 ∧ b = a + 20 by omega)
      clear h1 h2 h3 h4 h5 hlen l1 hab hb2 han
      go_wp2_with fail
      refine K.out.mono ?_
      rintro e w5 ⟨rfl, hO5⟩
      replace hO5 := Lib.hid hO5
      go_wp2_with fail
      go_roundg (gk - 20)
      case measure => have := I1.out; have := HQ.out; omega
      case rel =>
        obtain ⟨S', k1, k2, k3⟩ := hO5.out
        obtain ⟨m1, m2, m3, m4⟩ := HG.out S' k1 k2
        exact ⟨b, b2, by have := HQ.out; omega, rfl, rfl, by have := I1.out; have := HQ.out; omega, D ++ S', Z2, j + 1, m1, m2, m3, m4, k3⟩
    · have hni : ¬ (b : Int) ≤ (n : Int) := by omega
      have K := Lib.hid (insertion_any w0 ps g n c D Z [] wr (by simpa using h5) a n h2 (by rw [List.length_append] at hlen; omega) (by simpa using hlen) hn2)
      have HG := Lib.hid (fun S' (k1 : Srt ltP S') (k2 : Stb ltP Z S') => (show Ch ltP 20 (D ++ S') ∧ Stb ltP l (D ++ S') by
        have k3 := k2.1
        exact ⟨ch_snoc h3 h1 k1 (by rw [List.length_append] at hlen; omega), h4.trans ((Stb.refl D).app k2)⟩))
      clear h1 h2 h3 h4 h5 hlen hab hlt han I1
      as_aux_lemma =>
      go_wp2_with fail
      refine K.out.mono ?_
      rintro e w5 ⟨rfl, hO5⟩
      have S5 := Lib.hid (show ∃ Y, Ch ltP 20 Y ∧ Stb ltP l Y ∧ Own w0 w5 (dat g n c Y :: ps) by
        obtain ⟨S', k1, k2, k3⟩ := hO5
        obtain ⟨m1, m2⟩ := HG.out S' k1 k2
        exact ⟨D ++ S', m1, m2, by simpa using k3⟩)
      clear hO5 HG K
      as_aux_lemma =>
      go_wp2_with fail
      go_loopg [6, 7, 8, 9] n (fun q u6 u7 u8 u9 wr => ∃ bs : Nat, (1 ≤ bs ∧ bs ≤ 4000000) ∧ u6 = .int .i64 (bs : Nat) ∧ Hid (n ≤ bs + q ∧ ∃ Y, Ch ltP bs Y ∧ Stb ltP l Y ∧ Own w0 wr (dat g n c Y :: ps)))
      case atStart => exact ⟨20, by omega, rfl, by omega, S5.out⟩
      case round =>
        obtain ⟨bs, ⟨hb1, hb2⟩, rfl, hI⟩ := hrel
        have I1 := Lib.hid hI.out.1
        obtain ⟨Y, y1, y2, y3⟩ := hI.out.2
        obtain ⟨G1, rfl⟩ : ∃ G1 : Nat, G1 = gk := ⟨_, rfl⟩
        obtain ⟨wa, rfl⟩ : ∃ wa : World, wa = wr := ⟨_, rfl⟩
        clear hI S5
        by_cases hlt : bs < n
        case neg => as_aux_lemma =>
          have hni : ¬ (bs : Int) < (n : Int) := by omega
          have HE := Lib.hid (show Own w0 wa (dat g n c R :: ps) by
            rw [hR.out, ← isort_unique swoP (ch_all y1 (by have := y2.1; have := HN.out; omega)) y2]
            exact y3)
          clear y1 y2 y3
          go_wp2_with fail
          go_end0
          exact ⟨rfl, HE.out⟩
        have hix : (bs : Int) < (n : Int) := by omega
        obtain ⟨b2, hb2'⟩ : ∃ k, k = 2 * bs := ⟨_, rfl⟩
        have z1 : IntKind.i64.wrap (2 * (bs : Int)) = (b2 : Int) := by rw [show 2 * (bs : Int) = (b2 : Int) by omega]; exact IntWalk.i64_in _ (by omega)
        have z2 : IntKind.i64.wrap ((bs : Int) * 2) = (b2 : Int) := by rw [show (bs : Int) * 2 = (b2 : Int) by omega]; exact IntWalk.i64_in _ (by omega)
        have HB2 := Lib.hid hb2'
        have S6 := Lib.hid (show ∃ D Z j, D.length = j * b2 ∧ D.length = 0 ∧ Ch ltP b2 D ∧ Ch ltP bs Z ∧ Stb ltP l (D ++ Z) ∧ Own w0 wa (dat g n c (D ++ Z) :: ps) from ⟨[], Y, 0, by simp, rfl, ch_nil, y1, y2, y3⟩)
        have bb : 1 ≤ bs ∧ bs < n ∧ bs < b2 ∧ b2 ≤ 2000000 := by omega
        clear y1 y2 y3 hb2' hlt hb1 hb2
        as_aux_lemma =>
        go_wp2_with fail
        go_loopg [7, 8] n (fun q u7 u8 wr => ∃ a b : Nat, (a ≤ n ∧ b ≤ 4000000) ∧ u7 = .int .i64 (a : Nat) ∧ u8 = .int .i64 (b : Nat) ∧ Hid (b = a + b2 ∧ n ≤ a + q ∧ ∃ D Z j, D.length = j * b2 ∧ D.length = a ∧ Ch ltP b2 D ∧ Ch ltP bs Z ∧ Stb ltP l (D ++ Z) ∧ Own w0 wr (dat g n c (D ++ Z) :: ps)))
        case atStart => exact ⟨0, b2, by omega, rfl, rfl, by omega, by omega, S6.out⟩
        case round =>
          obtain ⟨a, b, ⟨han, hbm⟩, rfl, rfl, hI⟩ := hrel
          have J0 := hI.out.1
          have J1 := Lib.hid hI.out.2.1
          obtain ⟨D, Z, j, h1, h2, h3, h4, h5, h6⟩ := hI.out.2.2
          have hlen : (D ++ Z).length = n := by rw [← h5.1]; exact HN.out
          obtain ⟨m, hm⟩ : ∃ m, m = a + bs := ⟨_, rfl⟩
          have z3 : IntKind.i64.wrap ((a : Int) + (bs : Int)) = (m : Int) := by rw [show (a : Int) + (bs : Int) = (m : Int) by omega]; exact IntWalk.i64_in _ (by omega)
          have q2 := HB2.out
          clear hI S6
          by_cases hlt : b ≤ n
          · as_aux_lemma =>
            have hix2 : (b : Int) ≤ (n : Int) := by omega
            obtain ⟨c1, c2, c3⟩ := ch_two h4
            have l1 : (Z.take bs).length = bs := by rw [List.length_take]; rw [List.length_append] at hlen; omega
            have l2 : ((Z.drop bs).take bs).length = bs := by rw [List.length_take, List.length_drop]; rw [List.length_append] at hlen; omega
            have e4 : Z = Z.take bs ++ (Z.drop bs).take bs ++ Z.drop (2 * bs) := by
              rw [show 2 * bs = bs + bs by omega, ← List.drop_drop, List.append_assoc, List.take_append_drop, List.take_append_drop]
            generalize Z.take bs = Z1 at *
            generalize (Z.drop bs).take bs = Z2 at *
            generalize Z.drop (2 * bs) = Z3 at *
            subst e4
            have K := Lib.hid (sym_any w0 ps g n c D Z1 Z2 Z3 wr (by simpa using h6) a m b h2 (by omega) (by omega) (by omega) (by omega) (by simpa using hlen) hn2 c1 c2)
            have HG := Lib.hid (fun S' (k1 : Srt ltP S') (k2 : Stb ltP (Z1 ++ Z2) S') => (show (D ++ S').length = (j + 1) * b2 ∧ (D ++ S').length = b ∧ Ch ltP b2 (D ++ S') ∧ Stb ltP l (D ++ S' ++ Z3) by
              have k3 := k2.1
              rw [List.length_append] at k3
              obtain ⟨k4, k5⟩ := ch_app h3 h1 k1 (by omega)
              exact ⟨k5, by rw [List.length_append]; omega, k4, h5.trans (by rw [← List.append_assoc]; exact ((Stb.refl D).app k2).app (Stb.refl Z3))⟩))
            have C3 := Lib.hid c3
            obtain ⟨b3, hb3⟩ : ∃ b3, b3 = b + b2 := ⟨_, rfl⟩
            have z4 : IntKind.i64.wrap ((b : Int) + (b2 : Int)) = (b3 : Int) := by rw [show (b : Int) + (b2 : Int) = (b3 : Int) by omega]; exact IntWalk.i64_in _ (by omega)
            have HQ := Lib.hid (show b3 = b + b2 ∧ b = a + b2 ∧ b3 ≤ 4000000 ∧ b ≤ n ∧ 1 ≤ b2 by omega)
            clear h1 h2 h3 h4 h5 h6 hlen l1 l2 c1 c2 c3 hb3 han hbm J0 hm q2 hlt
            go_wp2_with fail
            refine K.out.mono ?_
            rintro e w5 ⟨rfl, hO5⟩
            replace hO5 := Lib.hid hO5
            go_wp2_with fail
            go_roundg (gk - b2)
            case measure => have := J1.out; have := HQ.out; omega
            case rel =>
              obtain ⟨S', k1, k2, k3⟩ := hO5.out
              obtain ⟨m1, m2, m3, m4⟩ := HG.out S' k1 k2
              exact ⟨b, b3, by have := HQ.out; omega, rfl, rfl, by have := HQ.out; omega, by have := J1.out; have := HQ.out; omega, D ++ S', Z3, j + 1, m1, m2, m3, C3.out, m4, k3⟩
          · have hni : ¬ (b : Int) ≤ (n : Int) := by omega
            by_cases hmn : m < n
            · as_aux_lemma =>
              have hmi : (m : Int) < (n : Int) := by omega
              have l0 : Z.length = n - a := by rw [List.length_append] at hlen; omega
              have l1 : (Z.take bs).length = bs := by rw [List.length_take]; omega
              have l2 : (Z.drop bs).length = n - m := by rw [List.length_drop]; omega
              have e4 : Z = Z.take bs ++ Z.drop bs := (List.take_append_drop _ _).symm
              have c1 : Srt ltP (Z.take bs) := by simpa using h4 0
              have c2 : Srt ltP (Z.drop bs) := by
                have := h4 1
                rwa [Nat.one_mul, List.take_of_length_le (by omega)] at this
              generalize Z.take bs = Z1 at *
              generalize Z.drop bs = Z2 at *
              subst e4
              have K := Lib.hid (sym_any w0 ps g n c D Z1 Z2 [] wr (by simpa using h6) a m n h2 (by omega) (by omega) (by omega) (by omega) (by simpa using hlen) hn2 c1 c2)
              have HG := Lib.hid (fun S' (k1 : Srt ltP S') (k2 : Stb ltP (Z1 ++ Z2) S') => (show Ch ltP b2 (D ++ S') ∧ Stb ltP l (D ++ S') by
                have k3 := k2.1
                exact ⟨ch_snoc h3 h1 k1 (by omega), h5.trans ((Stb.refl D).app k2)⟩))
              clear h1 h2 h3 h4 h5 h6 hlen l0 l1 l2 c1 c2 han hbm J0 J1 hm q2 hlt hmn
              go_wp2_with fail
              refine K.out.mono ?_
              rintro e w5 ⟨rfl, hO5⟩
              replace hO5 := Lib.hid hO5
              go_wp2_with fail
              go_roundg (G1 - 1)
              case measure => have := I1.out; omega
              case rel =>
                obtain ⟨S', k1, k2, k3⟩ := hO5.out
                obtain ⟨m1, m2⟩ := HG.out S' k1 k2
                exact ⟨b2, by omega, rfl, by have := I1.out; omega, D ++ S', m1, m2, by simpa using k3⟩
            · as_aux_lemma =>
              have hmi : ¬ (m : Int) < (n : Int) := by omega
              have l0 : Z.length = n - a := by rw [List.length_append] at hlen; omega
              have HE := Lib.hid (show ∃ Y, Ch ltP b2 Y ∧ Stb ltP l Y ∧ Own w0 wr (dat g n c Y :: ps) from
                ⟨D ++ Z, ch_snoc h3 h1 (ch_all h4 (by omega)) (by omega), h5, h6⟩)
              clear h1 h2 h3 h4 h5 h6 hlen l0 han hbm J0 J1 hm q2 hlt hmn
              go_wp2_with fail
              go_roundg (G1 - 1)
              case measure => have := I1.out; omega
              case rel => exact ⟨b2, by omega, rfl, by have := I1.out; omega, HE.out⟩
set_option maxRecDepth 100000 in
set_option maxHeartbeats 4000000 in
/-- Stable sorting of a row of points of the call's own. -/
theorem sort_any (w0 : World) (ps : List Piece) (g n c : Nat) (l : List Pt) (W : World) (hO : Own w0 W (dat g n c l :: ps)) (hn : l.length = n) (hn2 : n ≤ 1000000) :
    Calls Try.prog 70 #[.slice (some ⟨g, 0, none⟩) n c, .func (.func 71) #[] #[]] W fun e w' => e = .returned (.tuple #[]) ∧ Own w0 w' (dat g n c (isort ltP l) :: ps) := by
  have K := Lib.hid (stable_any w0 ps g n c l W hO hn hn2)
  clear hO hn hn2
  go_enter Try.func70, Try.ntmps70
  go_wp2_with fail
  refine K.out.mono ?_
  rintro e w5 ⟨rfl, hO5⟩
  replace hO5 := Lib.hid hO5
  go_wp2_with fail
  go_end0
  exact ⟨rfl, hO5.out⟩
end Go.Proofs.Ytnalbchggjepdaa
