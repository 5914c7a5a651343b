/- Ridge: a trace with background around it: thinning, parts and minutiae. Plain. No condition. -/
import Derived.Test.YtjelnbfnoliocaaTe
import Derived.Test.YtjelnbfnoliocaaTh
import Derived.Test.YtjelnbfnoliocaaPz
namespace Go.Proofs.Ytjelnbfnoliocaa

theorem plc_no {W x y : Nat} (hx : x < W) : plc W (y * W + x) = ((x : Int), (y : Int)) := by
  unfold plc
  have h1 : ((y * W + x : Nat) : Int) = (y : Int) * W + x := by push_cast; rfl
  rw [h1]
  have e1 : ((y : Int) * W + x) / (W : Int) = y := by rw [Int.add_comm, Int.add_mul_ediv_right _ _ (by omega), Int.ediv_eq_zero_of_lt (by omega) (by omega), Int.zero_add]
  have e2 : ((y : Int) * W + x) % (W : Int) = x := by rw [Int.add_comm, Int.add_mul_emod_self_right, Int.emod_eq_of_lt (by omega) (by omega)]
  rw [e1, e2]
theorem no_lt {W H x y : Nat} (hx : x < W) (hy : y < H) : y * W + x < W * H := by
  have h : (y + 1) * W ≤ H * W := Nat.mul_le_mul_right _ hy
  rw [Nat.add_mul, Nat.one_mul, Nat.mul_comm H W] at h
  omega
theorem no_of {W H i : Nat} (h : i < W * H) : ∃ x y, x < W ∧ y < H ∧ i = y * W + x := by
  have hW : 0 < W := by rcases Nat.eq_zero_or_pos W with e | e; · subst e; simp at h
                        · exact e
  refine ⟨i % W, i / W, Nat.mod_lt _ hW, Nat.div_lt_of_lt_mul h, ?_⟩
  have := Nat.div_add_mod i W
  rw [Nat.mul_comm] at this
  exact this.symm
theorem no_inj {W x y x1 y1 : Nat} (hx : x < W) (hx1 : x1 < W) (h : y * W + x = y1 * W + x1) : x = x1 ∧ y = y1 := by
  have e1 := plc_no (y := y) hx
  have e2 := plc_no (y := y1) hx1
  rw [h, e2] at e1
  injection e1 with e1 e3
  omega
/-- A pixel as a place. -/
theorem isF_no {W H x y : Nat} {l : List Bool} (hx : x < W) (hy : y < H) : isF W H l x y = l.getD (y * W + x) false := by
  unfold isF
  have e : ((y : Int) * W + x).toNat = y * W + x := by
    have : ((y : Int) * W + x) = ((y * W + x : Nat) : Int) := by push_cast; rfl
    rw [this, Int.toNat_natCast]
  rw [e]
  have h1 : inB 0 ((W : Int) - 1) x = true := by simp [inB]; omega
  have h2 : inB 0 ((H : Int) - 1) y = true := by simp [inB]; omega
  rw [h1, h2]; rfl
theorem isF_out {W H : Nat} {l : List Bool} {x y : Int} (h : x < 0 ∨ (W : Int) ≤ x ∨ y < 0 ∨ (H : Int) ≤ y) : isF W H l x y = false := by
  unfold isF
  rcases h with h | h | h | h
  · have : inB 0 ((W : Int) - 1) x = false := by simp [inB]; omega
    rw [this]; rfl
  · have : inB 0 ((W : Int) - 1) x = false := by simp [inB]; omega
    rw [this]; rfl
  · have : inB 0 ((H : Int) - 1) y = false := by simp [inB]; omega
    rw [this, Bool.and_false]; rfl
  · have : inB 0 ((H : Int) - 1) y = false := by simp [inB]; omega
    rw [this, Bool.and_false]; rfl
theorem in_or_out (W H : Nat) (x y : Int) : (∃ a b : Nat, a < W ∧ b < H ∧ x = a ∧ y = b) ∨ (x < 0 ∨ (W : Int) ≤ x ∨ y < 0 ∨ (H : Int) ≤ y) := by
  by_cases h : 0 ≤ x ∧ x < W ∧ 0 ≤ y ∧ y < H
  · exact .inl ⟨x.toNat, y.toNat, by omega, by omega, by omega, by omega⟩
  · exact .inr (by omega)
theorem isF_set {W H x y : Nat} {l : List Bool} (hl : l.length = W * H) (hx : x < W) (hy : y < H) (X Y : Int) : isF W H (l.set (y * W + x) false) X Y = (isF W H l X Y && !(decide (X = x) && decide (Y = y))) := by
  rcases in_or_out W H X Y with ⟨a, b, ha, hb, rfl, rfl⟩ | h
  · rw [isF_no ha hb, isF_no ha hb]
    simp only [List.getD_eq_getElem?_getD]
    by_cases e : b * W + a = y * W + x
    · obtain ⟨rfl, rfl⟩ := no_inj ha hx e
      rw [List.getElem?_set_self (by rw [hl]; exact no_lt ha hb)]
      simp
    · rw [List.getElem?_set_ne (Ne.symm e)]
      have : (decide ((a : Int) = x) && decide ((b : Int) = y)) = false := by
        by_cases e1 : a = x
        · by_cases e2 : b = y
          · subst e1; subst e2; exact absurd rfl e
          · simp; omega
        · simp; omega
      rw [this]; simp
  · rw [isF_out h, isF_out h]; rfl

/-- A trace and the same with background around it: x0 columns to the left, y0 rows above. -/
structure Mv (W H W' H' x0 y0 : Nat) (l l' : List Bool) : Prop where
  len : l.length = W * H
  len' : l'.length = W' * H'
  is : ∀ x y : Int, isF W' H' l' x y = isF W H l (x - x0) (y - y0)
def padI (W H : Int) (W' : Int) (x0 y0 : Int) (l : List Bool) (k : Nat) : List Bool := (List.range k).map fun i => isF W H l ((plc W' i).1 - x0) ((plc W' i).2 - y0)
theorem padI_len (W H W' x0 y0 : Int) (l : List Bool) (k : Nat) : (padI W H W' x0 y0 l k).length = k := by simp [padI]
theorem padI_succ (W H W' x0 y0 : Int) (l : List Bool) (k : Nat) : padI W H W' x0 y0 l (k + 1) = padI W H W' x0 y0 l k ++ [isF W H l ((plc W' k).1 - x0) ((plc W' k).2 - y0)] := by
  simp [padI, List.range_succ]
section
variable {W H W' H' x0 y0 : Nat} {l l' : List Bool}
theorem pad_mv (hl : l.length = W * H) (hW : x0 + W ≤ W') (hH : y0 + H ≤ H') : Mv W H W' H' x0 y0 l (padI W H W' x0 y0 l (W' * H')) where
  len := hl
  len' := padI_len _ _ _ _ _ _ _
  is := fun x y => by
    rcases in_or_out W' H' x y with ⟨a, b, ha, hb, rfl, rfl⟩ | h
    · rw [isF_no ha hb, List.getD_eq_getElem?_getD]
      have hq := no_lt ha hb
      unfold padI
      rw [List.getElem?_map, List.getElem?_range hq, Option.map_some, Option.getD_some, plc_no ha]
    · rw [isF_out h, isF_out (by omega)]
theorem Mv.at_ (h : Mv W H W' H' x0 y0 l l') (hW : x0 + W ≤ W') (hH : y0 + H ≤ H') {x y : Nat} (hx : x < W) (hy : y < H) : l'.getD ((y + y0) * W' + (x + x0)) false = l.getD (y * W + x) false := by
  rw [← isF_no (H := H') (show x + x0 < W' by omega) (show y + y0 < H' by omega), h.is, ← isF_no hx hy]
  congr 1 <;> (push_cast; omega)
theorem Mv.out (h : Mv W H W' H' x0 y0 l l') {x y : Nat} (hx : x < W') (hy : y < H') (ho : x < x0 ∨ x0 + W ≤ x ∨ y < y0 ∨ y0 + H ≤ y) : l'.getD (y * W' + x) false = false := by
  rw [← isF_no hx hy, h.is, isF_out (by omega)]
theorem list_ext_getD {a b : List Bool} (h : a.length = b.length) (k : ∀ i, i < a.length → a.getD i false = b.getD i false) : a = b := by
  refine List.ext_getElem h fun i h1 h2 => ?_
  have := k i h1
  rw [List.getD_eq_getElem?_getD, List.getD_eq_getElem?_getD, List.getElem?_eq_getElem h1, List.getElem?_eq_getElem h2] at this
  exact this
theorem Mv.uniq {a b : List Bool} (h : Mv W H W' H' x0 y0 l a) (k : Mv W H W' H' x0 y0 l b) : a = b := by
  refine list_ext_getD (by rw [h.len', k.len']) fun i hi => ?_
  rw [h.len'] at hi
  obtain ⟨x, y, hx, hy, rfl⟩ := no_of hi
  rw [← isF_no hx hy, ← isF_no hx hy, h.is, k.is]
theorem Mv.back {a b : List Bool} (hW : x0 + W ≤ W') (hH : y0 + H ≤ H') (h : Mv W H W' H' x0 y0 a l') (k : Mv W H W' H' x0 y0 b l') : a = b := by
  refine list_ext_getD (by rw [h.len, k.len]) fun i hi => ?_
  rw [h.len] at hi
  obtain ⟨x, y, hx, hy, rfl⟩ := no_of hi
  rw [← h.at_ hW hH hx hy, ← k.at_ hW hH hx hy]
theorem nbI_no {W H x y : Nat} {l : List Bool} (hx : x < W) (d : Nat) : nbI W H l (y * W + x) d = isF W H l (x + dx d) (y + dy d) := by
  unfold nbI nbF
  rw [plc_no hx]
theorem Mv.nbF (h : Mv W H W' H' x0 y0 l l') (x y : Int) : nbF W' H' l' (x + x0) (y + y0) = nbF W H l x y := by
  funext d
  unfold Go.Proofs.Ytjelnbfnoliocaa.nbF
  rw [h.is]
  congr 1 <;> omega
theorem Mv.nbI (h : Mv W H W' H' x0 y0 l l') (hW : x0 + W ≤ W') {x y : Nat} (hx : x < W) : nbI W' H' l' ((y + y0) * W' + (x + x0)) = nbI W H l (y * W + x) := by
  funext d
  rw [nbI_no (show x + x0 < W' by omega), nbI_no hx, h.is]
  congr 1 <;> (push_cast; omega)
theorem Mv.set (h : Mv W H W' H' x0 y0 l l') (hW : x0 + W ≤ W') (hH : y0 + H ≤ H') {x y : Nat} (hx : x < W) (hy : y < H) : Mv W H W' H' x0 y0 (l.set (y * W + x) false) (l'.set ((y + y0) * W' + (x + x0)) false) where
  len := by rw [List.length_set]; exact h.len
  len' := by rw [List.length_set]; exact h.len'
  is := fun X Y => by
    rw [isF_set h.len' (show x + x0 < W' by omega) (show y + y0 < H' by omega), isF_set h.len hx hy, h.is]
    have e1 : decide (X = ((x + x0 : Nat) : Int)) = decide (X - x0 = x) := by rw [decide_eq_decide]; push_cast; omega
    have e2 : decide (Y = ((y + y0 : Nat) : Int)) = decide (Y - y0 = y) := by rw [decide_eq_decide]; push_cast; omega
    rw [e1, e2]
/-- Both traces pixel by pixel. -/
theorem raster {P : Nat → Nat → Prop} (hW : x0 + W ≤ W') (hH : y0 + H ≤ H') (h0 : P 0 0)
    (hin : ∀ x y, x < W → y < H → P (y * W + x) ((y + y0) * W' + (x + x0)) → P (y * W + x + 1) ((y + y0) * W' + (x + x0) + 1))
    (hout : ∀ i x y, x < W' → y < H' → (x < x0 ∨ x0 + W ≤ x ∨ y < y0 ∨ y0 + H ≤ y) → P i (y * W' + x) → P i (y * W' + x + 1)) : P (W * H) (W' * H') := by
  have rows : ∀ y, y ≤ H' → P (min (y - y0) H * W) (y * W') := by
    intro y
    induction y with
    | zero => intro _; simpa using h0
    | succ y ih =>
      intro hy
      have ih := ih (by omega)
      have cols : ∀ x, x ≤ W' → P (min (y - y0) H * W + (if y0 ≤ y ∧ y < y0 + H then min (x - x0) W else 0)) (y * W' + x) := by
        intro x
        induction x with
        | zero =>
          intro _
          have e : (if y0 ≤ y ∧ y < y0 + H then min (0 - x0) W else 0) = 0 := by split <;> omega
          rw [e]; exact ih
        | succ x ihx =>
          intro hx
          have ihx := ihx (by omega)
          by_cases hr : y0 ≤ y ∧ y < y0 + H
          · rw [if_pos hr] at ihx ⊢
            by_cases hc : x0 ≤ x ∧ x < x0 + W
            · obtain ⟨a, rfl⟩ : ∃ a, x = a + x0 := ⟨x - x0, by omega⟩
              obtain ⟨b, rfl⟩ : ∃ b, y = b + y0 := ⟨y - y0, by omega⟩
              have e1 : min (b + y0 - y0) H = b := by omega
              have e2 : min (a + x0 - x0) W = a := by omega
              have e3 : min (a + x0 + 1 - x0) W = a + 1 := by omega
              rw [e1, e2] at ihx
              rw [e1, e3]
              exact hin a b (by omega) (by omega) ihx
            · have e : min (x + 1 - x0) W = min (x - x0) W := by omega
              rw [e]
              exact hout _ x y (by omega) (by omega) (by omega) ihx
          · rw [if_neg hr] at ihx ⊢
            exact hout _ x y (by omega) (by omega) (by omega) ihx
      have h := cols W' (Nat.le_refl _)
      have e : min (y - y0) H * W + (if y0 ≤ y ∧ y < y0 + H then min (W' - x0) W else 0) = min (y + 1 - y0) H * W := by
        by_cases hr : y0 ≤ y ∧ y < y0 + H
        · rw [if_pos hr]
          have e1 : min (W' - x0) W = W := by omega
          have e2 : min (y + 1 - y0) H = min (y - y0) H + 1 := by omega
          rw [e1, e2, Nat.add_mul, Nat.one_mul]
        · rw [if_neg hr]
          have e2 : min (y + 1 - y0) H = min (y - y0) H := by omega
          rw [e2]; rfl
      rw [e] at h
      rw [Nat.add_mul, Nat.one_mul]
      exact h
  have h := rows H' (Nat.le_refl _)
  have e : min (H' - y0) H = H := by omega
  rw [e, Nat.mul_comm H W, Nat.mul_comm H' W'] at h
  exact h
theorem pass_mv (h : Mv W H W' H' x0 y0 l l') (hW : x0 + W ≤ W') (hH : y0 + H ≤ H') (d : Nat) : Mv W H W' H' x0 y0 (passF W H l d) (passF W' H' l' d) := by
  unfold passF
  rw [h.len, h.len']
  refine raster (P := fun i k => Mv W H W' H' x0 y0 (passN W H l d i) (passN W' H' l' d k)) hW hH h ?_ ?_
  · intro x y hx hy ih
    show Mv W H W' H' x0 y0 (takeIf _ _ _) (takeIf _ _ _)
    have e1 : wantB W' H' l' d ((y + y0) * W' + (x + x0)) = wantB W H l d (y * W + x) := by
      unfold wantB
      rw [h.at_ hW hH hx hy, h.nbI hW hx]
    have e2 : simpleB W' H' (passN W' H' l' d ((y + y0) * W' + (x + x0))) ((y + y0) * W' + (x + x0)) = simpleB W H (passN W H l d (y * W + x)) (y * W + x) := by
      unfold simpleB
      rw [ih.nbI hW hx]
    rw [e1, e2]
    unfold takeIf
    split
    · exact ih.set hW hH hx hy
    · exact ih
  · intro i x y hx hy ho ih
    show Mv W H W' H' x0 y0 _ (takeIf _ _ _)
    have e1 : wantB W' H' l' d (y * W' + x) = false := by
      unfold wantB
      rw [h.out hx hy ho]; rfl
    rw [e1]
    exact ih
theorem pass4_mv (h : Mv W H W' H' x0 y0 l l') (hW : x0 + W ≤ W') (hH : y0 + H ≤ H') : Mv W H W' H' x0 y0 (pass4 W H l) (pass4 W' H' l') :=
  pass_mv (pass_mv (pass_mv (pass_mv h hW hH 6) hW hH 2) hW hH 0) hW hH 4
theorem thinN_mv (hW : x0 + W ≤ W') (hH : y0 + H ≤ H') : ∀ (k : Nat) (l l' : List Bool), Mv W H W' H' x0 y0 l l' → Mv W H W' H' x0 y0 (thinN W H k l) (thinN W' H' k l')
  | 0, _, _, h => h
  | k + 1, l, l', h => by
    have hp := pass4_mv h hW hH
    rw [thinN, thinN]
    by_cases e : pass4 W H l = l
    · have e' : pass4 W' H' l' = l' := by rw [e] at hp; exact hp.uniq h
      rw [if_pos e, if_pos e']; exact h
    · have e' : ¬ pass4 W' H' l' = l' := fun e' => e (by rw [e'] at hp; exact hp.back hW hH h)
      rw [if_neg e, if_neg e']
      exact thinN_mv hW hH k _ _ hp
theorem thin_mv (h : Mv W H W' H' x0 y0 l l') (hW : x0 + W ≤ W') (hH : y0 + H ≤ H') : Mv W H W' H' x0 y0 (thinF W H l) (thinF W' H' l') := by
  unfold thinF
  have h1 := thinN_more W H (trueN l) l (Nat.le_refl _) (trueN l')
  have h2 := thinN_more W' H' (trueN l') l' (Nat.le_refl _) (trueN l)
  rw [← h1, ← h2, Nat.add_comm (trueN l')]
  exact thinN_mv hW hH _ _ _ h
/-- The minutiae, moved. -/
def shP (x0 y0 : Nat) (p : Int × Int) : Int × Int := (p.1 + x0, p.2 + y0)
theorem good_mv (h : Mv W H W' H' x0 y0 l l') (hW : x0 + W ≤ W') (hH : y0 + H ≤ H') {x y : Nat} (hx : x < W) (hy : y < H) : goodP W' H' l' 0 (shP x0 y0 ((x : Int), (y : Int))) = goodP W H l 0 ((x : Int), (y : Int)) := by
  unfold goodP shP
  simp only
  rw [h.nbF]
  have e : ∀ a b : Nat, ∀ A B : Int, (a : Int) < A → (b : Int) < B → (decide ((0 : Int) ≤ a) && (decide ((0 : Int) ≤ b) && (decide (0 ≤ A - 1 - a) && decide (0 ≤ B - 1 - b)))) = true := by
    intro a b A B h1 h2
    simp only [Bool.and_eq_true, decide_eq_true_eq]
    omega
  have e1 := e x y W H (by omega) (by omega)
  have e2 := e (x + x0) (y + y0) W' H' (by omega) (by omega)
  simp only [Int.natCast_add] at e2
  rw [e1, e2]
theorem min_mv (h : Mv W H W' H' x0 y0 l l') (hW : x0 + W ≤ W') (hH : y0 + H ≤ H') : minI W' H' l' 0 (W' * H') = (minI W H l 0 (W * H)).map (shP x0 y0) := by
  refine raster (P := fun i k => minI W' H' l' 0 k = (minI W H l 0 i).map (shP x0 y0)) hW hH rfl ?_ ?_
  · intro x y hx hy ih
    show minI W' H' l' 0 (_ + 1) = _
    rw [minI_succ, minI_succ, ih, h.at_ hW hH hx hy, plc_no (show x + x0 < W' by omega), plc_no hx]
    have e : (((x + x0 : Nat) : Int), ((y + y0 : Nat) : Int)) = shP x0 y0 ((x : Int), (y : Int)) := by unfold shP; push_cast; rfl
    rw [e, good_mv h hW hH hx hy, List.map_append]
    split <;> rfl
  · intro i x y hx hy ho ih
    show minI W' H' l' 0 (_ + 1) = _
    rw [minI_succ, ih, h.out hx hy ho]
    simp
theorem mnt_mv (h : Mv W H W' H' x0 y0 l l') (p : Int × Int) : mntE W' H' l' (shP x0 y0 p) = ((mntE W H l p).set 0 (.int .i64 (p.1 + x0))).set 1 (.int .i64 (p.2 + y0)) := by
  unfold mntE shP
  simp only
  rw [h.nbF]
  rfl
end
end Go.Proofs.Ytjelnbfnoliocaa
