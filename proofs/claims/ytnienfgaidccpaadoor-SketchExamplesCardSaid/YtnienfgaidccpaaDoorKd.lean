/- Sketch: encode, the search for an error, decode, of the program. No condition. -/
import Derived.Test.YtnienfgaidccpaaDoorKc
namespace Go.Proofs.YtnienfgaidccpaaDoor
open Go.RowKit Go.Shelf
attribute [local go_sem] Oper.semAt_some

theorem or_xor_shl (m f r : Nat) (h : r < 2 ^ f) : (m <<< f) ||| r = (m <<< f) ^^^ r := by
  apply Nat.eq_of_testBit_eq
  intro i
  rw [Nat.testBit_or, Nat.testBit_xor, Nat.testBit_shiftLeft]
  by_cases hi : f ≤ i
  · have : r.testBit i = false := Nat.testBit_lt_two_pow (Nat.lt_of_lt_of_le h (Nat.pow_le_pow_right (by decide) hi))
    rw [this]; simp
  · simp [hi]
/-- bits.OnesCount16 counts the bits. -/
theorem ones8 : ∀ n : Fin 256, Lib.onesCount n.val = cntN n.val 8 := by decide +kernel
theorem ones_cnt {x : Nat} (h : x < 2 ^ 16) : Lib.onesCount (x / 256) + Lib.onesCount (x % 256) = cnt x := by
  have h1 := ones8 ⟨x / 256, by omega⟩
  have h2 := ones8 ⟨x % 256, by omega⟩
  simp only at h1 h2
  rw [h1, h2]
  have hd : ∀ i, (x / 256).testBit i = x.testBit (8 + i) := fun i => by rw [show (256 : Nat) = 2 ^ 8 from rfl, Nat.testBit_div_two_pow, Nat.add_comm]
  have hm : ∀ i, i < 8 → (x % 256).testBit i = x.testBit i := fun i hi => by rw [show (256 : Nat) = 2 ^ 8 from rfl, Nat.testBit_mod_two_pow]; simp [hi]
  simp only [cnt, cntN, hd, hm 0 (by decide), hm 1 (by decide), hm 2 (by decide), hm 3 (by decide), hm 4 (by decide), hm 5 (by decide), hm 6 (by decide), hm 7 (by decide), Nat.reduceAdd]
  omega
set_option maxRecDepth 100000 in
theorem encode_any (c : Kd) (hc : c.ok) (m : Nat) (hm : m < 2 ^ c.k) (w : World) :
    Calls Tryd.prog 68 #[kdV c, .int .u16 (m : Nat)] w fun e w' => e = .returned (.int .u16 (c.code m : Nat)) ∧ Below w.heap.size w w' := by
  have hs := hc.sum
  have hsl := shl_lt hc hm
  have HR := Lib.hid (fun W => rest_any c hc (m <<< c.f) hsl W)
  have hrl : c.rest (m <<< c.f) < 2 ^ c.f := Kd.rest_lt hc hsl
  have hrl2 : c.rest (m <<< c.f) < 2 ^ 15 := Nat.lt_of_lt_of_le hrl (pow_f_le hc)
  have HC := Lib.hid (show c.code m = (m <<< c.f) ||| c.rest (m <<< c.f) by rw [or_xor_shl _ _ _ hrl]; rfl)
  have hsc := shl_cast m c.f
  generalize c.code m = y at *
  generalize m <<< c.f = z at *
  generalize c.rest z = r at *
  obtain ⟨s1, s2, s3, s4, s5, s6⟩ := hs
  have e3 : IntKind.i64.wrap (15 - (c.k : Int)) = c.f := by rw [IntWalk.i64_in _ (by omega)]; omega
  have b1 : 0 ≤ (c.f : Int) := by omega
  have b2 : (c.f : Int) ≤ 16 := by omega
  have e4 : IntKind.u16.wrap ((m : Int) * 2 ^ c.f) = z := by rw [hsc]; exact IntWalk.u16_in _ (by omega)
  have e5 : bits .or .u16 (z : Int) (r : Int) = ((z ||| r : Nat) : Int) := u16_or_nat _ _ (by omega) (by omega)
  have S0 := Lib.hid ((Own.start w).new 94 #[.int .u16 c.g, .int .i64 c.k, .int .i64 c.t])
  obtain ⟨t0, t1, t2, _⟩ := (S0.out.bx 0 rfl).c3
  clear hsc hm hrl
  unfold kdV at HR ⊢
  go_enter Tryd.func68, Tryd.ntmps68
  go_wp2_with fail
  refine (HR.out _).mono ?_
  rintro e w1 ⟨rfl, hb1⟩
  have S1 := Lib.hid (S0.out.ext hb1)
  clear hb1
  go_wp2_with fail
  go_ret
  exact ⟨by rw [HC.out]; rfl, S1.out.bel⟩
def findV (o : Option Nat) : Value := match o with
  | none => .tuple #[.int .u16 0, .bool false]
  | some e => .tuple #[.int .u16 (e : Nat), .bool true]
/-- What the closure find bears. -/
structure FEnv (w : World) (c : Kd) (s br bs bf : Nat) : Prop where
  r : w.cell? ⟨br, 0, none⟩ = some (.func (.func 59) #[kdV c] #[])
  s : w.cell? ⟨bs, 0, none⟩ = some (.int .u16 (s : Nat))
  f : w.cell? ⟨bf, 0, none⟩ = some (.func (.func 90) #[] #[.pointer (some ⟨br, 0, none⟩), .pointer (some ⟨bs, 0, none⟩), .pointer (some ⟨bf, 0, none⟩)])
  l : br < w.heap.size ∧ bs < w.heap.size ∧ bf < w.heap.size
theorem FEnv.below {w w' : World} {c : Kd} {s br bs bf : Nat} (h : FEnv w c s br bs bf) (k : Below w.heap.size w w') : FEnv w' c s br bs bf :=
  ⟨(k.cell (p := ⟨br, 0, none⟩) h.l.1).trans h.r, (k.cell (p := ⟨bs, 0, none⟩) h.l.2.1).trans h.s, (k.cell (p := ⟨bf, 0, none⟩) h.l.2.2).trans h.f, by have := k.size; have := h.l; omega⟩
theorem dfs_hit {r : Nat → Nat} {s e : Nat} (h : r e = s) (l fr : Nat) : dfs r s l fr e = some e := by
  cases l <;> simp [dfs, h]
theorem shl_one {i : Nat} (h : i < 15) : IntKind.u16.wrap ((2 : Int) ^ i) = ((1 <<< i : Nat) : Int) ∧ IntKind.u16.wrap (1 * (2 : Int) ^ i) = ((1 <<< i : Nat) : Int) ∧ 1 <<< i < 2 ^ 15 := by
  have h1 : 1 <<< i < 2 ^ 15 := by rw [Nat.shiftLeft_eq, Nat.one_mul]; exact Nat.pow_lt_pow_right (by decide) h
  have h2 : ((2 : Int) ^ i) = ((1 <<< i : Nat) : Int) := by rw [Nat.shiftLeft_eq, Nat.one_mul]; push_cast; rfl
  have h3 : IntKind.u16.wrap ((1 <<< i : Nat) : Int) = ((1 <<< i : Nat) : Int) := by
    generalize 1 <<< i = q at h1
    exact IntWalk.u16_in _ (by omega)
  exact ⟨by rw [h2, h3], by rw [Int.one_mul, h2, h3], h1⟩
/-- The tries of a level. -/
def lvl (c : Kd) (s l e : Nat) (i : Nat) : Option Nat := dfs c.rest s l (i + 1) (e ||| 1 <<< i)
set_option maxRecDepth 100000 in
set_option maxHeartbeats 4000000 in
theorem find_step (c : Kd) (hc : c.ok) (s : Nat) (br bs bf l fr e : Nat) (he : e < 2 ^ 15) (hfr : fr ≤ 15) (hl : l ≤ 3) (w : World) (hE : FEnv w c s br bs bf)
    (ih : ∀ l', l = l' + 1 → ∀ fr e, e < 2 ^ 15 → fr ≤ 15 → ∀ w : World, FEnv w c s br bs bf → Calls Tryd.prog 90 #[.int .u16 (e : Nat), .int .i64 (fr : Nat), .int .i64 (l' : Nat), .pointer (some ⟨br, 0, none⟩), .pointer (some ⟨bs, 0, none⟩), .pointer (some ⟨bf, 0, none⟩)] w fun x w' => x = .returned (findV (dfs c.rest s l' fr e)) ∧ Below w.heap.size w w') :
    Calls Tryd.prog 90 #[.int .u16 (e : Nat), .int .i64 (fr : Nat), .int .i64 (l : Nat), .pointer (some ⟨br, 0, none⟩), .pointer (some ⟨bs, 0, none⟩), .pointer (some ⟨bf, 0, none⟩)] w fun x w' => x = .returned (findV (dfs c.rest s l fr e)) ∧ Below w.heap.size w w' := by
  have HE := Lib.hid hE
  obtain ⟨er, es, ef, l1, l2, l3⟩ := hE
  have HR := Lib.hid (fun W => rest_any c hc e he W)
  by_cases hq : c.rest e = s
  · as_aux_lemma =>
    have HF := Lib.hid (dfs_hit hq l fr)
    generalize dfs c.rest s l fr e = o at *
    rw [hq] at HR
    clear hq ih
    go_enter Tryd.func90, Tryd.ntmps90
    go_wp2_with fail
    have fx0 := fun x : OwnOf w [] => x.out l1 er
    have fx1 := fun x : OwnOf w [] => x.out l2 es
    have hne : Nonempty (OwnOf w []) := ⟨⟨_, Own.start w⟩⟩
    refine wp_region_own (Own.start w) (by kernel_rfl) (by kernel_rfl) ?_
    iterate 2 (go_big_quiet_step (fail))
    go_big_quiet_step ((go_at_call 59; exact own_of (HR.out _)))
    iterate 2 (go_big_quiet_step (fail))
    refine wpQuiet_nil ?_
    rintro w2 ⟨z, hz⟩
    have S2 := Lib.hid (show Own w w2 [] by rw [hz]; exact z.own)
    clear hz z hne fx0 fx1
    go_wp2_with fail
    refine bodyPost_ret (v := .tuple #[.int .u16 (e : Nat), .bool true]) (by simp [results, Tryd.results90, go_sem]) rfl ⟨by rw [HF.out]; rfl, S2.out.bel⟩
  as_aux_lemma =>
  have HF0 := Lib.hid (show l = 0 → dfs c.rest s l fr e = none from fun h => by subst h; simp [dfs, hq])
  have HF1 := Lib.hid (show ∀ l', l = l' + 1 → tries (lvl c s l' e) fr (15 - fr) = dfs c.rest s l fr e from fun l' h => by subst h; rw [dfs, if_neg hq]; rfl)
  have HIH := Lib.hid ih
  have HLV := Lib.hid (show ∀ l' i, lvl c s l' e i = dfs c.rest s l' (i + 1) (e ||| 1 <<< i) from fun _ _ => rfl)
  generalize dfs c.rest s l fr e = o at *
  generalize c.rest e = r at *
  have hq2 : ¬ (r : Int) = (s : Int) := by omega
  clear ih
  go_enter Tryd.func90, Tryd.ntmps90
  go_wp2_with fail
  have fx0 := fun x : OwnOf w [] => x.out l1 er
  have fx1 := fun x : OwnOf w [] => x.out l2 es
  have hne : Nonempty (OwnOf w []) := ⟨⟨_, Own.start w⟩⟩
  refine wp_region_own (Own.start w) (by kernel_rfl) (by kernel_rfl) ?_
  iterate 2 (go_big_quiet_step (fail))
  go_big_quiet_step ((go_at_call 59; exact own_of (HR.out _)))
  iterate 2 (go_big_quiet_step (fail))
  refine wpQuiet_nil ?_
  rintro w2 ⟨z, hz⟩
  have S2 := Lib.hid (show Own w w2 [] by rw [hz]; exact z.own)
  clear hz z hne fx0 fx1
  go_wp2_with fail
  go_loopg [11] (15 - fr) (fun q u11 wr => ∃ i : Nat, fr ≤ i ∧ i ≤ 15 ∧ u11 = .int .i64 (i : Nat) ∧ Hid (i + q = 15 ∧ (∀ l', l = l' + 1 → tries (lvl c s l' e) i (15 - i) = o) ∧ Own w wr []))
  case atStart => exact ⟨fr, by omega, hfr, rfl, by omega, HF1.out, S2.out⟩
  case round =>
    obtain ⟨i, hi1, hi2, rfl, hI⟩ := hrel
    have I1 := Lib.hid hI.out.1
    have I2 := Lib.hid hI.out.2.1
    have I3 := Lib.hid hI.out.2.2
    clear hI S2
    by_cases hl0 : l = 0
    · as_aux_lemma =>
      have d1 : ¬ (0 : Int) < (l : Int) := by omega
      have HN := Lib.hid (HF0.out hl0)
      go_wp2_with fail
      refine bodyPost_ret (v := .tuple #[.int .u16 0, .bool false]) (by simp [results, Tryd.results90, go_sem]) rfl ⟨by rw [HN.out]; rfl, I3.out.bel⟩
    have d1 : (0 : Int) < (l : Int) := by omega
    obtain ⟨l', hl'⟩ : ∃ l', l = l' + 1 := ⟨l - 1, by omega⟩
    have J2 := Lib.hid (I2.out l' hl')
    by_cases h15 : i < 15
    case neg => as_aux_lemma =>
      have d2 : ¬ (i : Int) < 15 := by omega
      have HN := Lib.hid (show o = none by
        have h := J2.out
        have e0 : 15 - i = 0 := by omega
        rw [e0] at h
        exact h.symm)
      go_wp2_with fail
      refine bodyPost_ret (v := .tuple #[.int .u16 0, .bool false]) (by simp [results, Tryd.results90, go_sem]) rfl ⟨by rw [HN.out]; rfl, I3.out.bel⟩
    have d2 : (i : Int) < 15 := by omega
    obtain ⟨k1, k2, k3⟩ := shl_one h15
    have hE2 : e ||| 1 <<< i < 2 ^ 15 := Nat.or_lt_two_pow he k3
    have HL := Lib.hid (HLV.out l' i)
    have HT := Lib.hid (show tries (lvl c s l' e) i (15 - i) = match lvl c s l' e i with | some x => some x | none => tries (lvl c s l' e) (i + 1) (15 - (i + 1)) by
      have e0 : 15 - i = (15 - (i + 1)) + 1 := by omega
      rw [e0, tries]
      cases lvl c s l' e i <;> rfl)
    have HC := Lib.hid (fun W (h : FEnv W c s br bs bf) => (show Calls Tryd.prog 90 #[.int .u16 ((e ||| 1 <<< i : Nat) : Int), .int .i64 ((i : Int) + 1), .int .i64 (l' : Nat), .pointer (some ⟨br, 0, none⟩), .pointer (some ⟨bs, 0, none⟩), .pointer (some ⟨bf, 0, none⟩)] W fun x w' => x = .returned (findV (lvl c s l' e i)) ∧ Below W.heap.size W w' from HIH.out l' hl' (i + 1) (e ||| 1 <<< i) hE2 (by omega) W h))
    have k4 : bits .or .u16 (e : Int) ((1 <<< i : Nat) : Int) = ((e ||| 1 <<< i : Nat) : Int) := by
      generalize 1 <<< i = q at k3
      exact u16_or_nat _ _ (by omega) (by omega)
    generalize e ||| 1 <<< i = E at *
    generalize 1 <<< i = G at *
    have b1 : (i : Int) ≤ 16 := by omega
    have e5 : IntKind.i64.wrap ((i : Int) + 1) = (i : Int) + 1 := IntWalk.i64_in _ (by omega)
    have e6 : IntKind.i64.wrap ((l : Int) - 1) = (l' : Int) := by rw [IntWalk.i64_in _ (by omega)]; omega
    have HEW := Lib.hid (fun (x : OwnOf w []) => HE.out.below x.own.bel)
    rw [HT.out] at J2
    clear HL hE2 HLV HF1 HF0
    rcases hF : lvl c s l' e i with _ | v
    all_goals
      rw [hF] at HC J2
      simp only [findV] at HC
      simp only at J2
      clear hF HT
    · as_aux_lemma =>
      go_wp2_with fail
      have fx0 := fun x : OwnOf w [] => x.out l3 ef
      have hne : Nonempty (OwnOf w []) := ⟨⟨_, I3.out⟩⟩
      refine wp_region_own I3.out (by kernel_rfl) (by kernel_rfl) ?_
      iterate 9 (go_big_quiet_step (fail))
      go_big_quiet_step ((go_at_call 90; exact own_of (HC.out _ (HEW.out _))))
      iterate 5 (go_big_quiet_step (fail))
      refine wpQuiet_nil ?_
      rintro w3 ⟨z, hz⟩
      have S3 := Lib.hid (show Own w w3 [] by rw [hz]; exact z.own)
      clear hz z hne fx0
      go_wp2_with fail
      go_roundg (gk - 1)
      case measure => have := I1.out; omega
      case rel => exact ⟨i + 1, by omega, by omega, by go_num, by have := I1.out; omega, fun l2 h => (show l' = l2 by omega) ▸ J2.out, S3.out⟩
    · as_aux_lemma =>
      go_wp2_with fail
      have fx0 := fun x : OwnOf w [] => x.out l3 ef
      have hne : Nonempty (OwnOf w []) := ⟨⟨_, I3.out⟩⟩
      refine wp_region_own I3.out (by kernel_rfl) (by kernel_rfl) ?_
      iterate 9 (go_big_quiet_step (fail))
      go_big_quiet_step ((go_at_call 90; exact own_of (HC.out _ (HEW.out _))))
      iterate 5 (go_big_quiet_step (fail))
      refine wpQuiet_nil ?_
      rintro w3 ⟨z, hz⟩
      have S3 := Lib.hid (show Own w w3 [] by rw [hz]; exact z.own)
      clear hz z hne fx0
      go_wp2_with fail
      refine bodyPost_ret (v := .tuple #[.int .u16 (v : Nat), .bool true]) (by simp [results, Tryd.results90, go_sem]) rfl ⟨by rw [← J2.out]; rfl, S3.out.bel⟩
theorem find_any (c : Kd) (hc : c.ok) (s : Nat) (br bs bf : Nat) : ∀ (l : Nat), l ≤ 3 → ∀ (fr e : Nat), e < 2 ^ 15 → fr ≤ 15 → ∀ w : World, FEnv w c s br bs bf →
    Calls Tryd.prog 90 #[.int .u16 (e : Nat), .int .i64 (fr : Nat), .int .i64 (l : Nat), .pointer (some ⟨br, 0, none⟩), .pointer (some ⟨bs, 0, none⟩), .pointer (some ⟨bf, 0, none⟩)] w fun x w' => x = .returned (findV (dfs c.rest s l fr e)) ∧ Below w.heap.size w w' := by
  intro l
  induction l with
  | zero => exact fun _ fr e he hfr w hE => find_step c hc s br bs bf 0 fr e he hfr (by omega) w hE (fun _ h => by omega)
  | succ l ih => exact fun hl fr e he hfr w hE => find_step c hc s br bs bf (l + 1) fr e he hfr hl w hE (fun l' h => (show l = l' by omega) ▸ ih (by omega))
end Go.Proofs.YtnienfgaidccpaaDoor
