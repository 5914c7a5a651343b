/- Sketch: changed. No condition. -/
import Derived.Test.YtnienfgaidccpaaDoorMg
namespace Go.Proofs.YtnienfgaidccpaaDoor
open Go.RowKit Go.Shelf
attribute [local go_sem] Oper.semAt_some

/-- A slice of bytes: its address, its bytes, its length, its capacity. -/
abbrev Bys := Option Addr × List Nat × Nat × Nat
def byV (b : Bys) : Value := .slice b.1 b.2.2.1 b.2.2.2
def BysOk (w : World) (b : Bys) : Prop := b.2.2.1 = b.2.1.length ∧ Rd w b.1 (u8s b.2.1)
def chW (ch : List Bys) (j x : Nat) : Nat := match ch[j]? with
  | some b => flipF x b.2.1
  | none => x
def chN (t : List Nat) (ch : List Bys) (j : Nat) : Nat := cnt (chW ch j (t.getD j 0) ^^^ t.getD j 0)
def chL (t : List Nat) (ch : List Bys) (i : Nat) : List Nat := (List.range i).map fun j => chW ch j (t.getD j 0)
def mostN (t : List Nat) (ch : List Bys) : Nat → Nat
  | 0 => 0
  | i + 1 => max (mostN t ch i) (chN t ch i)
def sumN (t : List Nat) (ch : List Bys) : Nat → Nat
  | 0 => 0
  | i + 1 => sumN t ch i + chN t ch i
theorem chL_len (t : List Nat) (ch : List Bys) (i : Nat) : (chL t ch i).length = i := by simp [chL]
theorem chL_snoc (t : List Nat) (ch : List Bys) (i : Nat) : chL t ch (i + 1) = chL t ch i ++ [chW ch i (t.getD i 0)] := by
  unfold chL
  rw [List.range_succ, List.map_append]
  rfl
theorem chN_le (t : List Nat) (ch : List Bys) (j : Nat) : chN t ch j ≤ 16 := cnt_le16 _
theorem mostN_le (t : List Nat) (ch : List Bys) : ∀ i, mostN t ch i ≤ 16
  | 0 => by simp [mostN]
  | i + 1 => by simp only [mostN]; have := mostN_le t ch i; have := chN_le t ch i; omega
theorem sumN_le (t : List Nat) (ch : List Bys) : ∀ i, sumN t ch i ≤ 16 * i
  | 0 => by simp [sumN]
  | i + 1 => by simp only [sumN]; have := sumN_le t ch i; have := chN_le t ch i; omega
theorem chW_lt {ch : List Bys} {j x : Nat} (h : x < 2 ^ 15) : chW ch j x < 2 ^ 15 := by
  unfold chW
  split
  · exact flipF_lt15 _ h
  · exact h
theorem cnt_zero : cnt 0 = 0 := by decide
theorem chW_none {ch : List Bys} {j : Nat} (x : Nat) (h : ¬ j < ch.length) : chW ch j x = x := by
  unfold chW
  rw [List.getElem?_eq_none (by omega)]
theorem chW_some {ch : List Bys} {j : Nat} (x : Nat) (h : j < ch.length) : chW ch j x = flipF x ch[j].2.1 := by
  unfold chW
  rw [List.getElem?_eq_getElem h]
set_option maxRecDepth 100000 in
set_option maxHeartbeats 4000000 in
theorem changed_any (t : List Nat) (ch : List Bys) (A1 A2 : Option Addr) (n1 n2 c1 c2 : Nat) (w : World) (r1 : Rd w A1 (u16s t)) (r2 : Rd w A2 (ch.map byV)) (e1 : n1 = t.length) (e2 : n2 = ch.length) (ht : ∀ x ∈ t, x < 2 ^ 15)
    (hch : ∀ b ∈ ch, BysOk w b ∧ b.2.2.1 ≤ 20) (h4 : n1 ≤ 4) :
    Calls Tryd.prog 50 #[.slice A1 n1 c1, .slice A2 n2 c2] w fun e w' => ∃ A c, e = .returned (.tuple #[.slice A n1 c, .int .i64 (mostN t ch n1 : Nat), .int .i64 (sumN t ch n1 : Nat)]) ∧ Own w w' [row 41 1 (.slice A n1 c) n1 (u16s (chL t ch n1))] := by
  have HR1 := Lib.hid (fun W (hb : Below w.heap.size w W) => r1.below hb)
  have HR2 := Lib.hid (fun W (hb : Below w.heap.size w W) => r2.below hb)
  have HN := Lib.hid (And.intro e1 e2)
  have HT := Lib.hid ht
  have HCH := Lib.hid hch
  have S0 := Lib.hid (((Own.start w).nil 41 1).cast (qs := [row 41 1 (.slice none 0 0) 0 (u16s (chL t ch 0))]) (by simp [u16s, chL]))
  clear r1 r2 e1 e2 ht hch
  go_enter Tryd.func50, Tryd.ntmps50
  go_wp2_with fail
  go_loopg [7, 8, 9, 15] n1 (fun q u7 u8 u9 u15 wr => ∃ (i : Nat) (A9 : Option Addr) (c9 mo su : Nat), i ≤ n1 ∧ mo ≤ 16 ∧ su ≤ 16 * i ∧ u7 = .slice A9 i c9 ∧ u8 = .int .i64 (mo : Nat) ∧ u9 = .int .i64 (su : Nat) ∧ u15 = .int .i64 (i : Nat) ∧ Hid (i + q = n1 ∧ mo = mostN t ch i ∧ su = sumN t ch i ∧ Own w wr [row 41 1 (.slice A9 i c9) i (u16s (chL t ch i))]))
  case atStart => exact ⟨0, none, 0, 0, 0, by omega, by omega, by omega, rfl, rfl, rfl, rfl, by omega, rfl, rfl, S0.out⟩
  case round =>
    obtain ⟨i, A9, c9, mo, su, hi, hmo, hsu, rfl, rfl, rfl, rfl, hI⟩ := hrel
    have I1 := Lib.hid hI.out.1
    have I2 := Lib.hid hI.out.2.1
    have I3 := Lib.hid hI.out.2.2.1
    have I4 := Lib.hid hI.out.2.2.2
    clear hI S0
    by_cases hlt : i < n1
    case neg => as_aux_lemma =>
      have HI := Lib.hid (show i = n1 by omega)
      have hni : ¬ (i : Int) < (n1 : Int) := by omega
      go_wp2_with fail
      go_ret3
      have hin := HI.out
      subst hin
      exact ⟨A9, c9, by rw [I2.out, I3.out]; rfl, I4.out⟩
    have hil : i < t.length := by rw [← HN.out.1]; exact hlt
    have hix : (i : Int) < (n1 : Int) := by omega
    obtain ⟨b0, off0, rfl, k0, l0⟩ := (HR1.out _ I4.out.bel).u16 hil
    have hx15 := HT.out t[i] (List.getElem_mem hil)
    have HG := Lib.hid (show t.getD i 0 = t[i] by simp [List.getD, List.getElem?_eq_getElem hil])
    have HC1 := Lib.hid (show chL t ch (i + 1) = chL t ch i ++ [chW ch i t[i]] by rw [chL_snoc, HG.out])
    have HD := Lib.hid (show chN t ch i = cnt (chW ch i t[i] ^^^ t[i]) by unfold chN; rw [HG.out])
    have HM := Lib.hid (show mostN t ch (i + 1) = max mo (chN t ch i) by rw [I2.out]; rfl)
    have HSU := Lib.hid (show sumN t ch (i + 1) = su + chN t ch i by rw [I3.out]; rfl)
    have hd16 := chN_le t ch i
    have HY := Lib.hid (chW_lt (ch := ch) (j := i) hx15)
    by_cases hic : i < n2
    case pos =>
      have hicl : i < ch.length := by rw [← HN.out.2]; exact hic
      have hicI : (i : Int) < (n2 : Int) := by omega
      have hok := HCH.out ch[i] (List.getElem_mem hicl)
      have HW := Lib.hid (chW_some t[i] hicl)
      obtain ⟨b1, off1, rfl, l1, k1⟩ := (HR2.out _ I4.out.bel).at_ (show (ch.map byV)[i]? = some (byV ch[i]) by simp [hicl])
      replace k1 := k1 i (byV ch[i]) (by simp [hicl])
      obtain ⟨Ab, lb, nb, cb, hb⟩ : ∃ Ab lb nb cb, ch[i] = (Ab, lb, nb, cb) := ⟨_, _, _, _, rfl⟩
      rw [hb] at hok HW k1
      obtain ⟨⟨o1, o2⟩, o3⟩ := hok
      dsimp only at o1 o2 o3
      have KF := Lib.hid (fun W (h : Below w.heap.size w W) => flips_any t[i] lb Ab nb cb W (by omega) (o2.below h) o1 (by omega))
      have k1 : wr.cell? ⟨b1, off1 + i, none⟩ = some (.slice Ab nb cb) := k1
      have HW2 := Lib.hid (show flipF t[i] lb = chW ch i t[i] from HW.out.symm)
      rw [HW2.out] at KF
      rw [← HD.out] at KF
      generalize chN t ch i = d at *
      generalize chW ch i t[i] = y at *
      generalize t[i] = x at *
      have hy := HY.out
      clear hb HW HW2 o1 o2 o3
      by_cases hmd : mo < d
      · as_aux_lemma =>
        have HMX := Lib.hid (show mostN t ch (i + 1) = d by rw [HM.out]; omega)
        have hmI : (mo : Int) < (d : Int) := by omega
        have e9 : IntKind.i64.wrap ((su : Int) + (d : Int)) = ((su + d : Nat) : Int) := by rw [IntWalk.i64_in _ (by omega)]; omega
        go_wp2_with fail
        refine (KF.out _ I4.out.bel).mono ?_
        rintro e w5 ⟨rfl, rfl⟩
        go_wp2_with (at_builtin; refine wpList_appP rfl (.tmp 33) (.tmp 35) 22 rfl st22 0 (I4.out.ext (below_alloc wr (.cells #[.int .u16 (y : Nat)] 41))) rfl rfl rfl (i + 1) (u16s (chL t ch (i + 1))) ?_ [.int .u16 (y : Nat)] rfl (by rw [HC1.out]; exact u16s_app _ _) (Rd.new _ #[.int .u16 (y : Nat)] 41) rfl (by simp [Value.oneCell']) (by unfold maxLen; omega) (by omega); intro A8 c8 w8 hO8; have HO8 := Lib.hid hO8; clear hO8)
        go_roundg (gk - 1)
        case measure => have := I1.out; omega
        case rel => exact ⟨i + 1, A8, c8, d, su + d, by omega, by omega, by omega, rfl, by rw [show max (mo : Int) (d : Int) = ((d : Nat) : Int) by omega], by go_num, by go_num, by have := I1.out; omega, HMX.out.symm, HSU.out.symm, HO8.out⟩
      · as_aux_lemma =>
        have HMX := Lib.hid (show mostN t ch (i + 1) = mo by rw [HM.out]; omega)
        have hmI : ¬ (mo : Int) < (d : Int) := by omega
        have e9 : IntKind.i64.wrap ((su : Int) + (d : Int)) = ((su + d : Nat) : Int) := by rw [IntWalk.i64_in _ (by omega)]; omega
        go_wp2_with fail
        refine (KF.out _ I4.out.bel).mono ?_
        rintro e w5 ⟨rfl, rfl⟩
        go_wp2_with (at_builtin; refine wpList_appP rfl (.tmp 33) (.tmp 35) 22 rfl st22 0 (I4.out.ext (below_alloc wr (.cells #[.int .u16 (y : Nat)] 41))) rfl rfl rfl (i + 1) (u16s (chL t ch (i + 1))) ?_ [.int .u16 (y : Nat)] rfl (by rw [HC1.out]; exact u16s_app _ _) (Rd.new _ #[.int .u16 (y : Nat)] 41) rfl (by simp [Value.oneCell']) (by unfold maxLen; omega) (by omega); intro A8 c8 w8 hO8; have HO8 := Lib.hid hO8; clear hO8)
        go_roundg (gk - 1)
        case measure => have := I1.out; omega
        case rel => exact ⟨i + 1, A8, c8, mo, su + d, by omega, by omega, by omega, rfl, by rw [show max (mo : Int) (d : Int) = ((mo : Nat) : Int) by omega], by go_num, by go_num, by have := I1.out; omega, HMX.out.symm, HSU.out.symm, HO8.out⟩
    have hicI : ¬ (i : Int) < (n2 : Int) := by omega
    have HW := Lib.hid (chW_none t[i] (show ¬ i < ch.length by rw [← HN.out.2]; exact hic))
    have HD0 := Lib.hid (show chN t ch i = 0 by rw [HD.out, HW.out, xor_self, cnt_zero])
    rw [HW.out] at HC1
    rw [HD0.out] at HM HSU
    generalize ht : t[i] = y at *
    have HMX := Lib.hid (show mostN t ch (i + 1) = mo by rw [HM.out]; omega)
    have hmI : ¬ (mo : Int) < 0 := by omega
    as_aux_lemma =>
    go_wp2_with (at_builtin; refine wpList_appP rfl (.tmp 33) (.tmp 35) 22 rfl st22 0 (I4.out.ext (below_alloc wr (.cells #[.int .u16 (y : Nat)] 41))) rfl rfl rfl (i + 1) (u16s (chL t ch (i + 1))) ?_ [.int .u16 (y : Nat)] rfl (by rw [HC1.out]; exact u16s_app _ _) (Rd.new _ #[.int .u16 (y : Nat)] 41) rfl (by simp [Value.oneCell']) (by unfold maxLen; omega) (by omega); intro A8 c8 w8 hO8; have HO8 := Lib.hid hO8; clear hO8)
    go_roundg (gk - 1)
    case measure => have := I1.out; omega
    case rel => exact ⟨i + 1, A8, c8, mo, su, by omega, by omega, by omega, rfl, by go_num, by go_num, by go_num, by have := I1.out; omega, HMX.out.symm, HSU.out.symm, HO8.out⟩
end Go.Proofs.YtnienfgaidccpaaDoor
