/- Ridge: noise within the margin changes no sure pixel. Plain. No condition. -/
import Derived.Test.YtjelnbfnoliocaaBl
import Derived.Test.YtjelnbfnoliocaaSn
namespace Go.Proofs.Ytjelnbfnoliocaa

/-- A value with a noise. -/
def clampI (v : Int) : Int := if (if v < 255 then v else 255) < 0 then 0 else (if v < 255 then v else 255)
def nz (m : Int) (ns : List Int) (i : Nat) (v : Int) : Int := clampI (v + (ns.getD i 0).tmod (m + 1))
def nzL (m : Int) (ns pix : List Int) (k : Nat) : List Int := (List.range k).map fun i => nz m ns i (pix.getD i 0)
theorem nzL_len (m : Int) (ns pix : List Int) (k : Nat) : (nzL m ns pix k).length = k := by simp [nzL]
theorem nzL_succ (m : Int) (ns pix : List Int) (k : Nat) : nzL m ns pix (k + 1) = nzL m ns pix k ++ [nz m ns k (pix.getD k 0)] := by
  simp [nzL, List.range_succ]
theorem nzL_get {m : Int} {ns pix : List Int} {k i : Nat} (h : i < k) : (nzL m ns pix k)[i]? = some (nz m ns i (pix.getD i 0)) := by
  simp [nzL, h]
theorem clamp_bd (v : Int) : 0 ≤ clampI v ∧ clampI v ≤ 255 := by unfold clampI; split <;> split at * <;> omega
theorem clamp_lo {v : Int} (h : v ≤ 0) : clampI v = 0 := by
  unfold clampI
  rw [if_pos (show v < 255 by omega)]
  split <;> omega
theorem clamp_mid {v : Int} (h : 0 < v) (k : v < 255) : clampI v = v := by unfold clampI; rw [if_pos k, if_neg (by omega)]
theorem clamp_hi {v : Int} (h : 255 ≤ v) : clampI v = 255 := by unfold clampI; rw [if_neg (by omega), if_neg (by omega)]
theorem tmod_bd {m x : Int} (hm : 0 ≤ m) : -m ≤ x.tmod (m + 1) ∧ x.tmod (m + 1) ≤ m := by
  have h1 := Int.lt_tmod_of_pos x (b := m + 1) (by omega)
  have h2 := Int.tmod_lt_of_pos x (b := m + 1) (by omega)
  omega
theorem nz_bd {m : Int} (hm : 0 ≤ m) (ns : List Int) (i : Nat) {v : Int} (h0 : 0 ≤ v) (h1 : v ≤ 255) : v - m ≤ nz m ns i v ∧ nz m ns i v ≤ v + m := by
  obtain ⟨a, b⟩ := tmod_bd (x := ns.getD i 0) hm
  unfold nz
  generalize (ns.getD i 0).tmod (m + 1) = t at a b
  unfold clampI
  split <;> split at * <;> omega
theorem nzL_u8 (m : Int) (ns pix : List Int) (k : Nat) : U8 (nzL m ns pix k) := by
  intro x hx
  obtain ⟨i, _, rfl⟩ := List.mem_map.1 hx
  exact clamp_bd _
/-- Where a pixel is sure, the noise changes nothing. -/
theorem sure_keeps {m : Int} (hm : 0 ≤ m) {pix dark light ns : List Int} (u : U8 pix) (hd : dark.length = pix.length) (hl : light.length = pix.length) {i : Nat} (hi : i < pix.length)
    {a b s : Bool} (ha : (neg (offs pix dark light))[i]? = some a) (hb : (neg (offs (nzL m ns pix pix.length) dark light))[i]? = some b) (hs : (sures m (offs pix dark light))[i]? = some s) (ht : s = true) : a = b := by
  have e1 := offs_get pix dark light i hi (by omega) (by omega)
  have hq : i < (nzL m ns pix pix.length).length := by rw [nzL_len]; exact hi
  have e2 := offs_get (nzL m ns pix pix.length) dark light i hq (by omega) (by omega)
  have hv : (nzL m ns pix pix.length)[i] = nz m ns i pix[i] := by
    have h := nzL_get (m := m) (ns := ns) (pix := pix) hi
    rw [List.getElem?_eq_getElem hq] at h
    injection h with h
    rw [h]
    congr 1
    rw [List.getD_eq_getElem?_getD, List.getElem?_eq_getElem hi]; rfl
  obtain ⟨u1, u2⟩ := u pix[i] (List.getElem_mem hi)
  have hn := nz_bd hm ns i u1 u2
  rw [hv] at e2
  generalize nz m ns i pix[i] = v2 at e2 hn
  generalize pix[i] = v at e1 hn
  generalize dark[i]'(by omega) = d at e1 e2
  generalize light[i]'(by omega) = g at e1 e2
  unfold neg at ha hb
  unfold sures at hs
  rw [List.getElem?_map, e1] at ha hs
  rw [List.getElem?_map, e2] at hb
  injection ha with ha
  injection hb with hb
  injection hs with hs
  subst ht
  unfold sure1 at hs
  simp only [Bool.or_eq_true, decide_eq_true_eq] at hs
  rw [← ha, ← hb]
  unfold off1 at *
  rw [decide_eq_decide]
  omega
/-- A greater margin: fewer are sure. -/
theorem sure_less {m k : Int} (h : m ≤ k) {l : List Int} {i : Nat} {a b : Bool} (ha : (sures k l)[i]? = some a) (hb : (sures m l)[i]? = some b) (ht : a = true) : b = true := by
  unfold sures at ha hb
  rw [List.getElem?_map] at ha hb
  cases hl : l[i]? with
  | none => rw [hl] at ha; cases ha
  | some v =>
    rw [hl] at ha hb
    injection ha with ha
    injection hb with hb
    rw [← hb]
    subst ht
    unfold sure1 at *
    simp only [Bool.or_eq_true, decide_eq_true_eq] at *
    omega
end Go.Proofs.Ytjelnbfnoliocaa
