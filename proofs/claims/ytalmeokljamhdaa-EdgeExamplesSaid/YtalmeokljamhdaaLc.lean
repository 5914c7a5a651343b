/- Changes: sets of persons, decisions, changes between two times, and the list, as the reference computes them. -/
import Derived.Test.YtalmeokljamhdaaLb
namespace Go.Proofs.Ytalmeokljamhdaa
open Go.RowKit

theorem ofInt_toNat (a : BitVec 64) : BitVec.ofInt IntKind.u64.bits (a.toNat : Int) = a := by
  show BitVec.ofInt 64 (a.toNat : Int) = a
  simp
theorem wrap_toNat (a : BitVec 64) : IntKind.u64.wrap (a.toNat : Int) = (a.toNat : Int) := by
  rw [IntKind.wrap_u64]
  have := a.isLt
  omega
theorem bits_and64 (a b : BitVec 64) : bits .and .u64 (a.toNat : Int) (b.toNat : Int) = ((a &&& b).toNat : Int) := by
  unfold bits; simp only [ofInt_toNat]; exact wrap_toNat _
theorem bits_or64 (a b : BitVec 64) : bits .or .u64 (a.toNat : Int) (b.toNat : Int) = ((a ||| b).toNat : Int) := by
  unfold bits; simp only [ofInt_toNat]; exact wrap_toNat _
theorem bits_xor64 (a b : BitVec 64) : bits .xor .u64 (a.toNat : Int) (b.toNat : Int) = ((a ^^^ b).toNat : Int) := by
  unfold bits; simp only [ofInt_toNat]; exact wrap_toNat _
theorem bits_andNot64 (a b : BitVec 64) : bits .andNot .u64 (a.toNat : Int) (b.toNat : Int) = ((a &&& ~~~b).toNat : Int) := by
  unfold bits; simp only [ofInt_toNat]; exact wrap_toNat _
def bit64 (p : Nat) : BitVec 64 := 1#64 <<< p
theorem bit64_toNat {p : Nat} (h : p ≤ 63) : (bit64 p).toNat = 2 ^ p := by
  unfold bit64
  rw [BitVec.toNat_shiftLeft, Nat.shiftLeft_eq]
  have h1 : 2 ^ p < 2 ^ 64 := Nat.pow_lt_pow_right (by decide) (by omega)
  simp
  simpa using h1
theorem wrap_bit64 {p : Nat} (h : p ≤ 63) : IntKind.u64.wrap (2 ^ p) = ((bit64 p).toNat : Int) := by
  rw [← wrap_toNat, bit64_toNat h]
  congr 1
theorem bit64_get (p i : Nat) (h : p ≤ 63) : (bit64 p).getLsbD i = decide (i = p) := by
  unfold bit64
  rw [BitVec.getLsbD_shiftLeft]
  by_cases hi : i = p
  · subst hi; simp; omega
  · simp [hi]
    intro _ h1
    have : i - p ≠ 0 := by omega
    simp [this]
theorem and_bit64 (s : BitVec 64) {p : Nat} (h : p ≤ 63) : (((s &&& bit64 p).toNat : Int) != 0) = s.getLsbD p := by
  cases hb : s.getLsbD p
  · have : s &&& bit64 p = 0#64 := by
      apply BitVec.eq_of_getLsbD_eq
      intro i hi
      rw [BitVec.getLsbD_and, bit64_get p i h]
      by_cases hip : i = p
      · subst hip; simp [hb]
      · simp [hip]
    rw [this]; simp
  · have : (s &&& bit64 p).toNat ≠ 0 := by
      intro h0
      have h1 : s &&& bit64 p = 0#64 := by apply BitVec.eq_of_toNat_eq; simpa using h0
      have h2 : (s &&& bit64 p).getLsbD p = false := by rw [h1]; simp
      rw [BitVec.getLsbD_and, bit64_get p p h, hb] at h2
      simp at h2
    rw [bne_iff_ne]
    omega
theorem shr_bit64 (s : BitVec 64) (p : Nat) : (((s.toNat : Int) / 2 ^ p).tmod 2 == 1) = s.getLsbD p := by
  have h1 : ((s.toNat : Int) / 2 ^ p) = ((s.toNat / 2 ^ p : Nat) : Int) := by simp
  have h2 : (((s.toNat / 2 ^ p : Nat) : Int)).tmod 2 = ((s.toNat / 2 ^ p % 2 : Nat) : Int) := rfl
  rw [h1, h2, ← BitVec.testBit_toNat, Nat.testBit_eq_decide_div_mod_eq, Bool.eq_iff_iff]
  simp
  omega

def saidF (s : BitVec 64) (p : Int) : Int := if s.getLsbD p.toNat then 2 else 1
set_option maxHeartbeats 400000 in
theorem said_any (s : BitVec 64) (p : Int) (w : World) (h1 : 0 ≤ p) (h2 : p ≤ 63) : Calls Try.prog 64 #[.int .u64 s.toNat, .int .i64 p] w fun e w' => e = .returned (.int .u8 (saidF s p)) ∧ w = w' := by
  have hb : Hid (bits .and .u64 (s.toNat : Int) (IntKind.u64.wrap (2 ^ p.toNat)) = ((s &&& bit64 p.toNat).toNat : Int)) := by
    unfold Hid; rw [wrap_bit64 (by omega), bits_and64]
  cases hg : s.getLsbD p.toNat
  · have h := and_bit64 s (p := p.toNat) (by omega)
    rw [hg, ← hb.out] at h
    have hf : Hid (saidF s p = 1) := by unfold Hid saidF; rw [hg]; rfl
    go_enter Try.func64, Try.ntmps64
    go_wp2
    go_ret
    exact ⟨by rw [hf.out]; rfl, rfl⟩
  · have h := and_bit64 s (p := p.toNat) (by omega)
    rw [hg, ← hb.out] at h
    have hf : Hid (saidF s p = 2) := by unfold Hid saidF; rw [hg]; rfl
    go_enter Try.func64, Try.ntmps64
    go_wp2
    go_ret
    exact ⟨by rw [hf.out]; rfl, rfl⟩
set_option maxHeartbeats 400000 in
theorem refSaid_any (s : BitVec 64) (p : Int) (w : World) (h1 : 0 ≤ p) (h2 : p ≤ 63) : Calls Try.prog 66 #[.int .u64 s.toNat, .int .i64 p] w fun e w' => e = .returned (.int .u8 (saidF s p)) ∧ w = w' := by
  have h := shr_bit64 s p.toNat
  cases hg : s.getLsbD p.toNat
  · rw [hg] at h
    have hf : Hid (saidF s p = 1) := by unfold Hid saidF; rw [hg]; rfl
    go_enter Try.func66, Try.ntmps66
    go_wp2
    go_ret
    exact ⟨by rw [hf.out]; rfl, rfl⟩
  · rw [hg] at h
    have hf : Hid (saidF s p = 2) := by unfold Hid saidF; rw [hg]; rfl
    go_enter Try.func66, Try.ntmps66
    go_wp2
    go_ret
    exact ⟨by rw [hf.out]; rfl, rfl⟩

def bitC (c : Chg) : BitVec 64 := bit64 c.person.toNat
def stepC (s : BitVec 64) (c : Chg) : BitVec 64 := if c.on then s ||| bitC c else s &&& ~~~bitC c
def aftF (s : BitVec 64) (l : List Chg) : BitVec 64 := l.foldl stepC s
theorem aftF_snoc (s : BitVec 64) (l : List Chg) (c : Chg) : aftF s (l ++ [c]) = stepC (aftF s l) c := by simp [aftF]
theorem take_snocC (l : List Chg) {k : Nat} (hk : k < l.length) : l.take (k + 1) = l.take k ++ [l[k]] := List.take_succ_eq_append_getElem hk

set_option maxHeartbeats 1000000 in
theorem refAfter_any (s : BitVec 64) (A : Option Addr) (l : List Chg) (n c : Nat) (w : World) (hr : Rd w A (flat cenc l)) (hn : n = l.length) (hl : n ≤ 1000) (hok : ∀ c ∈ l, 0 ≤ c.person ∧ c.person ≤ 63) :
    Calls Try.prog 79 #[.int .u64 s.toNat, .slice A n c] w fun e w' => e = .returned (.int .u64 (aftF s l).toNat) ∧ w = w' := by
  have HR := Lib.hid hr
  have HN := Lib.hid hn
  have HK := Lib.hid hok
  clear hr hn hok
  go_enter Try.func79, Try.ntmps79
  go_wp2
  go_loop [0, 5] (fun u0 u5 => ∃ (k : Nat), k ≤ n ∧ u5 = .int .i64 k ∧ u0 = .int .u64 (aftF s (l.take k)).toNat) (fun _ u5 => n - (intOf u5).toNat)
  case atStart => exact ⟨0, Nat.zero_le _, rfl, rfl⟩
  case round =>
    obtain ⟨k, hk, rfl, rfl⟩ := hrel
    by_cases hlt : k < n
    · have hlt' : k < l.length := by rw [← HN.out]; exact hlt
      obtain ⟨b, off, rfl, hbs, hc0, hc1, hc2⟩ := chg_at HR.out (Below.refl _ _) hlt'
      have hp := HK.out l[k] (List.getElem_mem hlt')
      have HT := Lib.hid (take_snocC l hlt')
      generalize l[k] = g at hc0 hc1 hc2 HT hp
      rcases g with ⟨gt, gp, go⟩
      simp only at hc0 hc1 hc2 hp
      have HS := Lib.hid (aftF_snoc s (l.take k) ⟨gt, gp, go⟩)
      generalize aftF s (l.take k) = S at HS ⊢
      cases go
      all_goals
        go_wp2
        go_round
        case rel =>
          refine ⟨k + 1, by omega, by go_num, ?_⟩
          rw [HT.out, HS.out]
          simp only [stepC, bitC, if_true, if_false, Bool.false_eq_true]
          first | rw [← bits_or64, ← wrap_bit64 (by omega)] | rw [← bits_andNot64, ← wrap_bit64 (by omega)]
        case measure => simp [intOf]; omega
    · go_wp2
      go_ret
      exact ⟨by rw [List.take_of_length_le (by rw [← HN.out]; omega)]; rfl, rfl⟩

def betF (l : List Chg) (a b : Int) : List Chg := l.filter fun c => decide (a < c.time) && decide (c.time ≤ b)
theorem betF_snoc (l : List Chg) (a b : Int) (c : Chg) : betF (l ++ [c]) a b = betF l a b ++ if a < c.time ∧ c.time ≤ b then [c] else [] := by
  unfold betF
  rw [List.filter_append, List.filter_cons, List.filter_nil]
  by_cases h : a < c.time ∧ c.time ≤ b
  · simp [h]
  · rw [if_neg h, if_neg (by simpa using h)]
theorem betF_len (l : List Chg) (a b : Int) : (betF l a b).length ≤ l.length := List.length_filter_le _ _
def RowC (L : List Chg) (w : World) (e : Ending) (w' : World) : Prop :=
  ∃ A c, e = .returned (.slice A L.length c) ∧ w'.ownsRow w.heap.size 62 3 (.slice A L.length c) L.length (flat cenc L) ∧ Below w.heap.size w w'
theorem info62 : (Try.prog.info? 62).map (fun i => (i.zero, i.size, i.bytes)) = some (some (.agg #[.int .i64 0, .int .i64 0, .bool false]), 3, 24) := by kernel_rfl
theorem rd_newC (w : World) (cs : Array Value) (t : TypeId) (n : Nat) (hn : n = w.heap.size) : Rd (w.alloc (.cells cs t)) (some ⟨n, 0, none⟩) cs.toList := by
  subst hn
  exact .inr ⟨_, 0, rfl, by simp, fun j u hu => by rw [Nat.zero_add, World.cell?_alloc_new]; simpa using hu⟩

set_option maxRecDepth 100000 in
set_option maxHeartbeats 2000000 in
theorem refBetween_any (A : Option Addr) (l : List Chg) (n c : Nat) (a z : Int) (w : World) (hr : Rd w A (flat cenc l)) (hn : n = l.length) (hl : n ≤ 1000) :
    Calls Try.prog 68 #[.slice A n c, .int .i64 a, .int .i64 z] w (RowC (betF l a z) w) := by
  have HR := Lib.hid hr
  have HN := Lib.hid hn
  clear hr hn
  obtain ⟨i0, hi0, hz0, hz1, hz2⟩ := info_parts info62
  have HI := Lib.hid hi0
  have HZ0 := Lib.hid hz0
  have HZ1 := Lib.hid hz1
  have HZ2 := Lib.hid hz2
  clear hi0 hz0 hz1 hz2
  go_enter Try.func68, Try.ntmps68
  go_wp2
  go_loopw [7, 8] (fun u7 u8 wr => ∃ (k m c1 : Nat) (A1 : Option Addr), k ≤ n ∧ m ≤ k ∧ u7 = .slice A1 m c1 ∧ u8 = .int .i64 k ∧ Hid (m = (betF (l.take k) a z).length) ∧ Hid (wr.ownsRow w.heap.size 62 3 (.slice A1 m c1) m (flat cenc (betF (l.take k) a z))) ∧ Below w.heap.size w wr) (fun _ u8 _ => n - (intOf u8).toNat)
  case atStart => exact ⟨0, 0, 0, none, Nat.zero_le _, Nat.le_refl _, rfl, rfl, rfl, World.ownsRow_nil _ _ _ _, Below.refl _ _⟩
  case round =>
    obtain ⟨k, m, c1, A1, hk, hm, rfl, rfl, hml, ho, hb⟩ := hrel
    by_cases hlt : k < n
    · have hlt' : k < l.length := by rw [← HN.out]; exact hlt
      obtain ⟨b, off, rfl, hbs, hc0, hc1, hc2⟩ := chg_at HR.out hb hlt'
      have hs := Lib.hid (betF_snoc (l.take k) a z l[k])
      have HT := Lib.hid (take_snocC l hlt')
      generalize l[k] = g at hc0 hc1 hc2 HT hs
      rcases g with ⟨gt, gp, go⟩
      simp only at hc0 hc1 hc2
      by_cases hin : a < gt ∧ gt ≤ z
      · have hin1 := hin.1
        have hin2 := hin.2
        have hnew : Hid (betF (l.take (k + 1)) a z = betF (l.take k) a z ++ [⟨gt, gp, go⟩]) := by
          unfold Hid; rw [HT.out, hs.out, if_pos hin]
        clear hin
        go_wp2_with (at_builtin; refine wpList_app_own _ rfl (.tmp 31) (.tmp 36) _ rfl w.heap.size 62 i0 _ 3 24 Try.underlying44 HI.out HZ0.out HZ1.out HZ2.out rfl (by omega) (.slice A1 m c1) m (flat cenc (betF (l.take k) a z)) rfl _ 1 1 (cenc ⟨gt, gp, go⟩) rfl (m + 1) (flat cenc (betF (l.take (k + 1)) a z)) ?_ rfl ?h0 ?h1 ?h3 rfl ?h4 ?h5 ?h6 ?h7; intro A4 c4 w4 hown4 hb4 _ _; have HO4 := Lib.hid hown4; have HB4 := Lib.hid hb4; clear hown4 hb4)
        case h0 => rw [hnew.out, flat_append, flat_cons, flat_nil, List.append_nil]
        case h1 => exact own_ext ho.out (below_alloc _ _)
        case h3 => exact rd_newC _ _ _ _ rfl
        case h4 => intro u hu; exact cenc_one [⟨gt, gp, go⟩] u (by simpa [flat] using hu)
        case h5 => simp only [maxLen]; omega
        case h6 => omega
        case h7 => have := hb.size; first | omega | (simp only [World.size_alloc]; omega)
        go_roundw
        case rel => exact ⟨k + 1, m + 1, c4, A4, by omega, by omega, rfl, by go_num, (by unfold Hid; rw [hnew.out, List.length_append, ← hml.out]; rfl), HO4.out, (hb.alloc hb.size _).trans HB4.out⟩
        case measure => simp [intOf]; omega
      · have hnew : Hid (betF (l.take (k + 1)) a z = betF (l.take k) a z) := by
          unfold Hid; rw [HT.out, hs.out, if_neg hin, List.append_nil]
        have hcs : gt ≤ a ∨ (a < gt ∧ z < gt) := by omega
        clear hin
        rcases hcs with h1 | ⟨h1, h2⟩
        all_goals
          go_wp2
          go_roundw
          case rel => exact ⟨k + 1, m, c1, A1, by omega, by omega, rfl, by go_num, (by unfold Hid; rw [hnew.out, ← hml.out]), (by unfold Hid; rw [hnew.out]; exact ho.out), hb⟩
          case measure => simp [intOf]; omega
    · have hfin : Hid (l.take k = l) := List.take_of_length_le (by rw [← HN.out]; omega)
      rw [hfin.out] at hml ho
      go_wp2
      go_ret
      have hm' := hml.out
      subst hm'
      exact ⟨A1, c1, rfl, ho.out, hb⟩
end Go.Proofs.Ytalmeokljamhdaa
