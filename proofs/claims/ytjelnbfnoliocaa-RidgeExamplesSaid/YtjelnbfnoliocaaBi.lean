/- Ridge: Sure and Quality of the program. No condition. -/
import Derived.Test.YtjelnbfnoliocaaBf
namespace Go.Proofs.Ytjelnbfnoliocaa
open Go.RowKit

def sure1 (m v : Int) : Bool := decide (2 * m < v) || decide (v < -(2 * m))
def sures (m : Int) (l : List Int) : List Bool := l.map (sure1 m)
theorem sures_len (m : Int) (l : List Int) : (sures m l).length = l.length := by simp [sures]
theorem sures_get {m : Int} {l : List Int} {k : Nat} (h : k < l.length) : (sures m l)[k]? = some (sure1 m l[k]) := by simp [sures, h]
theorem offs_bd : ∀ (p d l : List Int), U8 p → U8 d → U8 l → ∀ x ∈ offs p d l, -510 ≤ x ∧ x ≤ 510 := by
  intro p
  induction p with
  | nil => intro d l _ _ _ x hx; simp [offs] at hx
  | cons v p ih =>
    intro d l h0 h1 h2 x hx
    cases d with
    | nil => simp [offs] at hx
    | cons y d => cases l with
      | nil => simp [offs] at hx
      | cons z l =>
        simp only [offs, List.mem_cons] at hx
        rcases hx with rfl | hx
        · have a := h0 v (by simp)
          have b := h1 y (by simp)
          have c := h2 z (by simp)
          unfold off1
          omega
        · exact ih d l (fun x hx => h0 x (by simp [hx])) (fun x hx => h1 x (by simp [hx])) (fun x hx => h2 x (by simp [hx])) x hx
/-- The error of Sure, and which pixels are sure. -/
def sureE (s0 m : Int) : Int := if s0 = 0 then (if inB 0 100 m then 0 else 2) else s0
def sureL (s0 m : Int) (p d l : List Int) : List Bool := if sureE s0 m = 0 then sures m (offs p d l) else []
def SurePost (l : List Bool) (e0 : Int) (w : World) (e : Ending) (w' : World) : Prop :=
  ∃ A c, e = .returned (.tuple #[.slice A l.length c, .int .i64 e0]) ∧ Ow w' w.heap.size A (bools l) ∧ Below w.heap.size w w'
theorem max_sure (m v : Int) : (if v < -v then decide (2 * m < -v) else decide (2 * m < v)) = sure1 m v ∨ m < 0 := by
  by_cases hm : m < 0
  · exact .inr hm
  · left
    unfold sure1
    split <;> rw [Bool.eq_iff_iff] <;> simp <;> omega
set_option maxRecDepth 100000 in
set_option maxHeartbeats 1000000 in
theorem sure_any (W H W' H' m : Int) (P A A' : Option Addr) (pix dark light : List Int) (np cp n c n' c' : Nat) (w : World) (hp : Rd w P (u8s pix)) (hr : Rd w A (u8s dark)) (hr' : Rd w A' (u8s light))
    (hnp : np = pix.length) (hn : n = dark.length) (hn' : n' = light.length) (u0 : U8 pix) (u1 : U8 dark) (u2 : U8 light) (s0 : Int) (hs : seenF W H np W' H' dark light = s0) :
    Calls Try.prog 23 #[.agg #[.int .i64 W, .int .i64 H, .slice P np cp], .agg #[.int .i64 W', .int .i64 H', .slice A n c, .slice A' n' c'], .int .i64 m] w (SurePost (sureL s0 m pix dark light) (sureE s0 m) w) := by
  have HC := Lib.hid (fun W1 (hb : Below w.heap.size w W1) => offsets_any W H W' H' P A A' pix dark light np cp n c n' c' W1 (hp.below hb) (hr.below hb) (hr'.below hb) hnp hn hn' u0 u1 u2 s0 hs)
  have hle : s0 = 0 → (offs pix dark light).length = np ∧ np ≤ 400 := fun h0 => by
    obtain ⟨l1, l2, l3, _⟩ := seen_len (by rw [hs]; exact h0)
    exact ⟨by rw [offs_len _ _ _ (by rw [l1, hnp]) (by rw [l2, hnp]), hnp], l3⟩
  have hs0 : s0 ≠ 0 → s0 = 10 ∨ s0 = 11 := fun h0 => (hs ▸ seenF_cases W H np W' H' dark light).resolve_left h0
  have hbd := offs_bd pix dark light u0 u1 u2
  clear hp hr hr' hnp hn hn' u0 u1 u2 hs
  have HB0 := Lib.hid (below_more (below_alloc w (.cells #[.int .i64 W, .int .i64 H, .slice P np cp] 24)) (.cells #[.int .i64 W', .int .i64 H', .slice A n c, .slice A' n' c'] 26))
  by_cases h0 : s0 = 0
  case neg =>
    have HE := Lib.hid (show (if s0 = 0 then offs pix dark light else []) = [] from if_neg h0)
    have hse : sureE s0 m = s0 := if_neg h0
    have HL := Lib.hid (show sureL s0 m pix dark light = [] by rw [sureL, hse, if_neg h0])
    have HSE := Lib.hid hse
    have hs0 := hs0 h0
    clear h0 hle hse hbd
    rcases hs0 with rfl | rfl
    all_goals
      go_enter Try.func23, Try.ntmps23
      go_wp2_with fail
      refine (HC.out _ HB0.out).mono ?_
      rintro e w1 ⟨A1, rfl, hrd1, hb1⟩
      go_wp2_with fail
      go_ret2
      exact ⟨none, 0, by rw [HL.out, HSE.out]; rfl, .inl (by rw [HL.out]; rfl), below_step HB0.out hb1⟩
  · obtain ⟨hlo, h400⟩ := hle h0
    obtain ⟨l, hl⟩ : ∃ l, offs pix dark light = l := ⟨_, rfl⟩
    have HE := Lib.hid (show (if s0 = 0 then offs pix dark light else []) = l by rw [if_pos h0, hl])
    rw [hl] at hlo hbd
    have hln : l.length ≤ 400 := by rw [hlo]; exact h400
    have HBD := Lib.hid hbd
    clear hle hs0 hlo h400 hbd
    cases hm : inB 0 100 m
    · have HSE := Lib.hid (show sureE s0 m = 2 by simp [sureE, h0, hm])
      have HL := Lib.hid (show sureL s0 m pix dark light = [] by simp [sureL, HSE.out])
      subst h0
      clear hl
      go_enter Try.func23, Try.ntmps23
      go_wp2_with fail
      have HC' := HC.out _ HB0.out
      rw [HE.out] at HC'
      refine HC'.mono ?_
      rintro e w1 ⟨A1, rfl, hrd1, hb1⟩
      go_wp2_with (go_at_call 58; refine (within_any _ _ _ _).mono ?_; rintro e w' ⟨rfl, rfl⟩)
      go_ret2
      exact ⟨none, 0, by rw [HL.out, HSE.out]; rfl, .inl (by rw [HL.out]; rfl), below_step HB0.out hb1⟩
    · have HSE := Lib.hid (show sureE s0 m = 0 by simp [sureE, h0, hm])
      have HL := Lib.hid (show sureL s0 m pix dark light = sures m l by simp [sureL, HSE.out, hl])
      have hmb : 0 ≤ m ∧ m ≤ 100 := by simpa [inB] using hm
      subst h0
      clear hl
      obtain ⟨i0, hi0, hz0, hz1, hz2⟩ := info_parts info4
      have HI := Lib.hid hi0
      have HZ0 := Lib.hid hz0
      have HZ1 := Lib.hid hz1
      have HZ2 := Lib.hid hz2
      clear hi0 hz0 hz1 hz2
      go_enter Try.func23, Try.ntmps23
      go_wp2_with fail
      have HC' := HC.out _ HB0.out
      rw [HE.out] at HC'
      refine HC'.mono ?_
      rintro e w1 ⟨A1, rfl, hrd1, hb1⟩
      have hall := Lib.hid (below_step HB0.out hb1)
      have HRD := Lib.hid hrd1
      clear hb1 hrd1
      go_wp2_with (go_at_call 58; refine (within_any _ _ _ _).mono ?_; rintro e w' ⟨rfl, rfl⟩)
      go_loopw [10, 12, 27] (fun u10 _ u27 wr => ∃ (k : Nat) (A2 : Option Addr) (c2 : Nat), k ≤ l.length ∧ u27 = .int .i64 k ∧ u10 = .slice A2 k c2 ∧ Hid (wr.ownsRow w1.heap.size 4 1 (.slice A2 k c2) k (bools ((sures m l).take k))) ∧ Below w1.heap.size w1 wr) (fun _ _ u27 _ => l.length - (intOf u27).toNat)
      case atStart => exact ⟨0, none, 0, Nat.zero_le _, rfl, rfl, World.ownsRow_nil _ _ _ _, Below.refl _ _⟩
      case round =>
        obtain ⟨k, A2, c2, hk, rfl, rfl, ho, hb⟩ := hrel
        have hsz := hb.size
        by_cases hlt : k < l.length
        · obtain ⟨b, off, rfl, hbs, hc⟩ := (HRD.out.below hb).at_ (ints_get hlt)
          have k0 := hc k _ (ints_get hlt)
          have hbx := HBD.out l[k] (List.getElem_mem hlt)
          have HSN := Lib.hid (bools_snoc (sures_get (m := m) hlt))
          have d1 : (k : Int) < (l.length : Int) := by omega
          clear hc
          generalize l[k] = x at *
          have e1 : IntKind.i64.wrap (-x) = -x := IntWalk.i64_in _ (by omega)
          have e2 : IntKind.i64.wrap (2 * m) = 2 * m := IntWalk.i64_in _ (by omega)
          have hms := max_sure m x
          by_cases hx : x < -x
          · rw [if_pos hx] at hms
            have hsn := HSN.out
            rw [← hms.resolve_right (by omega)] at hsn
            have HSN' := Lib.hid hsn
            clear hms hsn
            go_wp2_with (at_builtin; refine wpList_app1 _ rfl (.tmp 31) (.tmp 39) _ (by rfl) w1.heap.size 4 i0 _ 1 Try.underlying32 HI.out HZ0.out HZ1.out HZ2.out rfl _ k (bools ((sures m l).take k)) (by rfl) _ (.bool (decide (2 * m < -x))) (by rfl) ?_ (ho.out.alloc _) (by simp [go_sem]) rfl (by unfold maxLen; omega) (by omega) (by first | omega | (simp; omega)); intro A3 c3 wy how hby _)
            have HOW := Lib.hid (own_cast how rfl HSN'.out)
            have HBL := Lib.hid ((hb.alloc hsz (.cells #[.bool (decide (2 * m < -x))] 4)).trans hby)
            clear e1 e2
            go_roundw
            case rel => exact ⟨k + 1, A3, c3, by omega, by go_num, rfl, HOW, HBL.out⟩
            case measure => simp [intOf]; omega
          · rw [if_neg hx] at hms
            have hsn := HSN.out
            rw [← hms.resolve_right (by omega)] at hsn
            have HSN' := Lib.hid hsn
            clear hms hsn
            go_wp2_with (at_builtin; refine wpList_app1 _ rfl (.tmp 31) (.tmp 39) _ (by rfl) w1.heap.size 4 i0 _ 1 Try.underlying32 HI.out HZ0.out HZ1.out HZ2.out rfl _ k (bools ((sures m l).take k)) (by rfl) _ (.bool (decide (2 * m < x))) (by rfl) ?_ (ho.out.alloc _) (by simp [go_sem]) rfl (by unfold maxLen; omega) (by omega) (by first | omega | (simp; omega)); intro A3 c3 wy how hby _)
            have HOW := Lib.hid (own_cast how rfl HSN'.out)
            have HBL := Lib.hid ((hb.alloc hsz (.cells #[.bool (decide (2 * m < x))] 4)).trans hby)
            clear e1 e2
            go_roundw
            case rel => exact ⟨k + 1, A3, c3, by omega, by go_num, rfl, HOW, HBL.out⟩
            case measure => simp [intOf]; omega
        · obtain rfl : k = l.length := by omega
          have HOW := Lib.hid (own_cast ho.out rfl (show bools ((sures m l).take l.length) = bools (sures m l) by rw [List.take_of_length_le (by rw [sures_len]; exact Nat.le_refl _)]))
          go_wp2_with fail
          go_ret2
          refine ⟨A2, c2, by rw [HL.out, HSE.out, sures_len]; rfl, ?_, below_step hall.out hb⟩
          obtain ⟨A', c', e, h⟩ := rd_of_own HOW.out
          injection e with e1
          subst e1
          rw [HL.out]
          exact h.mono hall.out.size
end Go.Proofs.Ytjelnbfnoliocaa
