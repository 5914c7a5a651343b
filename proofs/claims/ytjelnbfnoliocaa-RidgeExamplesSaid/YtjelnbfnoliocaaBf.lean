/- Ridge: Binary of the program and of the reference. No condition. -/
import Derived.Test.YtjelnbfnoliocaaBe
namespace Go.Proofs.Ytjelnbfnoliocaa
open Go.RowKit

theorem info4 : (Try.prog.info? 4).map (fun i => (i.zero, i.size, i.bytes)) = some (some (.bool false), 1, 1) := by kernel_rfl
/-- Which offsets are below 0. -/
def neg (l : List Int) : List Bool := l.map fun v => decide (v < 0)
theorem neg_len (l : List Int) : (neg l).length = l.length := by simp [neg]
theorem bools_snoc {l : List Bool} {k : Nat} {b : Bool} (h : l[k]? = some b) : bools (l.take k) ++ [.bool b] = bools (l.take (k + 1)) := by
  rw [List.take_add_one, h]
  simp [bools]
theorem neg_get {l : List Int} {k : Nat} (h : k < l.length) : (neg l)[k]? = some (decide (l[k] < 0)) := by simp [neg, h]
theorem seenF_cases (W H : Int) (np : Nat) (W' H' : Int) (d l : List Int) : seenF W H np W' H' d l = 0 ∨ seenF W H np W' H' d l = 10 ∨ seenF W H np W' H' d l = 11 := by
  unfold seenF
  by_cases h1 : sized1B W H np = true
  · rw [if_pos h1]
    by_cases h2 : (deviceB W' H' d l && (decide (W' = W) && decide (H' = H))) = true
    · exact .inl (if_pos h2)
    · exact .inr (.inr (if_neg h2))
  · exact .inr (.inl (if_neg h1))
def BinPost (W H : Int) (l : List Bool) (e0 : Int) (w : World) (e : Ending) (w' : World) : Prop :=
  ∃ A c, e = .returned (.tuple #[.agg #[.int .i64 W, .int .i64 H, .slice A l.length c], .int .i64 e0]) ∧ Ow w' w.heap.size A (bools l) ∧ Below w.heap.size w w'
def binW (e0 W : Int) : Int := if e0 = 0 then W else 0
def binL (e0 : Int) (p d l : List Int) : List Bool := if e0 = 0 then neg (offs p d l) else []
set_option maxRecDepth 100000 in
set_option maxHeartbeats 1000000 in
theorem binary_any (W H W' H' : Int) (P A A' : Option Addr) (pix dark light : List Int) (np cp n c n' c' : Nat) (w : World) (hp : Rd w P (u8s pix)) (hr : Rd w A (u8s dark)) (hr' : Rd w A' (u8s light))
    (hnp : np = pix.length) (hn : n = dark.length) (hn' : n' = light.length) (u0 : U8 pix) (u1 : U8 dark) (u2 : U8 light) (s0 : Int) (hs : seenF W H np W' H' dark light = s0) :
    Calls Try.prog 20 #[.agg #[.int .i64 W, .int .i64 H, .slice P np cp], .agg #[.int .i64 W', .int .i64 H', .slice A n c, .slice A' n' c']] w (BinPost (binW s0 W) (binW s0 H) (binL s0 pix dark light) s0 w) := by
  have HC := Lib.hid (fun W1 (hb : Below w.heap.size w W1) => offsets_any W H W' H' P A A' pix dark light np cp n c n' c' W1 (hp.below hb) (hr.below hb) (hr'.below hb) hnp hn hn' u0 u1 u2 s0 hs)
  have hle : s0 = 0 → (offs pix dark light).length = np ∧ np ≤ 400 := fun h0 => by
    obtain ⟨l1, l2, l3, _⟩ := seen_len (by rw [hs]; exact h0)
    exact ⟨by rw [offs_len _ _ _ (by rw [l1, hnp]) (by rw [l2, hnp]), hnp], l3⟩
  have hs0 : s0 ≠ 0 → s0 = 10 ∨ s0 = 11 := fun h0 => (hs ▸ seenF_cases W H np W' H' dark light).resolve_left h0
  clear hp hr hr' hnp hn hn' u0 u1 u2 hs
  have hb0 : Below w.heap.size w (((w.alloc (.cells #[.int .i64 W, .int .i64 H, .slice P np cp] 24)).alloc (.cells #[.int .i64 W', .int .i64 H', .slice A n c, .slice A' n' c'] 26)).alloc (.cells #[.int .i64 0, .int .i64 0, .slice none 0 0] 34)) := below_more (below_more (below_alloc _ _) _) _
  have HB0 := Lib.hid hb0
  clear hb0
  by_cases h0 : s0 = 0
  case neg =>
    have HE := Lib.hid (show (if s0 = 0 then offs pix dark light else []) = [] from if_neg h0)
    have HW := Lib.hid (show binW s0 W = 0 from if_neg h0)
    have HH := Lib.hid (show binW s0 H = 0 from if_neg h0)
    have HL := Lib.hid (show binL s0 pix dark light = [] from if_neg h0)
    have hs0 := hs0 h0
    clear h0 hle
    have B3 := Lib.hid (Box.new ((w.alloc (.cells #[.int .i64 W, .int .i64 H, .slice P np cp] 24)).alloc (.cells #[.int .i64 W', .int .i64 H', .slice A n c, .slice A' n' c'] 26)) 34 #[.int .i64 0, .int .i64 0, .slice none 0 0])
    rcases hs0 with rfl | rfl
    all_goals
      go_enter Try.func20, Try.ntmps20
      go_wp2_with fail
      refine (HC.out _ HB0.out).mono ?_
      rintro e w1 ⟨A1, rfl, hrd1, hb1⟩
      obtain ⟨c0, c1, c2, cf⟩ := (B3.out.ext hb1).c3
      simp only [World.size_alloc] at c0 c1 c2 cf
      go_wp2_with fail
      refine bodyPost_ret (v := .tuple #[.agg #[.int .i64 0, .int .i64 0, .slice none 0 0], .int .i64 _]) (by simp [results, Try.results20, go_sem, *]; rfl) rfl ⟨none, 0, by rw [HW.out, HH.out, HL.out]; rfl, .inl (by rw [HL.out]; rfl), ?_⟩
      exact (((below_step HB0.out hb1).setCell (by simp only; omega) _).setCell (by simp only; omega) _).setCell (by simp only; omega) _
  · obtain ⟨hlo, h400⟩ := hle h0
    obtain ⟨l, hl⟩ : ∃ l, offs pix dark light = l := ⟨_, rfl⟩
    have HE := Lib.hid (show (if s0 = 0 then offs pix dark light else []) = l by rw [if_pos h0, hl])
    have HW := Lib.hid (show binW s0 W = W from if_pos h0)
    have HH := Lib.hid (show binW s0 H = H from if_pos h0)
    have HL := Lib.hid (show binL s0 pix dark light = neg l by rw [← hl]; exact if_pos h0)
    subst h0
    rw [hl] at hlo
    have hln : l.length ≤ 400 := by rw [hlo]; exact h400
    clear hl hle hlo h400
    have B1 := Lib.hid (((Box.new w 24 #[.int .i64 W, .int .i64 H, .slice P np cp]).alloc (.cells #[.int .i64 W', .int .i64 H', .slice A n c, .slice A' n' c'] 26)).alloc (.cells #[.int .i64 0, .int .i64 0, .slice none 0 0] 34))
    have B3 := Lib.hid (Box.new ((w.alloc (.cells #[.int .i64 W, .int .i64 H, .slice P np cp] 24)).alloc (.cells #[.int .i64 W', .int .i64 H', .slice A n c, .slice A' n' c'] 26)) 34 #[.int .i64 0, .int .i64 0, .slice none 0 0])
    obtain ⟨i0, hi0, hz0, hz1, hz2⟩ := info_parts info4
    have HI := Lib.hid hi0
    have HZ0 := Lib.hid hz0
    have HZ1 := Lib.hid hz1
    have HZ2 := Lib.hid hz2
    clear hi0 hz0 hz1 hz2
    go_enter Try.func20, Try.ntmps20
    go_wp2_with fail
    have HC' := HC.out _ HB0.out
    rw [HE.out] at HC'
    refine HC'.mono ?_
    rintro e w1 ⟨A1, rfl, hrd1, hb1⟩
    obtain ⟨a0, a1, a2, _⟩ := (B1.out.ext hb1).c3
    have hs1 : w.heap.size + 2 < w1.heap.size := by have := hb1.size; simp at this; omega
    have hs2 : w.heap.size < w1.heap.size := by omega
    have hs3 : w.heap.size + 1 + 1 < w1.heap.size := by omega
    go_wp2_with fail
    have q0 := Lib.hid (Box.new w1 34 #[.int .i64 W, .int .i64 H, .slice none 0 0])
    have hall := Lib.hid (below_step HB0.out hb1)
    have hbw := Lib.hid (below_alloc w1 (.cells #[.int .i64 W, .int .i64 H, .slice none 0 0] 34))
    have HB3 := Lib.hid (B3.out.ext hb1)
    have HS := Lib.hid (show (w1.alloc (.cells #[.int .i64 W, .int .i64 H, .slice none 0 0] 34)).heap.size = w1.heap.size + 1 by simp)
    clear a0 a1 a2 hb1
    have HRD := Lib.hid hrd1
    clear hrd1
    generalize w1.alloc (.cells #[.int .i64 W, .int .i64 H, .slice none 0 0] 34) = W1 at *
    go_loopw [10, 28] (fun _ u28 wr => ∃ (k : Nat) (A2 : Option Addr) (c2 : Nat), k ≤ l.length ∧ u28 = .int .i64 k ∧ Hid (Box wr w1.heap.size [.int .i64 W, .int .i64 H, .slice A2 k c2]) ∧ Hid (wr.ownsRow (w1.heap.size + 1) 4 1 (.slice A2 k c2) k (bools ((neg l).take k))) ∧ Below w1.heap.size W1 wr) (fun _ u28 _ => l.length - (intOf u28).toNat)
    case atStart => exact ⟨0, none, 0, Nat.zero_le _, rfl, q0.out, World.ownsRow_nil _ _ _ _, Below.refl _ _⟩
    case round =>
      obtain ⟨k, A2, c2, hk, rfl, hq, ho, hb⟩ := hrel
      obtain ⟨g0, g1, g2, gf⟩ := hq.out.c3
      have hsz : w1.heap.size < wr.heap.size := hq.out.2.2
      by_cases hlt : k < l.length
      · obtain ⟨b, off, rfl, hbs, hc⟩ := (HRD.out.below (hbw.out.trans hb)).at_ (ints_get hlt)
        have k0 := hc k _ (ints_get hlt)
        have HSN := Lib.hid (bools_snoc (neg_get hlt))
        clear hc
        generalize l[k] = x at *
        have d1 : (k : Int) < (l.length : Int) := by omega
        go_wp2_with (at_builtin; refine wpList_app1 _ rfl (.tmp 33) (.tmp 36) _ (by rfl) (w1.heap.size + 1) 4 i0 _ 1 Try.underlying32 HI.out HZ0.out HZ1.out HZ2.out rfl _ k (bools ((neg l).take k)) (by rfl) _ (.bool (decide (x < 0))) (by rfl) ?_ (ho.out.alloc _) (by simp [go_sem]) rfl (by unfold maxLen; omega) (by omega) (by first | omega | (simp; omega)); intro A3 c3 wy how hby _; have HBX := Lib.hid ((hq.out.alloc _).below hby (by omega)); obtain ⟨y0, y1, y2, yf⟩ := HBX.out.c3; have hsy : w1.heap.size < wy.heap.size := HBX.out.2.2)
        have HOW := Lib.hid (own_cast (own_set how (show w1.heap.size < w1.heap.size + 1 by omega) (o := 2) (.slice A3 (k + 1) c3)) rfl HSN.out)
        have HBL := Lib.hid (((hb.alloc (by omega) (.cells #[.bool (decide (x < 0))] 4)).trans (hby.mono (by omega))).setCell (p := ⟨w1.heap.size, 2, none⟩) (Nat.le_refl _) (.slice A3 (k + 1) c3))
        go_roundw
        case rel => exact ⟨k + 1, A3, c3, by omega, by go_num, HBX.out.set (.slice A3 (k + 1) c3) (i := 2) (by simp), HOW, HBL.out⟩
        case measure => simp [intOf]; omega
      · obtain rfl : k = l.length := by omega
        have HOW := Lib.hid (own_cast ho.out rfl (show bools ((neg l).take l.length) = bools (neg l) by rw [List.take_of_length_le (by rw [neg_len]; exact Nat.le_refl _)]))
        have HBL := Lib.hid (below_step hall.out (hbw.out.trans hb))
        obtain ⟨r0, r1, r2, rf⟩ := (HB3.out.below (hbw.out.trans hb) (by simp; omega)).c3
        simp only [World.size_alloc] at r0 r1 r2 rf
        have hs4 : w.heap.size + 1 + 1 < wr.heap.size := by omega
        go_wp2_with fail
        refine bodyPost_ret (v := .tuple #[.agg #[.int .i64 W, .int .i64 H, .slice A2 l.length c2], .int .i64 0]) (by simp [results, Try.results20, go_sem, *]) rfl ⟨A2, c2, by rw [HW.out, HH.out, HL.out, neg_len], ?_, ?_⟩
        · obtain ⟨A', c', e, h⟩ := rd_of_own (own_set (own_set (own_set HOW.out (show w.heap.size + 1 + 1 < w1.heap.size + 1 by omega) (o := 0) (.int .i64 W)) (show w.heap.size + 1 + 1 < w1.heap.size + 1 by omega) (o := 1) (.int .i64 H)) (show w.heap.size + 1 + 1 < w1.heap.size + 1 by omega) (o := 2) (.slice A2 l.length c2))
          injection e with e1
          subst e1
          rw [HL.out]
          exact h.mono (by omega)
        · exact ((HBL.out.setCell (by simp only; omega) _).setCell (by simp only; omega) _).setCell (by simp only; omega) _
end Go.Proofs.Ytjelnbfnoliocaa
