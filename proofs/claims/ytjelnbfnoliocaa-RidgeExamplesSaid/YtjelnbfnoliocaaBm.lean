/- RidgeBits: the walk of the law. -/
import Derived.Test.YtjelnbfnoliocaaBl
import Derived.Test.YtjelnbfnoliocaaBg
import Derived.Test.YtjelnbfnoliocaaBh
import Derived.Laws.BytesArg
import Derived.Laws.IdiomStrings
namespace Go.Proofs.Ytjelnbfnoliocaa
open Go.RowKit

theorem info5 : (Try.prog.info? 5).map (fun i => (i.zero, i.size, i.bytes)) = some (some (.int .u8 0), 1, 1) := by kernel_rfl
theorem u8s_one (l : List Int) : ∀ u ∈ u8s l, u.oneCell' = true := by
  intro u hu
  obtain ⟨x, _, rfl⟩ := List.mem_map.1 hu
  rfl
theorem conv_rd {w : World} {A : Option Addr} {pix : List Int} {np : Nat} (c : Nat) (h : Rd w A (u8s pix)) (hn : np = pix.length) (u0 : U8 pix) :
    (convert 22 9 (.slice A np c)).run Try.prog w = .ok (.string (strOfNums pix)) w := by
  have key : ∀ a, A = some a → (∀ j u, (u8s pix)[j]? = some u → w.cell? (a.add j) = some u) → (convert 22 9 (.slice A np c)).run Try.prog w = .ok (.string (strOfNums pix)) w := by
    intro a hA hc
    subst hA
    have := run_convert_bytes_back (P := Try.prog) w 22 9 5 a c (pix.map fun n => UInt8.ofNat n.toNat) Try.underlying22 Try.underlying5 Try.underlying9 (fun j hj => by
      have hj' : j < pix.length := by simpa using hj
      rw [hc j _ (u8s_get hj')]
      have := u0.at_ hj'
      simp only [List.getElem_map]
      congr 2
      rw [UInt8.toNat_ofNat']
      omega)
    rw [List.length_map, ← hn] at this
    exact this
  rcases h with h | ⟨b, off, hA, _, hc⟩
  · have hp : pix = [] := by simpa [u8s] using h
    subst hp
    cases A with
    | none => exact run_convert_bytes_nil (P := Try.prog) w 22 5 Try.underlying22 Try.underlying5 _ _ 9 Try.underlying9
    | some a => exact key a rfl (fun j u hu => by simp [u8s] at hu)
  · exact key _ hA (fun j u hu => by rw [Addr.add_lit]; exact hc j u hu)
theorem binL_len {W H W' H' : Int} {np : Nat} {p d l : List Int} {s0 : Int} (hs : seenF W H np W' H' d l = s0) (hnp : np = p.length) : (binL s0 p d l).length ≤ 400 := by
  unfold binL
  split
  · rename_i h0
    obtain ⟨l1, l2, l3, _⟩ := seen_len (by rw [hs]; exact h0)
    rw [neg_len, offs_len _ _ _ (by rw [l1, hnp]) (by rw [l2, hnp]), ← hnp]
    exact l3
  · simp
theorem sureL_len0 {W H W' H' : Int} {np : Nat} {p d l : List Int} {s0 m : Int} (hs : seenF W H np W' H' d l = s0) (hnp : np = p.length) : (sureL s0 m p d l).length ≤ 400 := by
  by_cases h0 : sureE s0 m = 0
  · exact (sureL_len hs hnp h0).2
  · rw [sureL, if_neg h0]; simp
set_option maxRecDepth 100000 in
set_option maxHeartbeats 2000000 in
theorem ridgeBits_walk (W H W' H' m : Int) (P A A' : Option Addr) (pix dark light : List Int) (np cp n c n' c' : Nat) (w : World) (hp : Rd w P (u8s pix)) (hr : Rd w A (u8s dark)) (hr' : Rd w A' (u8s light))
    (hnp : np = pix.length) (hn : n = dark.length) (hn' : n' = light.length) (u0 : U8 pix) (u1 : U8 dark) (u2 : U8 light) (hnb : np ≤ 140737488351232) :
    Calls Try.prog 3 #[.agg #[.int .i64 W, .int .i64 H, .slice P np cp], .agg #[.int .i64 W', .int .i64 H', .slice A n c, .slice A' n' c'], .int .i64 m] w fun e w' => e = .returned (.bool true) ∧ Below w.heap.size w w' := by
  have HP := Lib.hid hp
  have HR := Lib.hid hr
  have HR' := Lib.hid hr'
  have HNP := Lib.hid hnp
  have HN := Lib.hid hn
  have HN' := Lib.hid hn'
  clear hp hr hr' hnp hn hn'
  obtain ⟨i0, hi0, hz0, hz1, hz2⟩ := info_parts info5
  have HI := Lib.hid hi0
  have HZ0 := Lib.hid hz0
  have HZ1 := Lib.hid hz1
  have HZ2 := Lib.hid hz2
  clear hi0 hz0 hz1 hz2
  have B1 := Lib.hid ((Box.new w 24 #[.int .i64 W, .int .i64 H, .slice P np cp]).alloc (.cells #[.int .i64 W', .int .i64 H', .slice A n c, .slice A' n' c'] 26))
  have B2 := Lib.hid (Box.new (w.alloc (.cells #[.int .i64 W, .int .i64 H, .slice P np cp] 24)) 26 #[.int .i64 W', .int .i64 H', .slice A n c, .slice A' n' c'])
  have HB0 := Lib.hid (below_more (below_alloc w (.cells #[.int .i64 W, .int .i64 H, .slice P np cp] 24)) (.cells #[.int .i64 W', .int .i64 H', .slice A n c, .slice A' n' c'] 26))
  go_enter Try.func3, Try.ntmps3
  have B4 := Lib.hid (Box.new ((w.alloc (.cells #[.int .i64 W, .int .i64 H, .slice P np cp] 24)).alloc (.cells #[.int .i64 W', .int .i64 H', .slice A n c, .slice A' n' c'] 26)) 24 #[.int .i64 W, .int .i64 H, .slice P np cp])
  have HBE := Lib.hid (below_more (below_more HB0.out (.cells #[.int .i64 W, .int .i64 H, .slice P np cp] 24)) (.cells #[] 5))
  go_wp2_with (at_builtin; refine wpList_app_own _ rfl (.tmp 17) (.tmp 19) _ rfl (w.heap.size + 3) 5 i0 _ 1 1 Try.underlying22 HI.out HZ0.out HZ1.out HZ2.out rfl (by omega) (.slice (some ⟨w.heap.size + 3, 0, none⟩) 0 0) 0 [] rfl P np cp (u8s pix) rfl np (u8s pix) ?_ (by omega) rfl ?h1 ?h2 ?h3 (u8s_one pix) ?h4 ?h5 ?h6; intro A1 c1 w1 hown1 hb1 _ _; have HO := Lib.hid hown1; have HB := Lib.hid hb1; have HB4 := Lib.hid ((B4.out.alloc (.cells #[] 5)).below hb1 (by simp)); obtain ⟨o0, o1, o2, of⟩ := HB4.out.c3; have hsw := HB4.out.2.2; simp only [World.size_alloc] at o0 o1 o2 of hsw; clear hown1 hb1)
  case h1 => exact own_empty_new _ _ _ _ _ (by simp only [World.size_alloc]) (Nat.le_refl _)
  case h2 => exact HP.out.below HBE.out
  case h3 => rw [HNP.out]; simp [u8s]
  case h4 => simp only [maxLen]; omega
  case h5 => omega
  have b1 : Box (w1.setCell ⟨w.heap.size + 1 + 1, 2, none⟩ (.slice A1 np c1)) w.heap.size [.int .i64 W, .int .i64 H, .slice P np cp] := (((B1.out.alloc _).alloc _).below HB.out (by omega)).far _ (by omega)
  have b2 : Box (w1.setCell ⟨w.heap.size + 1 + 1, 2, none⟩ (.slice A1 np c1)) (w.heap.size + 1) [.int .i64 W', .int .i64 H', .slice A n c, .slice A' n' c'] := by
    have := B2.out
    simp only [World.size_alloc] at this
    exact (((this.alloc _).alloc _).below HB.out (by omega)).far _ (by omega)
  have b4 : Box (w1.setCell ⟨w.heap.size + 1 + 1, 2, none⟩ (.slice A1 np c1)) (w.heap.size + 1 + 1) [.int .i64 W, .int .i64 H, .slice A1 np c1] := by
    have := HB4.out
    simp only [World.size_alloc] at this
    exact this.set (.slice A1 np c1) (i := 2) (by simp)
  have hbw : Below w.heap.size w (w1.setCell ⟨w.heap.size + 1 + 1, 2, none⟩ (.slice A1 np c1)) := (HBE.out.trans (HB.out.mono (by omega))).setCell (by simp only; omega) _
  have r3 : Rd (w1.setCell ⟨w.heap.size + 1 + 1, 2, none⟩ (.slice A1 np c1)) A1 (u8s pix) := by
    obtain ⟨A2, c2, e, h⟩ := rd_of_own (own_set HO.out (show w.heap.size + 1 + 1 < w.heap.size + 3 by omega) (o := 2) (.slice A1 np c1))
    injection e with e1
    subst e1
    exact h.rd
  clear o0 o1 o2 of hsw
  generalize w1.setCell ⟨w.heap.size + 1 + 1, 2, none⟩ (.slice A1 np c1) = W1 at *
  have ENV := Lib.hid (fun w2 (hb : Below W1.heap.size W1 w2) => (⟨b1.ext hb, b2.ext hb, b4.ext hb, (HP.out.below hbw).below hb, (HR.out.below hbw).below hb, (HR'.out.below hbw).below hb, r3.below hb⟩ : Box w2 w.heap.size [.int .i64 W, .int .i64 H, .slice P np cp] ∧ Box w2 (w.heap.size + 1) [.int .i64 W', .int .i64 H', .slice A n c, .slice A' n' c'] ∧ Box w2 (w.heap.size + 1 + 1) [.int .i64 W, .int .i64 H, .slice A1 np c1] ∧ Rd w2 P (u8s pix) ∧ Rd w2 A (u8s dark) ∧ Rd w2 A' (u8s light) ∧ Rd w2 A1 (u8s pix)))
  have HBW := Lib.hid hbw
  obtain ⟨p0, p1, p2, _⟩ := b1.c3
  obtain ⟨q0, q1, q2, q3, _⟩ := b2.c4
  obtain ⟨s0, s1, s2, _⟩ := b4.c3
  have z1 := b1.2.2
  have z2 := b2.2.2
  have z4 := b4.2.2
  clear b1 b2 b4 r3 hbw
  have C18 := Lib.hid (fun x : ExtOf W1 => checkDevice_any W' H' A A' dark light n c n' c' x.wld (ENV.out _ x.ext).2.2.2.2.1 HN.out (ENV.out _ x.ext).2.2.2.2.2.1 HN'.out)
  have C19 := Lib.hid (fun x : ExtOf W1 => refCheckDevice_any W' H' A A' dark light n c n' c' x.wld (ENV.out _ x.ext).2.2.2.2.1 HN.out (ENV.out _ x.ext).2.2.2.2.2.1 HN'.out)
  have hne : Nonempty (ExtOf W1) := ⟨⟨W1, Below.refl _ _⟩⟩
  refine wp_region_ext (by kernel_rfl) (by kernel_rfl) ?_
  go_big_quiet_step (fail)
  go_big_quiet_step ((go_at_call 16; exact ext_of (checkSample_any W H A1 np c1 _)))
  go_big_quiet_step (fail)
  go_big_quiet_step ((go_at_call 17; exact ext_of (refCheckSample_any W H P np cp _)))
  iterate 3 (go_big_quiet_step (fail))
  go_big_quiet_step ((go_at_call 18; exact ext_of (C18.out _)))
  go_big_quiet_step (fail)
  go_big_quiet_step ((go_at_call 19; exact ext_of (C19.out _)))
  iterate 2 (go_big_quiet_step (fail))
  refine wpQuiet_nil ?_
  rintro _ ⟨x, rfl⟩
  obtain ⟨w2, hb2⟩ := x
  simp only
  clear p0 p1 p2 q0 q1 q2 q3 s0 s1 s2 z1 z2 z4 hne
  obtain ⟨S, hS⟩ : ∃ S, seenF W H np W' H' dark light = S := ⟨_, rfl⟩
  have HS := Lib.hid hS
  clear hS
  obtain ⟨k1, k2, k4, _, _, _, _⟩ := ENV.out w2 hb2
  obtain ⟨p0, p1, p2, _⟩ := k1.c3
  obtain ⟨q0, q1, q2, q3, _⟩ := k2.c4
  obtain ⟨s0, s1, s2, _⟩ := k4.c3
  have z1 := k1.2.2
  have z2 := k2.2.2
  have z4 := k4.2.2
  clear k1 k2 k4
  go_wp2_with fail
  obtain ⟨_, _, _, r0, r1, r2, r3⟩ := ENV.out w2 hb2
  refine (binary_any W H W' H' A1 A A' pix dark light np c1 n c n' c' _ r3 r1 r2 HNP.out HN.out HN'.out u0 u1 u2 S HS.out).mono ?_
  rintro e w3 ⟨Aa, ca, rfl, hOa, hb3⟩
  clear r0 r1 r2 r3
  clear p0 p1 p2 q0 q1 q2 q3 s0 s1 s2 z1 z2 z4
  have hLn := binL_len (W := W) (H := H) (np := np) (W' := W') (H' := H') HS.out HNP.out
  generalize hLL : binL S pix dark light = L at *
  generalize hWR : binW S W = Wr at *
  generalize hHR : binW S H = Hr at *
  have HLL := Lib.hid hLL
  have HWR := Lib.hid hWR
  have HHR := Lib.hid hHR
  clear hLL hWR hHR
  have hb3' := hb2.trans (hb3.mono hb2.size)
  have hb4 := hb3'.alloc (by exact hb3'.size) (.cells #[.int .i64 Wr, .int .i64 Hr, .slice Aa L.length ca] 34)
  have t8 := Lib.hid (Box.new w3 34 #[.int .i64 Wr, .int .i64 Hr, .slice Aa L.length ca])
  have HOA := Lib.hid hOa.rd
  clear hOa
  obtain ⟨k1, k2, k4, _, _, _, _⟩ := ENV.out w3 hb3'
  obtain ⟨p0, p1, p2, _⟩ := k1.c3
  obtain ⟨q0, q1, q2, q3, _⟩ := k2.c4
  obtain ⟨s0, s1, s2, _⟩ := k4.c3
  have z1 := k1.2.2
  have z2 := k2.2.2
  have z4 := k4.2.2
  clear k1 k2 k4
  go_wp2_with fail
  obtain ⟨_, _, _, r0, r1, r2, r3⟩ := ENV.out _ hb4
  refine (refBinary_any W H W' H' P A A' pix dark light np cp n c n' c' _ r0 r1 r2 HNP.out HN.out HN'.out u0 u1 u2 S HS.out).mono ?_
  rintro e w4 ⟨Ab, cb, e4, hOb, hb5⟩
  clear r0 r1 r2 r3
  clear p0 p1 p2 q0 q1 q2 q3 s0 s1 s2 z1 z2 z4
  have hL := HLL.out
  rw [hL, HWR.out, HHR.out] at e4
  rw [hL] at hOb
  subst e4
  have hb5' := Lib.hid (hb4.trans (hb5.mono hb4.size))
  have HOB := Lib.hid hOb.rd
  have HOA4 := Lib.hid ((HOA.out.below (below_alloc w3 (.cells #[.int .i64 Wr, .int .i64 Hr, .slice Aa L.length ca] 34))).below hb5)
  have t8' := Lib.hid (t8.out.ext hb5)
  clear hOb hb5 hL
  obtain ⟨v0, v1, v2, _⟩ := t8'.out.c3
  have v4 := t8'.out.2.2
  have HSM := Lib.hid (fun W5 (hb : Below w4.heap.size w4 W5) => same_true Wr Hr Aa Ab L L.length ca L.length cb W5 (HOA4.out.below hb) (HOB.out.below hb) rfl rfl (by omega))
  go_wp2_with fail
  refine (HSM.out _ (below_alloc w4 _)).mono ?_
  rintro e w5 ⟨rfl, hb6⟩
  clear v0 v1 v2 v4
  have hb6' := hb5'.out.trans (((below_alloc w4 (.cells #[.int .i64 Wr, .int .i64 Hr, .slice Ab L.length cb] 34)).trans (hb6.mono (by simp))).mono hb5'.out.size)
  clear hb6 HSM t8 t8' HOA HOB HOA4 hb2 hb3 hb3' hb4
  obtain ⟨k1, k2, k4, _, _, _, _⟩ := ENV.out w5 hb6'
  obtain ⟨p0, p1, p2, _⟩ := k1.c3
  obtain ⟨q0, q1, q2, q3, _⟩ := k2.c4
  obtain ⟨s0, s1, s2, _⟩ := k4.c3
  have z1 := k1.2.2
  have z2 := k2.2.2
  have z4 := k4.2.2
  clear k1 k2 k4
  go_wp2_with fail
  obtain ⟨_, _, _, r0, r1, r2, r3⟩ := ENV.out _ hb6'
  refine (sure_any W H W' H' m A1 A A' pix dark light np c1 n c n' c' _ r3 r1 r2 HNP.out HN.out HN'.out u0 u1 u2 S HS.out).mono ?_
  rintro e w6 ⟨As, cs, e6, hOs, hb7⟩
  clear r0 r1 r2 r3
  clear p0 p1 p2 q0 q1 q2 q3 s0 s1 s2 z1 z2 z4
  have hMn := sureL_len0 (m := m) HS.out HNP.out
  generalize hMM : sureL S m pix dark light = M at *
  generalize hES : sureE S m = E at *
  have HMM := Lib.hid hMM
  have HES := Lib.hid hES
  clear hMM hES
  subst e6
  have hb7' := hb6'.trans (hb7.mono hb6'.size)
  have HOS := Lib.hid hOs.rd
  clear hOs hb7 hb6'
  obtain ⟨k1, k2, k4, _, _, _, _⟩ := ENV.out w6 hb7'
  obtain ⟨p0, p1, p2, _⟩ := k1.c3
  obtain ⟨q0, q1, q2, q3, _⟩ := k2.c4
  obtain ⟨s0, s1, s2, _⟩ := k4.c3
  have z1 := k1.2.2
  have z2 := k2.2.2
  have z4 := k4.2.2
  clear k1 k2 k4
  go_wp2_with fail
  obtain ⟨_, _, _, r0, r1, r2, r3⟩ := ENV.out _ hb7'
  refine (refSure_any W H W' H' m P A A' pix dark light np cp n c n' c' _ r0 r1 r2 HNP.out HN.out HN'.out u0 u1 u2 S HS.out).mono ?_
  rintro e w7 ⟨At, ct, e7, hOt, hb8⟩
  clear r0 r1 r2 r3
  clear p0 p1 p2 q0 q1 q2 q3 s0 s1 s2 z1 z2 z4
  rw [HMM.out, HES.out] at e7
  rw [HMM.out] at hOt
  subst e7
  have HSB := Lib.hid (sameBools_true As At M M.length cs M.length ct w7 (HOS.out.below hb8) hOt.rd rfl rfl (by omega))
  have hb8' := hb7'.trans (hb8.mono hb7'.size)
  clear hOt hb8 hb7' HOS
  go_wp2_with fail
  refine HSB.out.mono ?_
  rintro e w8 ⟨rfl, hb9⟩
  have hb9' := hb8'.trans (hb9.mono hb8'.size)
  clear hb9 hb8' HSB
  obtain ⟨k1, k2, k4, _, _, _, _⟩ := ENV.out w8 hb9'
  obtain ⟨p0, p1, p2, _⟩ := k1.c3
  obtain ⟨q0, q1, q2, q3, _⟩ := k2.c4
  obtain ⟨s0, s1, s2, _⟩ := k4.c3
  have z1 := k1.2.2
  have z2 := k2.2.2
  have z4 := k4.2.2
  clear k1 k2 k4
  go_wp2_with fail
  obtain ⟨_, _, _, r0, r1, r2, r3⟩ := ENV.out _ hb9'
  refine (quality_any W H W' H' m A1 A A' pix dark light np c1 n c n' c' _ r3 r1 r2 HNP.out HN.out HN'.out u0 u1 u2 S HS.out).mono ?_
  rintro e w9 ⟨e9, hb10⟩
  clear r0 r1 r2 r3
  clear p0 p1 p2 q0 q1 q2 q3 s0 s1 s2 z1 z2 z4
  rw [HMM.out, HES.out] at e9
  subst e9
  generalize hQQ : qualR E M = Q at *
  have HQQ := Lib.hid hQQ
  clear hQQ
  have hb10' := hb9'.trans (hb10.mono hb9'.size)
  clear hb10 hb9'
  obtain ⟨k1, k2, k4, _, _, _, _⟩ := ENV.out w9 hb10'
  obtain ⟨p0, p1, p2, _⟩ := k1.c3
  obtain ⟨q0, q1, q2, q3, _⟩ := k2.c4
  obtain ⟨s0, s1, s2, _⟩ := k4.c3
  have z1 := k1.2.2
  have z2 := k2.2.2
  have z4 := k4.2.2
  clear k1 k2 k4
  go_wp2_with fail
  obtain ⟨_, _, _, r0, r1, r2, r3⟩ := ENV.out _ hb10'
  refine (refQuality_any W H W' H' m P A A' pix dark light np cp n c n' c' _ r0 r1 r2 HNP.out HN.out HN'.out u0 u1 u2 S HS.out).mono ?_
  rintro e w10 ⟨e10, hb11⟩
  clear r0 r1 r2 r3
  clear p0 p1 p2 q0 q1 q2 q3 s0 s1 s2 z1 z2 z4
  rw [HMM.out, HES.out, HQQ.out] at e10
  subst e10
  have hb11' := hb10'.trans (hb11.mono hb10'.size)
  clear hb11 hb10'
  obtain ⟨k1, k2, k4, _, _, _, _⟩ := ENV.out w10 hb11'
  obtain ⟨p0, p1, p2, _⟩ := k1.c3
  obtain ⟨q0, q1, q2, q3, _⟩ := k2.c4
  obtain ⟨s0, s1, s2, _⟩ := k4.c3
  have z1 := k1.2.2
  have z2 := k2.2.2
  have z4 := k4.2.2
  clear k1 k2 k4
  obtain ⟨_, _, _, r0, _, _, r3⟩ := ENV.out _ hb11'
  have cv1 := conv_rd c1 r3 HNP.out u0
  have cv2 := conv_rd cp r0 HNP.out u0
  have HFIN := Lib.hid (HBW.out.trans (hb11'.mono HBW.out.size))
  clear r0 r3 hb11'
  generalize strOfNums pix = str at *
  go_wp2_with fail
  go_ret
  exact ⟨by simp, HFIN.out⟩
end Go.Proofs.Ytjelnbfnoliocaa

