/- Sketch: the walk of SketchBack. No condition. -/
import Derived.Test.YtnienfgaidccpaaDoorMi
namespace Go.Proofs.YtnienfgaidccpaaDoor
open Go.RowKit Go.Shelf
attribute [local go_sem] Oper.semAt_some

set_option maxRecDepth 100000 in
set_option maxHeartbeats 4000000 in
theorem backLaw_any (k : Int) (tp ms : List Nat) (ch : List Bys) (A1 A2 A3 : Option Addr) (n1 n2 n3 c1 c2 c3 : Nat) (w : World) (hc : Cod w) (hk : 0 ≤ k ∧ k ≤ 255) (r1 : Rd w A1 (u16s tp)) (r2 : Rd w A2 (u16s ms)) (r3 : Rd w A3 (ch.map byV)) (e1 : n1 = tp.length) (e2 : n2 = ms.length) (e3 : n3 = ch.length) (hch : ∀ b ∈ ch, BysOk w b) :
    Calls Tryd.prog 11 #[.int .u8 k, .slice A1 n1 c1, .slice A2 n2 c2, .slice A3 n3 c3] w fun e w' => e = .returned (.bool true) ∧ Below w.heap.size w w' := by
  have HC := Lib.hid (fun W (h : Below w.heap.size w W) => hc.below h)
  have K27 := Lib.hid (fun W (h : Below w.heap.size w W) => alive_any W (HC.out W h))
  have S := Lib.hid (Own.start w)
  by_cases d1 : n1 ≤ 100
  case neg => as_aux_lemma =>
    have g1 : (100 : Int) < (n1 : Int) := by omega
    clear hc hk r1 r2 r3 e1 e2 e3 hch d1
    go_enter Tryd.func11, Tryd.ntmps11
    go_wp2_with fail
    refine (K27.out _ S.out.bel).mono ?_
    rintro e w1 ⟨rfl, hb1⟩
    replace S := Lib.hid (S.out.ext hb1)
    clear hb1
    go_wp2_with fail
    go_ret
    exact ⟨rfl, S.out.bel⟩
  have g1 : ¬ (100 : Int) < (n1 : Int) := by omega
  by_cases d2 : n2 ≤ 100
  case neg => as_aux_lemma =>
    have g2 : (100 : Int) < (n2 : Int) := by omega
    clear hc hk r1 r2 r3 e1 e2 e3 hch d2
    go_enter Tryd.func11, Tryd.ntmps11
    go_wp2_with fail
    refine (K27.out _ S.out.bel).mono ?_
    rintro e w1 ⟨rfl, hb1⟩
    replace S := Lib.hid (S.out.ext hb1)
    clear hb1
    go_wp2_with fail
    go_ret
    exact ⟨rfl, S.out.bel⟩
  have g2 : ¬ (100 : Int) < (n2 : Int) := by omega
  by_cases d3 : n3 ≤ 100
  case neg => as_aux_lemma =>
    have g3 : (100 : Int) < (n3 : Int) := by omega
    clear hc hk r1 r2 r3 e1 e2 e3 hch d3
    go_enter Tryd.func11, Tryd.ntmps11
    go_wp2_with fail
    refine (K27.out _ S.out.bel).mono ?_
    rintro e w1 ⟨rfl, hb1⟩
    replace S := Lib.hid (S.out.ext hb1)
    clear hb1
    go_wp2_with fail
    go_ret
    exact ⟨rfl, S.out.bel⟩
  have g3 : ¬ (100 : Int) < (n3 : Int) := by omega
  have HR1 := Lib.hid (fun W (h : Below w.heap.size w W) => r1.below h)
  have HR2 := Lib.hid (fun W (h : Below w.heap.size w W) => r2.below h)
  have HR3 := Lib.hid (fun W (h : Below w.heap.size w W) => r3.below h)
  have HN1 := Lib.hid e1
  have HN2 := Lib.hid e2
  have HN3 := Lib.hid e3
  have HCH := Lib.hid hch
  have HK := Lib.hid hk
  clear hc hk r1 r2 r3 e1 e2 e3 hch
  go_enter Tryd.func11, Tryd.ntmps11
  go_wp2_with fail
  refine (K27.out _ S.out.bel).mono ?_
  rintro e w1 ⟨rfl, hb1⟩
  replace S := Lib.hid (S.out.ext hb1)
  clear hb1
  go_wp2_with fail
  go_loopg [44] n3 (fun q u44 wr => ∃ (i : Nat), i ≤ n3 ∧ u44 = .int .i64 (i : Nat) ∧ Hid (i + q = n3 ∧ Own w wr [] ∧ ∀ j (hl : j < ch.length), j < i → ch[j].2.2.1 ≤ 20))
  case atStart => exact ⟨0, by omega, rfl, by omega, S.out, fun j _ hj => by omega⟩
  case round =>
    obtain ⟨i, hi, rfl, hI⟩ := hrel
    have I1 := Lib.hid hI.out.1
    have I2 := Lib.hid hI.out.2.1
    have I3 := Lib.hid hI.out.2.2
    clear hI S
    by_cases hlt : i < n3
    case pos =>
      have hix : (i : Int) < (n3 : Int) := by omega
      have hil : i < ch.length := by rw [← HN3.out]; exact hlt
      obtain ⟨b1, off1, rfl, l1, k1⟩ := (HR3.out _ I2.out.bel).at_ (show (ch.map byV)[i]? = some (byV ch[i]) by simp [hil])
      replace k1 := k1 i (byV ch[i]) (by simp [hil])
      obtain ⟨Ab, lb, nb, cb, hb⟩ : ∃ Ab lb nb cb, ch[i] = (Ab, lb, nb, cb) := ⟨_, _, _, _, rfl⟩
      rw [hb] at k1
      replace k1 : wr.cell? ⟨b1, off1 + i, none⟩ = some (.slice Ab nb cb) := k1
      by_cases h20 : nb ≤ 20
      case neg => as_aux_lemma =>
        have h20I : (20 : Int) < (nb : Int) := by omega
        clear hb
        go_wp2_with fail
        go_ret
        exact ⟨rfl, I2.out.bel⟩
      as_aux_lemma =>
      have h20I : ¬ (20 : Int) < (nb : Int) := by omega
      have HB := Lib.hid hb
      clear hb
      go_wp2_with fail
      go_roundg (gk - 1)
      case measure => have := I1.out; omega
      case rel => exact ⟨i + 1, by omega, by go_num, by have := I1.out; omega, I2.out, fun j hl hj => by
        by_cases e : j = i
        · subst e; rw [HB.out]; exact h20
        · exact I3.out j hl (by omega)⟩
    have hni : ¬ (i : Int) < (n3 : Int) := by omega
    have HCK := Lib.hid (fun b (hb : b ∈ ch) => (show BysOk w b ∧ b.2.2.1 ≤ 20 by
      refine ⟨HCH.out b hb, ?_⟩
      obtain ⟨j, hj, rfl⟩ := List.getElem_of_mem hb
      exact I3.out j hj (by have := HN3.out; omega)))
    have KS := Lib.hid (fun W (h : Below w.heap.size w W) => sketch_main k tp A1 n1 c1 W (HC.out W h) HK.out (HR1.out W h) HN1.out)
    unfold WsPost at KS
    clear I1 I3 HCH hi hlt
    by_cases h0 : skE k tp = 0
    case neg => as_aux_lemma =>
      have h2 : skE k tp = 2 := (skE_cases k tp).resolve_left h0
      rw [h2] at KS
      clear h0 h2
      go_wp2_with fail
      refine (KS.out _ I2.out.bel).mono ?_
      rintro e v1 ⟨A4, c4, rfl, hO⟩
      have S1 := Lib.hid (I2.out.ext hO.bel)
      clear hO
      go_wp2_with fail
      go_ret
      exact ⟨rfl, S1.out.bel⟩
    obtain ⟨hkb, ttp⟩ := skE_ok h0
    obtain ⟨m, rfl, hm1, hm3, hmt⟩ := kind_bd hkb
    have hok := kd_ok hm1 hm3
    obtain ⟨b1, b2, b3⟩ := tmpl_bd ttp
    have hs := (skL_of hkb ttp).1
    rw [hmt] at hs
    rw [h0, hs] at KS
    have ln : tp.length = n1 := HN1.out.symm
    rw [List.length_map, ln] at KS
    have hn4 : n1 ≤ 4 := by omega
    have KCH := Lib.hid (fun W (h : Below w.heap.size w W) => changed_any tp ch A1 A3 n1 n3 c1 c3 W (HR1.out W h) (HR3.out W h) HN1.out HN3.out b3 (fun b hb => ⟨⟨(HCK.out b hb).1.1, (HCK.out b hb).1.2.below h⟩, (HCK.out b hb).2⟩) hn4)
    have hsim15 := chL_lt ch n1 b3
    have tsim : tmplB (chL tp ch n1) = true := tmplB_of (by rw [chL_len]; omega) (by rw [chL_len]; omega) hsim15
    have hsk : ∀ x ∈ tp.map (kd m).rest, x < 2 ^ (kd m).f := by
      intro x hx
      obtain ⟨y, hy, rfl⟩ := List.mem_map.1 hx
      exact Kd.rest_lt hok (b3 y hy)
    have hrec := recR_of (k := (m : Int)) (sk := tp.map (kd m).rest) (t := chL tp ch n1) hkb tsim (by rw [List.length_map, chL_len, ln]) (by rw [hmt]; exact hsk)
    rw [hmt, chL_len] at hrec
    have KR := fun A cp A' cp' W (h : Below w.heap.size w W) (hr : Rd W A (u16s (tp.map (kd m).rest))) (hr' : Rd W A' (u16s (chL tp ch n1))) => recover_any m (tp.map (kd m).rest) (chL tp ch n1) A A' n1 n1 cp cp' W (HC.out W h) HK.out hr hr' (by rw [List.length_map, ln]) (by rw [chL_len]) (by omega)
    have KC := fun W (h : Below w.heap.size w W) => commit_any m tp ms A1 A2 n1 n2 c1 c2 W (HC.out W h) HK.out (HR1.out W h) (HR2.out W h) HN1.out HN2.out (by omega)
    have KT := Lib.hid (fun W => T_any m hm1 hm3 W)
    have hT3 := hok.sum.2.2.2.2.1
    have hsu := sumN_le tp ch n1
    have hmo := mostN_le tp ch n1
    by_cases hmost : mostN tp ch n1 ≤ (kd m).t
    · have hr := rec_near hok ln b3 hmost n1 (Nat.le_refl _)
      rw [List.take_of_length_le (by omega)] at hr
      rw [hr] at hrec
      have hmI : (mostN tp ch n1 : Int) ≤ ((kd m).t : Int) := by omega
      unfold RecPost at KR
      rw [hrec] at KR
      unfold recO at KR
      dsimp only at KR
      rw [ln] at KR
      replace KR := Lib.hid KR
      have KSW := Lib.hid (fun A cp W (hr : Rd W A (u16s tp)) (hr' : Rd W A1 (u16s tp)) => sameWords_true tp A A1 n1 n1 cp c1 W hr hr' HN1.out HN1.out (by omega))
      unfold ComPost at KC
      rcases comR_cases m tp ms with hco | ⟨-, hlo, hco⟩
      · as_aux_lemma =>
        rw [hco] at KC
        dsimp only at KC
        replace KC := Lib.hid KC
        clear hco hr hrec hmost hsu hmo hT3 hsk tsim hsim15 ln hs b1 b2 b3 hok hm1 hm3 hmt ttp hkb h0
        generalize (kd m).t = T at *
        generalize mostN tp ch n1 = MM at *
        generalize sumN tp ch n1 = SS at *
        go_wp2_with fail
        refine (KS.out _ I2.out.bel).mono ?_
        rintro e v1 ⟨A4, c4, rfl, hO⟩
        have S1 := Lib.hid (I2.out.call hO)
        clear hO
        go_wp2_with fail
        refine (KCH.out _ S1.out.bel).mono ?_
        rintro e v2 ⟨A5, c5, rfl, hO⟩
        have S2 := Lib.hid (S1.out.call hO)
        clear hO S1
        go_wp2_with fail
        refine (KR.out _ _ _ _ _ S2.out.bel (S2.out.rd 1 rfl) (S2.out.rd 0 rfl)).mono ?_
        rintro e v3 ⟨A6, c6, rfl, hO⟩
        have S3 := Lib.hid (S2.out.call hO)
        clear hO S2
        go_wp2_with fail
        refine (KC.out _ S3.out.bel).mono ?_
        rintro e v4 ⟨A7, c7, rfl, hO⟩
        have S4 := Lib.hid (S3.out.call hO)
        clear hO S3
        go_upto_region 16 with fail
        have S5 := Lib.hid (S4.out.new 25 #[.int .u8 0, .slice A7 0 c7, .int .u32 0])
        generalize v4.alloc _ = v5 at *
        generalize v4.heap.size = B5 at *
        clear S4
        go_wp2_with fail
        refine (KT.out _).mono ?_
        rintro e v6 ⟨rfl, hb6⟩
        have S6 := Lib.hid (S5.out.ext hb6)
        clear hb6 S5
        go_wp2_with fail
        refine (KSW.out _ _ _ (S6.out.rd 2 rfl) (HR1.out _ S6.out.bel)).mono ?_
        rintro e v7 ⟨rfl, hb7⟩
        have S7 := Lib.hid (S6.out.ext hb7)
        clear hb7 S6
        go_wp2_with fail
        go_ret
        exact ⟨rfl, S7.out.bel⟩
      · as_aux_lemma =>
        rw [hmt] at hco
        have hms : ∀ x ∈ ms, x < 2 ^ (kd m).k := by
          have := comR_ms (k := (m : Int)) (t := tp) (ms := ms) (by rw [hco]; intro h; injection h with h1 h2; injection h2 with h2 h3; have := congrArg List.length h2; rw [comN_len] at this; simp at this; omega)
          rwa [hmt] at this
        rw [ln] at hco hlo
        rw [hco] at KC
        dsimp only at KC
        rw [comN_len] at KC
        replace KC := Lib.hid KC
        obtain ⟨dd, hop⟩ := open_near hok (t := tp) (ch := ch) hlo hms hmost n1 (Nat.le_refl _)
        rw [List.take_of_length_le (by omega)] at hop
        have tcom := tmplB_com hok ln hlo ttp hms
        have hopn := opnR_of (k := (m : Int)) (tg := (tagF ms : Int)) (h := comN (kd m) tp ms n1) (t := chL tp ch n1) hkb tcom tsim (by rw [chL_len, comN_len])
        rw [hmt, chL_len, hop] at hopn
        have hopn2 : opnR m (comN (kd m) tp ms n1) (tagF ms) (chL tp ch n1) = (ms, 0) := by rw [hopn]; unfold opnO; simp
        have KO := fun A cp A' cp' W (h : Below w.heap.size w W) (hr : Rd W A (u16s (comN (kd m) tp ms n1))) (hr' : Rd W A' (u16s (chL tp ch n1))) => open_any m (comN (kd m) tp ms n1) (tagF ms) (chL tp ch n1) A A' n1 n1 cp cp' W (HC.out W h) HK.out hr hr' (by rw [comN_len]) (by rw [chL_len])
        rw [hopn2] at KO
        unfold WsPost at KO
        dsimp only at KO
        have hn2 : n2 = n1 := by rw [HN2.out, hlo]
        rw [hlo] at KO
        replace KO := Lib.hid KO
        subst hn2
        have KW := Lib.hid (fun A cp W (hr : Rd W A (u16s ms)) (hr' : Rd W A2 (u16s ms)) => words_true ms A A2 n2 n2 cp c2 W hr hr' HN2.out HN2.out (by omega))
        clear hopn hopn2 hop tcom hms hlo hco hr hrec hmost hsu hmo hT3 hsk tsim hsim15 ln hs b1 b2 b3 hok hm1 hm3 hmt ttp hkb h0
        generalize (kd m).t = T at *
        generalize mostN tp ch n2 = MM at *
        generalize sumN tp ch n2 = SS at *
        go_wp2_with fail
        refine (KS.out _ I2.out.bel).mono ?_
        rintro e v1 ⟨A4, c4, rfl, hO⟩
        have S1 := Lib.hid (I2.out.call hO)
        clear hO
        go_wp2_with fail
        refine (KCH.out _ S1.out.bel).mono ?_
        rintro e v2 ⟨A5, c5, rfl, hO⟩
        have S2 := Lib.hid (S1.out.call hO)
        clear hO S1
        go_wp2_with fail
        refine (KR.out _ _ _ _ _ S2.out.bel (S2.out.rd 1 rfl) (S2.out.rd 0 rfl)).mono ?_
        rintro e v3 ⟨A6, c6, rfl, hO⟩
        have S3 := Lib.hid (S2.out.call hO)
        clear hO S2
        go_wp2_with fail
        refine (KC.out _ S3.out.bel).mono ?_
        rintro e v4 ⟨A7, c7, rfl, hO⟩
        have S4 := Lib.hid (S3.out.call hO)
        clear hO S3
        go_upto_region 16 with fail
        have S5 := Lib.hid (S4.out.new 25 #[.int .u8 (m : Nat), .slice A7 n2 c7, .int .u32 (tagF ms : Nat)])
        generalize v4.alloc _ = v5 at *
        generalize v4.heap.size = B5 at *
        clear S4
        go_wp2_with fail
        refine (KT.out _).mono ?_
        rintro e v6 ⟨rfl, hb6⟩
        have S6 := Lib.hid (S5.out.ext hb6)
        clear hb6 S5
        go_wp2_with fail
        refine (KSW.out _ _ _ (S6.out.rd 2 rfl) (HR1.out _ S6.out.bel)).mono ?_
        rintro e v7 ⟨rfl, hb7⟩
        have S7 := Lib.hid (S6.out.ext hb7)
        clear hb7 S6
        obtain ⟨t0, t1, t2, _⟩ := (S7.out.bx 0 rfl).c3
        have lt := (S7.out.bx 0 rfl).2.2
        go_wp2_with fail
        refine (KO.out _ _ _ _ _ S7.out.bel (S7.out.rd 1 rfl) (S7.out.rd 3 rfl)).mono ?_
        rintro e v8 ⟨A8, c8, rfl, hO⟩
        have S8 := Lib.hid (S7.out.call hO)
        clear hO t0 t1 t2 lt S7
        go_wp2_with fail
        refine (KW.out _ _ _ (S8.out.rd 0 rfl) (HR2.out _ S8.out.bel)).mono ?_
        rintro e v9 ⟨rfl, hb9⟩
        have S9 := Lib.hid (S8.out.ext hb9)
        clear hb9 S8
        go_wp2_with fail
        go_ret
        exact ⟨rfl, S9.out.bel⟩
    obtain ⟨kc, Lc, tc, ec, hcr⟩ : ∃ kc Lc tc ec, comR m tp ms = (kc, Lc, tc, ec) := ⟨_, _, _, _, rfl⟩
    unfold ComPost at KC
    rw [hcr] at KC
    dsimp only at KC
    obtain ⟨nc, hnc⟩ : ∃ nc, Lc.length = nc := ⟨_, rfl⟩
    rw [hnc] at KC
    replace KC := Lib.hid KC
    have hmI : ¬ (mostN tp ch n1 : Int) ≤ ((kd m).t : Int) := by omega
    clear hcr hnc
    cases hr : runF (recF (kd m) (chL tp ch n1) (tp.map (kd m).rest)) n1 with
    | none => as_aux_lemma =>
      rw [hr] at hrec
      unfold RecPost at KR
      rw [hrec] at KR
      unfold recO at KR
      dsimp only at KR
      replace KR := Lib.hid KR
      clear hr hrec hmost hsu hmo hT3 hsk tsim hsim15 ln hs b1 b2 b3 hok hm1 hm3 hmt ttp hkb h0
      generalize (kd m).t = T at *
      generalize mostN tp ch n1 = MM at *
      generalize sumN tp ch n1 = SS at *
      go_wp2_with fail
      refine (KS.out _ I2.out.bel).mono ?_
      rintro e v1 ⟨A4, c4, rfl, hO⟩
      have S1 := Lib.hid (I2.out.call hO)
      clear hO
      go_wp2_with fail
      refine (KCH.out _ S1.out.bel).mono ?_
      rintro e v2 ⟨A5, c5, rfl, hO⟩
      have S2 := Lib.hid (S1.out.call hO)
      clear hO S1
      go_wp2_with fail
      refine (KR.out _ _ _ _ _ S2.out.bel (S2.out.rd 1 rfl) (S2.out.rd 0 rfl)).mono ?_
      rintro e v3 ⟨A6, c6, rfl, hO⟩
      have S3 := Lib.hid (S2.out.call hO)
      clear hO S2
      go_wp2_with fail
      refine (KC.out _ S3.out.bel).mono ?_
      rintro e v4 ⟨A7, c7, rfl, hO⟩
      have S4 := Lib.hid (S3.out.call hO)
      clear hO S3
      go_upto_region 16 with fail
      have S5 := Lib.hid (S4.out.new 25 #[.int .u8 kc, .slice A7 nc c7, .int .u32 (tc : Nat)])
      generalize v4.alloc _ = v5 at *
      generalize v4.heap.size = B5 at *
      clear S4
      go_wp2_with fail
      refine (KT.out _).mono ?_
      rintro e v6 ⟨rfl, hb6⟩
      have S6 := Lib.hid (S5.out.ext hb6)
      clear hb6 S5
      go_wp2_with fail
      go_ret
      exact ⟨rfl, S6.out.bel⟩
    | some Ld => as_aux_lemma =>
      obtain ⟨LL, dd⟩ := Ld
      rw [hr] at hrec
      have hr2 : runF (recF (kd m) (chL tp ch n1) (tp.map (kd m).rest)) (chL tp ch n1).length = some (LL, dd) := by rw [chL_len]; exact hr
      obtain ⟨p1, p2, p3, p4⟩ := rec_some hsim15 (by rw [List.length_map, chL_len, ln]) hr2
      rw [chL_len] at p1
      unfold RecPost at KR
      rw [hrec] at KR
      unfold recO at KR
      dsimp only at KR
      rw [p1] at KR
      replace KR := Lib.hid KR
      have tLL := tmplB_of (l := LL) (by omega) (by omega) p2
      obtain ⟨q1, q2⟩ := skL_of (k := (m : Int)) hkb tLL
      rw [hmt, p3] at q1
      have KS2 := fun A cp W (h : Below w.heap.size w W) (hr : Rd W A (u16s LL)) => sketch_main m LL A n1 cp W (HC.out W h) HK.out hr p1.symm
      rw [q1, q2] at KS2
      unfold WsPost at KS2
      rw [List.length_map, ln] at KS2
      replace KS2 := Lib.hid KS2
      have KW := Lib.hid (fun A cp A' cp' W (hr : Rd W A (u16s (tp.map (kd m).rest))) (hr' : Rd W A' (u16s (tp.map (kd m).rest))) => words_true (tp.map (kd m).rest) A A' n1 n1 cp cp' W hr hr' (by rw [List.length_map, ln]) (by rw [List.length_map, ln]) (by omega))
      have KF := Lib.hid (fun a b (ha : a < 2 ^ 16) (hb : b < 2 ^ 16) W => far_any a b ha hb W)
      have HL := Lib.hid (And.intro p1 (show (chL tp ch n1).length = n1 by rw [chL_len]))
      have HP := Lib.hid p4
      have HH := Lib.hid (And.intro p2 hsim15)
      have hn1 : 1 ≤ n1 := by omega
      clear hr2 p1 p2 p3 p4 tLL q1 q2 hr hrec hmost hsu hmo hT3 hsk tsim hsim15 ln hs b1 b2 b3 hok hm1 hm3 hmt ttp hkb h0
      generalize (kd m).t = T at *
      generalize mostN tp ch n1 = MM at *
      generalize sumN tp ch n1 = SS at *
      generalize chL tp ch n1 = SM at *
      generalize tp.map (kd m).rest = SK at *
      go_wp2_with fail
      refine (KS.out _ I2.out.bel).mono ?_
      rintro e v1 ⟨A4, c4, rfl, hO⟩
      have S1 := Lib.hid (I2.out.call hO)
      clear hO
      go_wp2_with fail
      refine (KCH.out _ S1.out.bel).mono ?_
      rintro e v2 ⟨A5, c5, rfl, hO⟩
      have S2 := Lib.hid (S1.out.call hO)
      clear hO S1
      go_wp2_with fail
      refine (KR.out _ _ _ _ _ S2.out.bel (S2.out.rd 1 rfl) (S2.out.rd 0 rfl)).mono ?_
      rintro e v3 ⟨A6, c6, rfl, hO⟩
      have S3 := Lib.hid (S2.out.call hO)
      clear hO S2
      go_wp2_with fail
      refine (KC.out _ S3.out.bel).mono ?_
      rintro e v4 ⟨A7, c7, rfl, hO⟩
      have S4 := Lib.hid (S3.out.call hO)
      clear hO S3
      go_upto_region 16 with fail
      have S5 := Lib.hid (S4.out.new 25 #[.int .u8 kc, .slice A7 nc c7, .int .u32 (tc : Nat)])
      generalize v4.alloc _ = v5 at *
      generalize v4.heap.size = B5 at *
      clear S4
      go_wp2_with fail
      refine (KT.out _).mono ?_
      rintro e v6 ⟨rfl, hb6⟩
      have S6 := Lib.hid (S5.out.ext hb6)
      clear hb6 S5
      go_wp2_with fail
      refine (KS2.out _ _ _ S6.out.bel (S6.out.rd 2 rfl)).mono ?_
      rintro e v7 ⟨A8, c8, rfl, hO⟩
      have S7 := Lib.hid (S6.out.call hO)
      clear hO S6
      go_wp2_with fail
      refine (KW.out _ _ _ _ _ (S7.out.rd 0 rfl) (S7.out.rd 5 rfl)).mono ?_
      rintro e v8 ⟨rfl, hb8⟩
      have S8 := Lib.hid ((S7.out.sub [3, 4] (by decide) (qs := [row 41 1 (.slice A6 n1 c6) n1 (u16s LL), row 41 1 (.slice A5 n1 c5) n1 (u16s SM)]) rfl).ext hb8)
      clear hb8 S7
      go_wp2_with fail
      go_loopg [145] n1 (fun q u145 wq => ∃ (j : Nat), j ≤ n1 ∧ u145 = .int .i64 (j : Nat) ∧ Hid (j + q = n1 ∧ Own w wq [row 41 1 (.slice A6 n1 c6) n1 (u16s LL), row 41 1 (.slice A5 n1 c5) n1 (u16s SM)]))
      case atStart => exact ⟨0, by omega, rfl, by omega, S8.out⟩
      case round =>
        obtain ⟨G1, rfl⟩ : ∃ G1 : Nat, G1 = gk := ⟨_, rfl⟩
        obtain ⟨j, hj, rfl, hJ⟩ := hrel
        have J1 := Lib.hid hJ.out.1
        have J2 := Lib.hid hJ.out.2
        clear hJ S8
        by_cases hjt : j < n1
        case neg => as_aux_lemma =>
          have hnj : ¬ (j : Int) < (n1 : Int) := by omega
          go_wp2_with fail
          go_ret
          exact ⟨rfl, J2.out.bel⟩
        have hjI : (j : Int) < (n1 : Int) := by omega
        have h6 : j < LL.length := by rw [HL.out.1]; exact hjt
        have h5 : j < SM.length := by rw [HL.out.2]; exact hjt
        obtain ⟨g6, rfl⟩ := J2.out.rowAddr 0 rfl (by omega)
        obtain ⟨g5, rfl⟩ := J2.out.rowAddr 1 rfl (by omega)
        have a6 := fun z : OwnOf w [row 41 1 (.slice (some ⟨g6, 0, none⟩) n1 c6) n1 (u16s LL), row 41 1 (.slice (some ⟨g5, 0, none⟩) n1 c5) n1 (u16s SM)] => z.own.rowAt 0 rfl (u16s_get h6)
        have a5 := fun z : OwnOf w [row 41 1 (.slice (some ⟨g6, 0, none⟩) n1 c6) n1 (u16s LL), row 41 1 (.slice (some ⟨g5, 0, none⟩) n1 c5) n1 (u16s SM)] => z.own.rowAt 1 rfl (u16s_get h5)
        have KF2 := Lib.hid (KF.out LL[j] SM[j] (Nat.lt_trans (HH.out.1 _ (List.getElem_mem h6)) (by decide)) (Nat.lt_trans (HH.out.2 _ (List.getElem_mem h5)) (by decide)))
        have hle := HP.out j h6 h5
        have hleI : ¬ (T : Int) < (cnt (LL[j] ^^^ SM[j]) : Int) := by omega
        generalize cnt (LL[j] ^^^ SM[j]) = dd at *
        generalize LL[j] = x at *
        generalize SM[j] = y at *
        clear hle KC KS KCH KR KF K27 KS2 KW h6 h5
        as_aux_lemma =>
        go_upto_region 31 with fail
        have hne : Nonempty (OwnOf w [row 41 1 (.slice (some ⟨g6, 0, none⟩) n1 c6) n1 (u16s LL), row 41 1 (.slice (some ⟨g5, 0, none⟩) n1 c5) n1 (u16s SM)]) := ⟨⟨_, J2.out⟩⟩
        refine wp_region_own J2.out (by kernel_rfl) (by kernel_rfl) ?_
        iterate 8 (go_big_quiet_step (fail))
        go_big_quiet_step ((go_at_call 34; exact own_of (far_bel KF2.out _)))
        go_big_quiet_step (fail)
        go_big_quiet_step ((go_at_call 33; exact own_of (KT.out _)))
        go_big_quiet_step (fail)
        refine wpQuiet_nil ?_
        rintro w7 ⟨z, hz⟩
        have S7 := Lib.hid (show Own w w7 [row 41 1 (.slice (some ⟨g6, 0, none⟩) n1 c6) n1 (u16s LL), row 41 1 (.slice (some ⟨g5, 0, none⟩) n1 c5) n1 (u16s SM)] by rw [hz]; exact z.own)
        clear hz z hne a6 a5
        go_wp2_with fail
        go_roundg (G1 - 1)
        case measure => have := J1.out; omega
        case rel => exact ⟨j + 1, by omega, by go_num, by have := J1.out; omega, S7.out⟩
end Go.Proofs.YtnienfgaidccpaaDoor
