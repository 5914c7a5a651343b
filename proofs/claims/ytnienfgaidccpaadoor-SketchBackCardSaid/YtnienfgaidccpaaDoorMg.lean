/- Sketch: the walk of SketchOpened. No condition. -/
import Derived.Test.YtnienfgaidccpaaDoorMf
namespace Go.Proofs.YtnienfgaidccpaaDoor
open Go.RowKit Go.Shelf
attribute [local go_sem] Oper.semAt_some

theorem runF_get {F : Nat → Option (Nat × Nat)} : ∀ (n : Nat) (L : List Nat) (m : Nat), runF F n = some (L, m) → ∀ j (hj : j < L.length), ∃ d, F j = some (L[j], d) := by
  intro n
  induction n with
  | zero =>
    intro L m h j hj
    simp only [runF, Option.some.injEq, Prod.mk.injEq] at h
    obtain ⟨rfl, -⟩ := h
    simp at hj
  | succ n ih =>
    intro L m h j hj
    simp only [runF] at h
    split at h
    · rename_i L' m' x d h1 h2
      simp only [Option.some.injEq, Prod.mk.injEq] at h
      obtain ⟨rfl, -⟩ := h
      have hl := runF_len _ _ _ h1
      by_cases hjn : j < n
      · obtain ⟨d', hd⟩ := ih _ _ h1 j (by omega)
        exact ⟨d', by rw [hd, List.getElem_append_left (by omega)]⟩
      · simp only [List.length_append, List.length_cons, List.length_nil] at hj
        obtain rfl : j = n := by omega
        refine ⟨d, ?_⟩
        rw [h2, List.getElem_append_right (by omega)]
        simp [hl]
    · cases h
theorem opnR_cases (k : Int) (h : List Nat) (tg : Int) (t : List Nat) : (opnR k h tg t = ([], 2)) ∨ (opnR k h tg t = ([], 51)) ∨ ∃ L, opnR k h tg t = (L, 0) ∧ opnB k h t = true ∧ (tagF L : Int) = tg ∧ ∃ m, runF (opnF (kd k.toNat) h t) t.length = some (L, m) := by
  unfold opnR
  split
  · next hb =>
    right
    unfold opnO
    split
    · next L m hr =>
      split
      · next ht => exact .inr ⟨L, rfl, hb, ht, m, hr⟩
      · exact .inl rfl
    · exact .inl rfl
  · exact .inl rfl
theorem opened_plain {c : Kd} {h t L : List Nat} {m : Nat} (hl : t.length = h.length) (hr : runF (opnF c h t) t.length = some (L, m)) :
    L.length = t.length ∧ (∀ x ∈ L, x < 2 ^ c.k) ∧ ∀ j (h1 : j < (comN c t L t.length).length) (h2 : j < h.length), cnt ((comN c t L t.length)[j] ^^^ h[j]) ≤ c.t := by
  have hL := runF_len _ _ _ hr
  have hg := runF_get _ _ _ hr
  refine ⟨hL, fun x hx => ?_, fun j h1 h2 => ?_⟩
  · obtain ⟨j, hj, rfl⟩ := List.getElem_of_mem hx
    obtain ⟨d, hd⟩ := hg j hj
    have := Kd.near_some _ _ _ hd
    simpa using this.2.1
  · have hj : j < t.length := by rwa [comN_len] at h1
    obtain ⟨d, hd⟩ := hg j (by omega)
    rw [opnF_eq c hj h2] at hd
    obtain ⟨-, -, g3, g4⟩ := Kd.near_some _ _ _ hd
    simp only at g3 g4
    have e : (comN c t L t.length)[j] = t[j] ^^^ c.code L[j] := by simp [comN, List.getD, List.getElem?_eq_getElem hj, List.getElem?_eq_getElem (show j < L.length by omega)]
    rw [e, Nat.xor_assoc, Nat.xor_comm (c.code _) _, ← Nat.xor_assoc, ← g3]
    exact g4
theorem far_bel {a b : Nat} {v : Value} (K : ∀ W, Calls Tryd.prog 34 #[.int .u16 (a : Nat), .int .u16 (b : Nat)] W fun e w' => e = .returned v ∧ W = w') (W : World) :
    Calls Tryd.prog 34 #[.int .u16 (a : Nat), .int .u16 (b : Nat)] W fun e w' => e = .returned v ∧ Below W.heap.size W w' := by
  refine (K W).mono ?_
  rintro e w' ⟨rfl, rfl⟩
  exact ⟨rfl, Below.refl _ _⟩
set_option maxRecDepth 100000 in
set_option maxHeartbeats 4000000 in
theorem openedLaw_any (kx tgx : Int) (h sm : List Nat) (A1 A2 : Option Addr) (n1 n2 c1 c2 : Nat) (w : World) (hc : Cod w) (hk : 0 ≤ kx ∧ kx ≤ 255) (r1 : Rd w A1 (u16s h)) (r2 : Rd w A2 (u16s sm)) (e1 : n1 = h.length) (e2 : n2 = sm.length) :
    Calls Tryd.prog 12 #[.agg #[.int .u8 kx, .slice A1 n1 c1, .int .u32 tgx], .slice A2 n2 c2] w fun e w' => e = .returned (.bool true) ∧ Below w.heap.size w w' := by
  have HC := Lib.hid (fun W (h : Below w.heap.size w W) => hc.below h)
  have K27 := Lib.hid (fun W (h : Below w.heap.size w W) => alive_any W (HC.out W h))
  have S := Lib.hid ((Own.start w).new 25 #[.int .u8 kx, .slice A1 n1 c1, .int .u32 tgx])
  by_cases d1 : n1 ≤ 100
  case neg => as_aux_lemma =>
    have q1 : (100 : Int) < (n1 : Int) := by omega
    clear hc hk r1 r2 e1 e2 d1
    go_enter Tryd.func12, Tryd.ntmps12
    go_upto_region 1 with fail
    generalize (w.alloc _) = w0 at *
    obtain ⟨t0, t1, t2, _⟩ := (S.out.bx 0 rfl).c3
    have lt := (S.out.bx 0 rfl).2.2
    go_wp2_with fail
    refine (K27.out _ S.out.bel).mono ?_
    rintro e w1 ⟨rfl, hb1⟩
    replace S := Lib.hid (S.out.ext hb1)
    clear hb1 t0 t1 t2 lt
    obtain ⟨t0, t1, t2, _⟩ := (S.out.bx 0 rfl).c3
    have lt := (S.out.bx 0 rfl).2.2
    go_wp2_with fail
    go_ret
    exact ⟨rfl, S.out.bel⟩
  have q1 : ¬ (100 : Int) < (n1 : Int) := by omega
  by_cases d2 : n2 ≤ 100
  case neg => as_aux_lemma =>
    have q2 : (100 : Int) < (n2 : Int) := by omega
    clear hc hk r1 r2 e1 e2 d1 d2
    go_enter Tryd.func12, Tryd.ntmps12
    go_upto_region 1 with fail
    generalize (w.alloc _) = w0 at *
    obtain ⟨t0, t1, t2, _⟩ := (S.out.bx 0 rfl).c3
    have lt := (S.out.bx 0 rfl).2.2
    go_wp2_with fail
    refine (K27.out _ S.out.bel).mono ?_
    rintro e w1 ⟨rfl, hb1⟩
    replace S := Lib.hid (S.out.ext hb1)
    clear hb1 t0 t1 t2 lt
    obtain ⟨t0, t1, t2, _⟩ := (S.out.bx 0 rfl).c3
    have lt := (S.out.bx 0 rfl).2.2
    go_wp2_with fail
    go_ret
    exact ⟨rfl, S.out.bel⟩
  have q2 : ¬ (100 : Int) < (n2 : Int) := by omega
  have K25 := fun W (hb : Below w.heap.size w W) => open_any kx h tgx sm A1 A2 n1 n2 c1 c2 W (HC.out W hb) hk (r1.below hb) (r2.below hb) e1 e2
  unfold WsPost at K25
  rcases opnR_cases kx h tgx sm with ho | ho | ⟨L0, ho, hob, hot, m0, hr⟩
  iterate 2
    · as_aux_lemma =>
      rw [ho] at K25
      dsimp only at K25
      replace K25 := Lib.hid K25
      clear hc hk r1 r2 e1 e2 d1 d2 ho
      go_enter Tryd.func12, Tryd.ntmps12
      go_upto_region 1 with fail
      generalize (w.alloc _) = w0 at *
      obtain ⟨t0, t1, t2, _⟩ := (S.out.bx 0 rfl).c3
      have lt := (S.out.bx 0 rfl).2.2
      go_wp2_with fail
      refine (K27.out _ S.out.bel).mono ?_
      rintro e w1 ⟨rfl, hb1⟩
      replace S := Lib.hid (S.out.ext hb1)
      clear hb1 t0 t1 t2 lt
      obtain ⟨t0, t1, t2, _⟩ := (S.out.bx 0 rfl).c3
      have lt := (S.out.bx 0 rfl).2.2
      go_wp2_with fail
      refine (K25.out _ S.out.bel).mono ?_
      rintro e w2 ⟨A3, c3, rfl, hO⟩
      replace S := Lib.hid (S.out.call hO)
      clear hO t0 t1 t2 lt
      go_wp2_with fail
      go_ret
      exact ⟨rfl, S.out.bel⟩
  as_aux_lemma =>
  simp only [opnB, Bool.and_eq_true, decide_eq_true_eq] at hob
  obtain ⟨hkb, th, ts, hls⟩ := hob
  obtain ⟨m, rfl, hm1, hm3, hmt⟩ := kind_bd hkb
  rw [hmt] at hr
  obtain ⟨p1, p2, p3⟩ := opened_plain hls hr
  have hcr := comR_of (k := (m : Int)) (t := sm) (ms := L0) hkb ts p1 (by rw [hmt]; exact p2)
  rw [hmt] at hcr
  have hn2 : n2 = n1 := by omega
  have hL0 : L0.length = n1 := by omega
  have hsm : sm.length = n1 := by omega
  obtain ⟨b1, b2, b3⟩ := tmpl_bd th
  rw [ho] at K25
  dsimp only at K25
  rw [hL0] at K25
  replace K25 := Lib.hid K25
  have KC := fun A cp W (hb : Below w.heap.size w W) (hrr : Rd W A (u16s L0)) => commit_any m sm L0 A2 A n2 n1 c2 cp W (HC.out W hb) hk (r2.below hb) hrr e2 hL0.symm (by omega)
  rw [hcr] at KC
  unfold ComPost at KC
  dsimp only at KC
  rw [comN_len, hot, hsm] at KC
  rw [hsm] at p3
  replace KC := Lib.hid KC
  have KT := Lib.hid (fun W => T_any m hm1 hm3 W)
  have KF := Lib.hid (fun a b (ha : a < 2 ^ 16) (hb : b < 2 ^ 16) W => far_any a b ha hb W)
  have hh15 : ∀ x ∈ h, x < 2 ^ 15 := b3
  have hlt15 : ∀ x ∈ comN (kd m) sm L0 n1, x < 2 ^ 15 := by
    have := tmplB_com (kd_ok hm1 hm3) hsm hL0 ts p2
    exact (tmpl_bd this).2.2
  have HLL := Lib.hid (show (comN (kd m) sm L0 n1).length = n1 by rw [comN_len])
  have HP := Lib.hid p3
  have HH := Lib.hid (And.intro hh15 hlt15)
  have HN := Lib.hid e1
  have HR1 := Lib.hid (fun W (hb : Below w.heap.size w W) => r1.below hb)
  have HR2 := Lib.hid (fun W (hb : Below w.heap.size w W) => r2.below hb)
  have hn1 : 1 ≤ n1 := by omega
  have hn4 : n1 ≤ 4 := by omega
  generalize (kd m).t = T at *
  generalize comN (kd m) sm L0 n1 = D at *
  subst hn2
  clear hc hk r1 r2 e1 e2 d1 d2 ho hcr hot hkb th ts hls hmt hm1 hm3 p1 p2 p3 hL0 hsm b1 b2 b3 hr hh15 hlt15
  go_enter Tryd.func12, Tryd.ntmps12
  go_upto_region 1 with fail
  generalize (w.alloc _) = w0 at *
  obtain ⟨t0, t1, t2, _⟩ := (S.out.bx 0 rfl).c3
  have lt := (S.out.bx 0 rfl).2.2
  go_wp2_with fail
  refine (K27.out _ S.out.bel).mono ?_
  rintro e w1 ⟨rfl, hb1⟩
  replace S := Lib.hid (S.out.ext hb1)
  clear hb1 t0 t1 t2 lt
  obtain ⟨t0, t1, t2, _⟩ := (S.out.bx 0 rfl).c3
  have lt := (S.out.bx 0 rfl).2.2
  go_wp2_with fail
  refine (K25.out _ S.out.bel).mono ?_
  rintro e w2 ⟨A3, c3, rfl, hO⟩
  replace S := Lib.hid (S.out.call hO)
  clear hO t0 t1 t2 lt
  obtain ⟨t0, t1, t2, _⟩ := (S.out.bx 1 rfl).c3
  have lt := (S.out.bx 1 rfl).2.2
  go_wp2_with fail
  refine (KC.out _ _ _ S.out.bel (S.out.rd 0 rfl)).mono ?_
  rintro e w3 ⟨A4, c4, rfl, hO⟩
  replace S := Lib.hid (S.out.call hO)
  clear hO t0 t1 t2 lt
  go_upto_region 8 with fail
  replace S := Lib.hid ((S.out.new 25 #[.int .u8 (m : Nat), .slice A4 n2 c4, .int .u32 tgx]).sub [0, 1, 3] (by decide) (qs := [box w3.heap.size 25 [.int .u8 (m : Nat), .slice A4 n2 c4, .int .u32 tgx], row 41 1 (.slice A4 n2 c4) n2 (u16s D), box w.heap.size 25 [.int .u8 (m : Nat), .slice A1 n2 c1, .int .u32 tgx]]) rfl)
  generalize w3.alloc _ = w4 at *
  generalize w3.heap.size = B2 at *
  obtain ⟨t0, t1, t2, _⟩ := (S.out.bx 0 rfl).c3
  have lt := (S.out.bx 0 rfl).2.2
  obtain ⟨s0, s1, s2, _⟩ := (S.out.bx 2 rfl).c3
  have ls := (S.out.bx 2 rfl).2.2
  go_wp2_with fail
  clear t0 t1 t2 lt s0 s1 s2 ls
  go_loopg [75] n2 (fun q u75 wr => ∃ (i : Nat), i ≤ n2 ∧ u75 = .int .i64 (i : Nat) ∧ Hid (i + q = n2 ∧ Own w wr [box B2 25 [.int .u8 (m : Nat), .slice A4 n2 c4, .int .u32 tgx], row 41 1 (.slice A4 n2 c4) n2 (u16s D), box w.heap.size 25 [.int .u8 (m : Nat), .slice A1 n2 c1, .int .u32 tgx]]))
  case atStart => exact ⟨0, by omega, rfl, by omega, S.out⟩
  case round =>
    obtain ⟨i, hi, rfl, hI⟩ := hrel
    have I1 := Lib.hid hI.out.1
    have I2 := Lib.hid hI.out.2
    clear hI S
    by_cases hlt : i < n2
    case neg => as_aux_lemma =>
      have hni : ¬ (i : Int) < (n2 : Int) := by omega
      go_wp2_with fail
      go_ret
      exact ⟨rfl, I2.out.bel⟩
    have hix : (i : Int) < (n2 : Int) := by omega
    have hih : i < h.length := by rw [← HN.out]; exact hlt
    have hiD : i < D.length := by rw [HLL.out]; exact hlt
    obtain ⟨g, rfl⟩ := I2.out.rowAddr 1 rfl (by omega)
    have a5 := fun z : OwnOf w [box B2 25 [.int .u8 (m : Nat), .slice (some ⟨g, 0, none⟩) n2 c4, .int .u32 tgx], row 41 1 (.slice (some ⟨g, 0, none⟩) n2 c4) n2 (u16s D), box w.heap.size 25 [.int .u8 (m : Nat), .slice A1 n2 c1, .int .u32 tgx]] => z.own.rowAt 1 rfl (u16s_get hiD)
    obtain ⟨b0, off0, rfl, k0, l0⟩ := (HR1.out _ I2.out.bel).u16 hih
    have a6 := fun z : OwnOf w [box B2 25 [.int .u8 (m : Nat), .slice (some ⟨g, 0, none⟩) n2 c4, .int .u32 tgx], row 41 1 (.slice (some ⟨g, 0, none⟩) n2 c4) n2 (u16s D), box w.heap.size 25 [.int .u8 (m : Nat), .slice (some ⟨b0, off0, none⟩) n2 c1, .int .u32 tgx]] => (show z.wld.cell? ⟨b0, off0 + i, none⟩ = some (.int .u16 (h[i] : Nat)) by
      obtain ⟨b, o, e, h1, _⟩ := (HR1.out z.wld z.own.bel).u16 hih
      simp only [Option.some.injEq, Addr.mk.injEq] at e; obtain ⟨rfl, rfl, _⟩ := e
      exact h1)
    have a0 := fun z : OwnOf w [box B2 25 [.int .u8 (m : Nat), .slice (some ⟨g, 0, none⟩) n2 c4, .int .u32 tgx], row 41 1 (.slice (some ⟨g, 0, none⟩) n2 c4) n2 (u16s D), box w.heap.size 25 [.int .u8 (m : Nat), .slice (some ⟨b0, off0, none⟩) n2 c1, .int .u32 tgx]] => (z.bx 0 rfl).1 1 _ rfl
    have a1 := fun z : OwnOf w [box B2 25 [.int .u8 (m : Nat), .slice (some ⟨g, 0, none⟩) n2 c4, .int .u32 tgx], row 41 1 (.slice (some ⟨g, 0, none⟩) n2 c4) n2 (u16s D), box w.heap.size 25 [.int .u8 (m : Nat), .slice (some ⟨b0, off0, none⟩) n2 c1, .int .u32 tgx]] => (z.bx 2 rfl).1 1 _ rfl
    have a2 := fun z : OwnOf w [box B2 25 [.int .u8 (m : Nat), .slice (some ⟨g, 0, none⟩) n2 c4, .int .u32 tgx], row 41 1 (.slice (some ⟨g, 0, none⟩) n2 c4) n2 (u16s D), box w.heap.size 25 [.int .u8 (m : Nat), .slice (some ⟨b0, off0, none⟩) n2 c1, .int .u32 tgx]] => (z.bx 2 rfl).1 0 _ rfl
    have KF2 := Lib.hid (KF.out D[i] h[i] (Nat.lt_trans (HH.out.2 _ (List.getElem_mem hiD)) (by decide)) (Nat.lt_trans (HH.out.1 _ (List.getElem_mem hih)) (by decide)))
    have hle := HP.out i hiD hih
    have hleI : ¬ (T : Int) < (cnt (D[i] ^^^ h[i]) : Int) := by omega
    generalize cnt (D[i] ^^^ h[i]) = dd at *
    generalize D[i] = x at *
    generalize h[i] = y at *
    clear hle KC K25 K27 KF hiD hih
    as_aux_lemma =>
    go_upto_region 13 with fail
    have hne : Nonempty (OwnOf w [box B2 25 [.int .u8 (m : Nat), .slice (some ⟨g, 0, none⟩) n2 c4, .int .u32 tgx], row 41 1 (.slice (some ⟨g, 0, none⟩) n2 c4) n2 (u16s D), box w.heap.size 25 [.int .u8 (m : Nat), .slice (some ⟨b0, off0, none⟩) n2 c1, .int .u32 tgx]]) := ⟨⟨_, I2.out⟩⟩
    refine wp_region_own I2.out (by kernel_rfl) (by kernel_rfl) ?_
    iterate 10 (go_big_quiet_step (fail))
    go_big_quiet_step ((go_at_call 34; exact own_of (far_bel KF2.out _)))
    iterate 2 (go_big_quiet_step (fail))
    go_big_quiet_step ((go_at_call 33; exact own_of (KT.out _)))
    go_big_quiet_step (fail)
    refine wpQuiet_nil ?_
    rintro w7 ⟨z, hz⟩
    have S7 := Lib.hid (show Own w w7 [box B2 25 [.int .u8 (m : Nat), .slice (some ⟨g, 0, none⟩) n2 c4, .int .u32 tgx], row 41 1 (.slice (some ⟨g, 0, none⟩) n2 c4) n2 (u16s D), box w.heap.size 25 [.int .u8 (m : Nat), .slice (some ⟨b0, off0, none⟩) n2 c1, .int .u32 tgx]] by rw [hz]; exact z.own)
    clear hz z hne a0 a1 a2 a5 a6
    go_wp2_with fail
    go_roundg (gk - 1)
    case measure => have := I1.out; omega
    case rel => exact ⟨i + 1, by omega, by go_num, by have := I1.out; omega, S7.out⟩
end Go.Proofs.YtnienfgaidccpaaDoor
