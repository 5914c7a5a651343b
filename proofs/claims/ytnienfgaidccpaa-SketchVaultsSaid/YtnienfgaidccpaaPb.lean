/- Sketch: the reference's secret through some places: the walk. No condition. -/
import Derived.Test.YtnienfgaidccpaaPa
namespace Go.Proofs.Ytnienfgaidccpaa
open Go.RowKit Go.Shelf
attribute [local go_sem] Oper.semAt_some

theorem invR_rng (a : Int) : 0 ≤ invR a ∧ invR a < 31 := by
  unfold invR
  cases h : ((List.range 30).map fun (i : Nat) => ((i : Int) + 1)).find? fun b => a * b % 31 == 1 with
  | none => simp
  | some b =>
    have := List.mem_of_find?_eq_some h
    simp only [List.mem_map, List.mem_range] at this
    obtain ⟨k, hk, rfl⟩ := this
    simp only [Option.getD_some]
    omega
theorem zeros_tab (n : Nat) : List.replicate n (0 : Int) = tab n fun _ => 0 := by
  apply List.ext_getElem <;> simp [tab]
theorem In31.set {l : List Int} (h : In31 l) (k : Nat) {x : Int} (hx : 0 ≤ x ∧ x < 31) : In31 (l.set k x) := fun s hs => by
  rcases List.mem_or_eq_of_mem_set hs with h1 | h1
  · exact h s h1
  · rw [h1]; exact hx
theorem mulB {a b m n : Int} (ha : 0 ≤ a ∧ a ≤ m) (hb : 0 ≤ b ∧ b ≤ n) : 0 ≤ a * b ∧ a * b ≤ m * n := ⟨Int.mul_nonneg ha.1 hb.1, Int.mul_le_mul ha.2 hb.2 hb.1 (by omega)⟩
set_option maxRecDepth 100000 in
set_option maxHeartbeats 8000000 in
theorem refThrough_any (v ps : List Int) (A A' : Option Addr) (n n' c c' : Nat) (w : World) (hv : Rd w A (i64s v)) (hp : Rd w A' (i64s ps)) (hn : n = v.length) (hn' : n' = ps.length) (h31 : n = 31) (h4 : n' ≤ 4) (vi : In31 v) (pi : In31 ps) :
    Calls Try.prog 33 #[.slice A n c, .slice A' n' c'] w (OneRow n' (lag (vaV v) ps) w) := by
  have HV := Lib.hid (fun W (h : Below w.heap.size w W) => hv.below h)
  have HP := Lib.hid (fun W (h : Below w.heap.size w W) => hp.below h)
  have HN := Lib.hid hn
  have HN' := Lib.hid hn'
  have HVI := Lib.hid vi
  have HPI := Lib.hid pi
  have H31 := Lib.hid h31
  have KI := Lib.hid (fun a ha W1 => refInverse_any a ha W1)
  have HTH := Lib.hid (show lag (vaV v) ps = lagS (vaV v) (ps.take 0) (ps.drop 0) (tab n' fun _ => 0) by
    rw [List.drop_zero, List.take_zero, lag, ← zeros_tab, hn'])
  have hmk := makeI n' (by omega)
  generalize lag (vaV v) ps = TH at *
  clear hv hp hn hn' vi pi h31
  obtain ⟨Bo, hBo⟩ : ∃ B, B = w.heap.size := ⟨_, rfl⟩
  have S0 := Lib.hid ((((Own.start w).new' 3 (madeCells #[.int .i64 0] n') hBo).asRow (size := 1) (n := n') 0 rfl (by rw [madeI64, i64s_len, tab_len]; simp) (by unfold maxLen; omega)).cast (qs := [row 3 1 (.slice (some ⟨Bo, 0, none⟩) n' n') n' (i64s (tab n' fun _ => 0))]) (by rw [madeI64]; rfl))
  go_enter Try.func33, Try.ntmps33
  go_upto_region 2 with fail
  rw [← hBo]
  clear hBo hmk
  generalize w.alloc _ = w0 at *
  go_wp2_with fail
  go_loopg [6] n' (fun q u6 wr => ∃ j : Nat, j ≤ n' ∧ u6 = .int .i64 (j : Nat) ∧ Hid (∃ O, TH = lagS (vaV v) (ps.take j) (ps.drop j) O ∧ O.length = n' ∧ In31 O ∧ j + q = n' ∧ Own w wr [row 3 1 (.slice (some ⟨Bo, 0, none⟩) n' n') n' (i64s O)]))
  case atStart => exact ⟨0, by omega, rfl, tab n' fun _ => 0, HTH.out, tab_len _ _, (fun s hs => by obtain ⟨_, _, rfl⟩ := List.mem_map.1 hs; omega), by omega, S0.out⟩
  case round =>
    obtain ⟨j, hj, rfl, hI⟩ := hrel
    obtain ⟨O, q1, q2, q3, q4, q5⟩ := hI.out
    have I1 := Lib.hid q1
    have I2 := Lib.hid q2
    have I3 := Lib.hid q3
    have I4 := Lib.hid q4
    have I5 := Lib.hid q5
    clear hI q1 q2 q3 q4 q5 HTH S0
    by_cases hlt : j < n'
    case neg => as_aux_lemma =>
      obtain rfl : j = n' := by omega
      have HE := Lib.hid (show TH = O by rw [I1.out, List.drop_of_length_le (by rw [← HN'.out]; exact Nat.le_refl _)]; rfl)
      have hni : ¬ (j : Int) < (j : Int) := by omega
      go_wp2_with fail
      go_ret
      exact ⟨_, _, rfl, by rw [HE.out]; exact I5.out⟩
    obtain ⟨G1, rfl⟩ : ∃ G1 : Nat, G1 = gk := ⟨_, rfl⟩
    obtain ⟨wq, rfl⟩ : ∃ wq : World, wq = wr := ⟨_, rfl⟩
    have hjl : j < ps.length := by rw [← HN'.out]; exact hlt
    have hjx : (j : Int) < (n' : Int) := by omega
    have zj : IntKind.i64.wrap ((j : Int) + 1) = ((j + 1 : Nat) : Int) := by rw [show (j : Int) + 1 = ((j + 1 : Nat) : Int) by omega]; exact IntWalk.i64_in _ (by omega)
    obtain ⟨b0, off, rfl, k0, l0⟩ := (HP.out _ I5.out.bel).i64 hjl
    have HPR := Lib.hid (fun (i : Nat) (hi : i < ps.length) W (h : Below w.heap.size w W) => (show W.cell? ⟨b0, off + i, none⟩ = some (.int .i64 ps[i]) ∧ b0 < W.heap.size by
      obtain ⟨b, o, e, h1, h2⟩ := (HP.out W h).i64 hi
      simp only [Option.some.injEq, Addr.mk.injEq] at e
      obtain ⟨rfl, rfl, _⟩ := e
      exact ⟨h1, h2⟩))
    have HPX := Lib.hid (HPR.out j hjl)
    have hx := HPI.out _ (List.getElem_mem hjl)
    have HD := Lib.hid (show TH = lagS (vaV v) (ps.take (j + 1)) (ps.drop (j + 1)) (addL O (lagP ps[j] [vaV v ps[j]] (remP ps j 0))) by rw [I1.out, lagS_step _ hjl])
    generalize ps[j] = x at *
    obtain ⟨xn, rfl⟩ : ∃ xn : Nat, x = xn := ⟨x.toNat, by omega⟩
    have hxl : xn < v.length := by have := HN.out; have := H31.out; omega
    have hxn : (xn : Int) < (n : Int) := by have := H31.out; omega
    rw [vaV_at hxl] at HD
    obtain ⟨b1, off1, rfl, k1, l1⟩ := (HV.out _ I5.out.bel).i64 hxl
    have hy := HVI.out _ (List.getElem_mem hxl)
    generalize v[xn] = y at *
    obtain ⟨PF, hPF⟩ : ∃ PF, PF = lagP (xn : Int) [y] (remP ps j 0) := ⟨_, rfl⟩
    rw [← hPF] at HD
    have HPF := Lib.hid hPF
    have HPL := Lib.hid (show PF.length = n' by rw [hPF, lagP_len, remP_len hjl, ← HN'.out]; simp; omega)
    clear hxl hPF I1
    obtain ⟨B1, hB1⟩ : ∃ B, B = wq.heap.size := ⟨_, rfl⟩
    have S6 := Lib.hid (((I5.out.new' 3 #[.int .i64 y] hB1).asRow (size := 1) (n := 1) 0 rfl rfl (by unfold maxLen; omega)).cast (qs := [row 3 1 (.slice (some ⟨B1, 0, none⟩) 1 1) 1 (i64s [y]), row 3 1 (.slice (some ⟨Bo, 0, none⟩) n' n') n' (i64s O)]) rfl)
    go_upto_region 6 with fail
    rw [← hB1]
    clear hB1 I5 k0 l0 k1 l1
    generalize wq.alloc _ = w6 at *
    go_wp2_with fail
    go_loopg [7, 8] n' (fun q u7 u8 wr => ∃ i Bp pl : Nat, i ≤ n' ∧ 1 ≤ pl ∧ pl ≤ i + 1 ∧ u7 = .slice (some ⟨Bp, 0, none⟩) pl pl ∧ u8 = .int .i64 (i : Nat) ∧ Hid (∃ P, PF = lagP (xn : Int) P (remP ps j i) ∧ P.length = pl ∧ In31 P ∧ i + q = n' ∧ Own w wr [row 3 1 (.slice (some ⟨Bp, 0, none⟩) pl pl) pl (i64s P), row 3 1 (.slice (some ⟨Bo, 0, none⟩) n' n') n' (i64s O)]))
    case atStart => exact ⟨0, B1, 1, by omega, by omega, by omega, rfl, rfl, [y], HPF.out, rfl, (fun s hs => by simp at hs; omega), by omega, S6.out⟩
    case round =>
      obtain ⟨i, Bp, pl, hi, hp1, hp2, rfl, rfl, hI⟩ := hrel
      obtain ⟨P, q1, q2, q3, q4, q5⟩ := hI.out
      have J1 := Lib.hid q1
      have J2 := Lib.hid q2
      have J3 := Lib.hid q3
      have J4 := Lib.hid q4
      have J5 := Lib.hid q5
      clear hI q1 q2 q3 q4 q5 S6 HPF
      by_cases hi' : i < n'
      · have hii : (i : Int) < (n' : Int) := by omega
        have zi : IntKind.i64.wrap ((i : Int) + 1) = ((i + 1 : Nat) : Int) := by rw [show (i : Int) + 1 = ((i + 1 : Nat) : Int) by omega]; exact IntWalk.i64_in _ (by omega)
        by_cases hij : i = j
        · as_aux_lemma =>
          have HE := Lib.hid (show PF = lagP (xn : Int) P (remP ps j (i + 1)) by rw [J1.out, hij, remP_skip])
          have hij' : ((i : Int) == (j : Int)) = true := by simp; omega
          have hij2 : (i : Int) = (j : Int) := by omega
          clear hij J1
          go_wp2_with fail
          go_roundg (gk - 1)
          case measure => have := J4.out; omega
          case rel => exact ⟨i + 1, Bp, pl, by omega, hp1, by omega, rfl, by go_num, P, HE.out, J2.out, J3.out, by have := J4.out; omega, J5.out⟩
        as_aux_lemma =>
        have hil : i < ps.length := by rw [← HN'.out]; exact hi'
        have hij' : ((i : Int) == (j : Int)) = false := by simp; omega
        have HCR := Lib.hid (HPR.out i hil)
        have hr := HPI.out _ (List.getElem_mem hil)
        have HE := Lib.hid (show PF = lagP (xn : Int) (lagMul (invR (((xn : Int) - ps[i] + 31) % 31)) ps[i] P) (remP ps j (i + 1)) by rw [J1.out, remP_step hil hjl hij, lagP])
        generalize ps[i] = r at *
        have z1 : IntKind.i64.wrap ((xn : Int) - r) = (xn : Int) - r := IntWalk.i64_in _ (by omega)
        have z2 : IntKind.i64.wrap ((xn : Int) - r + 31) = (xn : Int) - r + 31 := IntWalk.i64_in _ (by omega)
        have z3 : ((xn : Int) - r + 31).tmod 31 = ((xn : Int) - r + 31) % 31 := Int.tmod_eq_emod_of_nonneg (by omega)
        have ha : 0 ≤ ((xn : Int) - r + 31) % 31 ∧ ((xn : Int) - r + 31) % 31 < 31 := by omega
        have z4 : IntKind.i64.wrap (((xn : Int) - r + 31) % 31) = ((xn : Int) - r + 31) % 31 := IntWalk.i64_in _ (by omega)
        have hb := invR_rng (((xn : Int) - r + 31) % 31)
        have KV := Lib.hid (KI.out _ ha)
        generalize invR (((xn : Int) - r + 31) % 31) = b at *
        generalize ((xn : Int) - r + 31) % 31 = a0 at *
        have fx0 := fun Z : OwnOf w [row 3 1 (.slice (some ⟨Bp, 0, none⟩) pl pl) pl (i64s P), row 3 1 (.slice (some ⟨Bo, 0, none⟩) n' n') n' (i64s O)] => (HPX.out Z.wld Z.own.bel).1
        have fx1 := fun Z : OwnOf w [row 3 1 (.slice (some ⟨Bp, 0, none⟩) pl pl) pl (i64s P), row 3 1 (.slice (some ⟨Bo, 0, none⟩) n' n') n' (i64s O)] => (HCR.out Z.wld Z.own.bel).1
        have fx2 := fun Z : OwnOf w [row 3 1 (.slice (some ⟨Bp, 0, none⟩) pl pl) pl (i64s P), row 3 1 (.slice (some ⟨Bo, 0, none⟩) n' n') n' (i64s O)] => (HCR.out Z.wld Z.own.bel).2
        have hne : Nonempty (OwnOf w [row 3 1 (.slice (some ⟨Bp, 0, none⟩) pl pl) pl (i64s P), row 3 1 (.slice (some ⟨Bo, 0, none⟩) n' n') n' (i64s O)]) := ⟨⟨_, J5.out⟩⟩
        clear hij hil J1
        go_upto_region 10 with fail
        refine wp_region_own J5.out (by kernel_rfl) (by kernel_rfl) ?_
        iterate 11 (go_big_quiet_step (fail))
        go_big_quiet_step ((go_at_call 37; exact own_same (KV.out _)))
        go_big_quiet_step (fail)
        refine wpQuiet_nil ?_
        rintro w7 ⟨Z, hZ⟩
        have S7 := Lib.hid (show Own w w7 [row 3 1 (.slice (some ⟨Bp, 0, none⟩) pl pl) pl (i64s P), row 3 1 (.slice (some ⟨Bo, 0, none⟩) n' n') n' (i64s O)] by rw [hZ]; exact Z.own)
        clear hZ Z hne fx0 fx1 fx2 KV J5 z1 z2 z3 z4
        obtain ⟨nl, hnl⟩ : ∃ nl, nl = pl + 1 := ⟨_, rfl⟩
        have hmk2 : ∀ W : World, (Instr.makeSlice 22 (.int .i64 ((pl : Int) + 1)) (.int .i64 ((pl : Int) + 1))).run Try.prog W = .ok (.slice (some ⟨W.heap.size, 0, none⟩) nl nl) (W.alloc (.cells (madeCells #[.int .i64 0] nl) 3)) := fun W => by
          have := makeI nl (by omega) W
          rwa [show ((nl : Nat) : Int) = (pl : Int) + 1 by omega] at this
        have HNL := Lib.hid hnl
        have hnl6 : nl ≤ 6 := by omega
        clear hnl
        obtain ⟨Bn, hBn⟩ : ∃ B, B = w7.heap.size := ⟨_, rfl⟩
        have S8 := Lib.hid (((S7.out.new' 3 (madeCells #[.int .i64 0] nl) hBn).asRow (size := 1) (n := nl) 0 rfl (by rw [madeI64, i64s_len, tab_len]; simp) (by unfold maxLen; omega)).cast (qs := [row 3 1 (.slice (some ⟨Bn, 0, none⟩) nl nl) nl (i64s (tab nl fun _ => 0)), row 3 1 (.slice (some ⟨Bp, 0, none⟩) pl pl) pl (i64s P), row 3 1 (.slice (some ⟨Bo, 0, none⟩) n' n') n' (i64s O)]) (by rw [madeI64]; rfl))
        go_upto_region 12 with fail
        rw [← hBn]
        clear hBn S7 hmk2
        generalize w7.alloc _ = w8 at *
        go_wp2_with fail
        obtain ⟨G2, rfl⟩ : ∃ G2 : Nat, G2 = gk := ⟨_, rfl⟩
        obtain ⟨LM, hLM⟩ : ∃ LM, LM = lagMul b r P := ⟨_, rfl⟩
        rw [← hLM] at HE
        have HLM := Lib.hid hLM
        clear hLM
        go_loopg [11] pl (fun q u11 wr => ∃ k : Nat, k ≤ pl ∧ u11 = .int .i64 (k : Nat) ∧ Hid (∃ Nx, Nx.take k ++ lagAux b r (Nx.getD k 0) (P.drop k) = LM ∧ Nx.length = nl ∧ In31 Nx ∧ (∀ q, k < q → Nx.getD q 0 = 0) ∧ k + q = pl ∧ Own w wr [row 3 1 (.slice (some ⟨Bn, 0, none⟩) nl nl) nl (i64s Nx), row 3 1 (.slice (some ⟨Bp, 0, none⟩) pl pl) pl (i64s P), row 3 1 (.slice (some ⟨Bo, 0, none⟩) n' n') n' (i64s O)]))
        case atStart =>
          refine ⟨0, by omega, rfl, tab nl fun _ => 0, ?_, tab_len _ _, (fun s hs => by obtain ⟨_, _, rfl⟩ := List.mem_map.1 hs; omega), fun q _ => ?_, by omega, S8.out⟩
          · rw [HLM.out, List.take_zero, List.drop_zero, List.nil_append, ← zeros_tab, lagMul]
            congr 1
            rw [List.getD_eq_getElem?_getD, List.getElem?_replicate]
            split <;> rfl
          · rw [← zeros_tab, List.getD_eq_getElem?_getD, List.getElem?_replicate]
            split <;> rfl
        case round =>
          obtain ⟨k, hk, rfl, hI⟩ := hrel
          obtain ⟨Nx, q1, q2, q3, q4, q5, q6⟩ := hI.out
          have L1 := Lib.hid q1
          have L2 := Lib.hid q2
          have L3 := Lib.hid q3
          have L4 := Lib.hid q4
          have L0 := Lib.hid q5
          have L5 := Lib.hid q6
          clear hI q1 q2 q3 q4 q5 q6 S8 HLM
          by_cases hkl : k < pl
          case neg => as_aux_lemma =>
            obtain rfl : k = pl := by omega
            have hni : ¬ (k : Int) < (k : Int) := by omega
            have HX := Lib.hid (show Nx = LM from lagA_end (P := P) (by rw [L2.out, J2.out, HNL.out]) (by rw [J2.out]; exact L1.out))
            go_wp2_with fail
            go_roundg (G2 - 1)
            case measure => have := J4.out; omega
            case rel => exact ⟨i + 1, Bn, nl, by omega, by have := HNL.out; omega, by have := HNL.out; omega, rfl, by go_num, Nx, by rw [HX.out]; exact HE.out, L2.out, L3.out, by have := J4.out; omega, L5.out.sub [0, 2] (by decide) rfl⟩
          as_aux_lemma =>
          have hki : (k : Int) < (pl : Int) := by omega
          have hkn : (k : Int) < (nl : Int) := by have := HNL.out; omega
          have hkn1 : (k : Int) + 1 < (nl : Int) := by have := HNL.out; omega
          have hk0 : (0 : Int) ≤ (k : Int) + 1 := by omega
          have hk1 : ((k : Int) + 1).toNat = k + 1 := by omega
          have zk : IntKind.i64.wrap ((k : Int) + 1) = (k : Int) + 1 := IntWalk.i64_in _ (by omega)
          have hPk : k < P.length := by rw [J2.out]; exact hkl
          have hNk : k < Nx.length := by rw [L2.out]; have := HNL.out; omega
          have hNk1 : k + 1 < Nx.length := by rw [L2.out]; have := HNL.out; omega
          have HST := Lib.hid (lagA_step hPk (by rw [L2.out, J2.out, HNL.out]) L1.out)
          have HE1 := Lib.hid (L4.out (k + 1) (by omega))
          have CE := Lib.hid (i64s_getD hNk1)
          have CC0 := Lib.hid (i64s_getD hNk)
          have CT := Lib.hid (i64s_getD hPk)
          have gt := getD_in J3.out k
          have gc := getD_in L3.out k
          have HZ := Lib.hid L4.out
          generalize hE1 : Nx.getD (k + 1) 0 = e1 at *
          generalize hC1 : Nx.getD k 0 = cc at *
          generalize P.getD k 0 = t at *
          have he1 : e1 = 0 := HE1.out
          have m1 := mulB (show 0 ≤ t ∧ t ≤ 30 by omega) (show 0 ≤ b ∧ b ≤ 30 by omega)
          have y1 : IntKind.i64.wrap (t * b) = t * b := IntWalk.i64_in _ (by omega)
          have y2 : IntKind.i64.wrap (e1 + t * b) = e1 + t * b := IntWalk.i64_in _ (by omega)
          have y3 : (e1 + t * b).tmod 31 = (e1 + t * b) % 31 := Int.tmod_eq_emod_of_nonneg (by omega)
          have y4 : IntKind.i64.wrap ((e1 + t * b) % 31) = (e1 + t * b) % 31 := IntWalk.i64_in _ (by omega)
          have y5 : (t * b).tmod 31 = t * b % 31 := Int.tmod_eq_emod_of_nonneg (by omega)
          have y6 : IntKind.i64.wrap (t * b % 31) = t * b % 31 := IntWalk.i64_in _ (by omega)
          have y7 : IntKind.i64.wrap (31 - r) = 31 - r := IntWalk.i64_in _ (by omega)
          have m2 := mulB (show 0 ≤ t * b % 31 ∧ t * b % 31 ≤ 30 by omega) (show 0 ≤ 31 - r ∧ 31 - r ≤ 31 by omega)
          have y8 : IntKind.i64.wrap (t * b % 31 * (31 - r)) = t * b % 31 * (31 - r) := IntWalk.i64_in _ (by omega)
          have y9 : IntKind.i64.wrap (cc + t * b % 31 * (31 - r)) = cc + t * b % 31 * (31 - r) := IntWalk.i64_in _ (by omega)
          have ya : (cc + t * b % 31 * (31 - r)).tmod 31 = (cc + t * b % 31 * (31 - r)) % 31 := Int.tmod_eq_emod_of_nonneg (by omega)
          have yb : IntKind.i64.wrap ((cc + t * b % 31 * (31 - r)) % 31) = (cc + t * b % 31 * (31 - r)) % 31 := IntWalk.i64_in _ (by omega)
          obtain ⟨N1, hN1⟩ : ∃ N1, N1 = Nx.set (k + 1) ((e1 + t * b) % 31) := ⟨_, rfl⟩
          obtain ⟨N2, hN2⟩ : ∃ N2, N2 = N1.set k ((cc + t * b % 31 * (31 - r)) % 31) := ⟨_, rfl⟩
          have HN1 := Lib.hid (show (i64s Nx).set (k + 1) (.int .i64 ((e1 + t * b) % 31)) = i64s N1 by rw [i64s_set, hN1])
          have HN2 := Lib.hid (show (i64s N1).set k (.int .i64 ((cc + t * b % 31 * (31 - r)) % 31)) = i64s N2 by rw [i64s_set, hN2])
          have CC := Lib.hid (show (i64s N1)[k]? = some (.int .i64 cc) by rw [← HN1.out, List.getElem?_set_ne (by omega)]; exact CC0.out)
          have HS2 := Lib.hid (show N2.take (k + 1) ++ lagAux b r (N2.getD (k + 1) 0) (P.drop (k + 1)) = LM by
            have h1 := HST.out
            have h2 := hN1
            rw [he1] at h2
            rw [← h2, ← hN2] at h1
            exact h1)
          have HL2 := Lib.hid (show N2.length = nl by rw [hN2, List.length_set, hN1, List.length_set]; exact L2.out)
          have HI2 := Lib.hid (show In31 N2 by rw [hN2, hN1]; exact (L3.out.set (k + 1) (by omega)).set k (by omega))
          have HZ2 := Lib.hid (show ∀ q, k + 1 < q → N2.getD q 0 = 0 from fun q hq => by
            rw [hN2, hN1, List.getD_eq_getElem?_getD, List.getElem?_set_ne (by omega), List.getElem?_set_ne (by omega), ← List.getD_eq_getElem?_getD]
            exact HZ.out q (by omega))
          clear hPk hNk hNk1 HST HE1 CC0 gt gc HZ hE1 hC1 he1 m1 m2 hN1 hN2 L1 L3 L4
          go_upto_region 15 with fail
          refine wp_region_state 121 [(61, .slice (some ⟨Bn, 0, none⟩) nl nl), (62, .int .i64 (k : Nat)), (63, .int .i64 ((k : Int) + 1)), (64, .slice (some ⟨Bn, 0, none⟩) nl nl), (65, .int .i64 (k : Nat)), (66, .int .i64 ((k : Int) + 1)), (67, .pointer (some ⟨Bn, k + 1, none⟩)), (68, .int .i64 (e1)), (69, .slice (some ⟨Bp, 0, none⟩) pl pl), (70, .int .i64 (k : Nat)), (71, .pointer (some ⟨Bp, k, none⟩)), (72, .int .i64 (t)), (73, .int .i64 (b)), (74, .int .i64 (t * b)), (75, .int .i64 (e1 + t * b)), (76, .int .i64 ((e1 + t * b) % 31)), (77, .pointer (some ⟨Bn, k + 1, none⟩))] (fun L vs w' => Own w w' [row 3 1 (.slice (some ⟨Bn, 0, none⟩) nl nl) nl (cond (L 17) (i64s N1) (i64s Nx)), row 3 1 (.slice (some ⟨Bp, 0, none⟩) pl pl) pl (i64s P), row 3 1 (.slice (some ⟨Bo, 0, none⟩) n' n') n' (i64s O)]) (by kernel_rfl) (by kernel_rfl) [61, 62, 63, 64, 65, 66, 67, 68, 69, 70, 71, 72, 73, 74, 75, 76, 77] (by kernel_rfl) rfl (by kernel_rfl) 18 rfl ?_ ?_ ?_
          · exact fun L hL => (L5.out.ext (Below.refl _ _).drew).cast (by simp [hL 17 (by decide)])
          · refine ⟨StepS.of [] (by kernel_rfl) ?_, ?_⟩
            · intro L vs wq hL hA hC hJ
              unfold forAll
              exact StepV.val 61 (by kernel_rfl) (by kernel_rfl) rfl (by simp) rfl rfl hJ
            refine ⟨StepS.of [] (by kernel_rfl) ?_, ?_⟩
            · intro L vs wq hL hA hC hJ
              unfold forAll
              exact StepV.val 62 (by kernel_rfl) (by kernel_rfl) rfl (by simp) rfl rfl hJ
            refine ⟨StepS.of [62] (by kernel_rfl) ?_, ?_⟩
            · intro L vs wq hL hA hC hJ h62
              rw [(show vs 62 = .int .i64 (k : Nat) from h62)]
              unfold forAll
              exact StepV.val 63 (by kernel_rfl) (by go_simp) rfl (by simp [Act.put]) rfl rfl hJ
            refine ⟨StepS.of [] (by kernel_rfl) ?_, ?_⟩
            · intro L vs wq hL hA hC hJ
              unfold forAll
              exact StepV.val 64 (by kernel_rfl) (by kernel_rfl) rfl (by simp) rfl rfl hJ
            refine ⟨StepS.of [] (by kernel_rfl) ?_, ?_⟩
            · intro L vs wq hL hA hC hJ
              unfold forAll
              exact StepV.val 65 (by kernel_rfl) (by kernel_rfl) rfl (by simp) rfl rfl hJ
            refine ⟨StepS.of [65] (by kernel_rfl) ?_, ?_⟩
            · intro L vs wq hL hA hC hJ h65
              rw [(show vs 65 = .int .i64 (k : Nat) from h65)]
              unfold forAll
              exact StepV.val 66 (by kernel_rfl) (by go_simp) rfl (by simp [Act.put]) rfl rfl hJ
            refine ⟨StepS.of [64, 66] (by kernel_rfl) ?_, ?_⟩
            · intro L vs wq hL hA hC hJ h64 h66
              rw [(show vs 64 = .slice (some ⟨Bn, 0, none⟩) nl nl from h64), (show vs 66 = .int .i64 ((k : Int) + 1) from h66)]
              unfold forAll
              exact StepV.val 67 (by kernel_rfl) (by go_simp) rfl (by simp [Act.put]) rfl rfl hJ
            refine ⟨StepS.of [67] (by kernel_rfl) ?_, ?_⟩
            · intro L vs wq hL hA hC hJ h67
              rw [(show vs 67 = .pointer (some ⟨Bn, k + 1, none⟩) from h67)]
              unfold forAll
              have hs := hC.no (j := 17) (i := 7) (by kernel_rfl) hL
              have K := Own.cast (qs := [row 3 1 (.slice (some ⟨Bn, 0, none⟩) nl nl) nl (i64s Nx), row 3 1 (.slice (some ⟨Bp, 0, none⟩) pl pl) pl (i64s P), row 3 1 (.slice (some ⟨Bo, 0, none⟩) n' n') n' (i64s O)]) hJ (by simp [hs])
              have t0 := K.rowAt (g := Bn) 0 rfl (u := .int .i64 e1) (j := k + 1) CE.out
              have tl := (K.rowLt (g := Bn) 0 rfl).1
              exact StepV.val 68 (by kernel_rfl) (by go_simp) rfl (by simp [Act.put]) rfl rfl hJ
            refine ⟨StepS.of [] (by kernel_rfl) ?_, ?_⟩
            · intro L vs wq hL hA hC hJ
              unfold forAll
              exact StepV.val 69 (by kernel_rfl) (by kernel_rfl) rfl (by simp) rfl rfl hJ
            refine ⟨StepS.of [] (by kernel_rfl) ?_, ?_⟩
            · intro L vs wq hL hA hC hJ
              unfold forAll
              exact StepV.val 70 (by kernel_rfl) (by kernel_rfl) rfl (by simp) rfl rfl hJ
            refine ⟨StepS.of [69, 70] (by kernel_rfl) ?_, ?_⟩
            · intro L vs wq hL hA hC hJ h69 h70
              rw [(show vs 69 = .slice (some ⟨Bp, 0, none⟩) pl pl from h69), (show vs 70 = .int .i64 (k : Nat) from h70)]
              unfold forAll
              exact StepV.val 71 (by kernel_rfl) (by go_simp) rfl (by simp [Act.put]) rfl rfl hJ
            refine ⟨StepS.of [71] (by kernel_rfl) ?_, ?_⟩
            · intro L vs wq hL hA hC hJ h71
              rw [(show vs 71 = .pointer (some ⟨Bp, k, none⟩) from h71)]
              unfold forAll
              have hs := hC.no (j := 17) (i := 11) (by kernel_rfl) hL
              have K := Own.cast (qs := [row 3 1 (.slice (some ⟨Bn, 0, none⟩) nl nl) nl (i64s Nx), row 3 1 (.slice (some ⟨Bp, 0, none⟩) pl pl) pl (i64s P), row 3 1 (.slice (some ⟨Bo, 0, none⟩) n' n') n' (i64s O)]) hJ (by simp [hs])
              have t0 := K.rowAt (g := Bp) 1 rfl (u := .int .i64 t) (j := k) CT.out
              have tl := (K.rowLt (g := Bp) 1 rfl).1
              exact StepV.val 72 (by kernel_rfl) (by go_simp) rfl (by simp [Act.put]) rfl rfl hJ
            refine ⟨StepS.of [] (by kernel_rfl) ?_, ?_⟩
            · intro L vs wq hL hA hC hJ
              unfold forAll
              exact StepV.val 73 (by kernel_rfl) (by kernel_rfl) rfl (by simp) rfl rfl hJ
            refine ⟨StepS.of [72, 73] (by kernel_rfl) ?_, ?_⟩
            · intro L vs wq hL hA hC hJ h72 h73
              rw [(show vs 72 = .int .i64 (t) from h72), (show vs 73 = .int .i64 (b) from h73)]
              unfold forAll
              exact StepV.val 74 (by kernel_rfl) (by go_simp) rfl (by simp [Act.put]) rfl rfl hJ
            refine ⟨StepS.of [68, 74] (by kernel_rfl) ?_, ?_⟩
            · intro L vs wq hL hA hC hJ h68 h74
              rw [(show vs 68 = .int .i64 (e1) from h68), (show vs 74 = .int .i64 (t * b) from h74)]
              unfold forAll
              exact StepV.val 75 (by kernel_rfl) (by go_simp) rfl (by simp [Act.put]) rfl rfl hJ
            refine ⟨StepS.of [75] (by kernel_rfl) ?_, ?_⟩
            · intro L vs wq hL hA hC hJ h75
              rw [(show vs 75 = .int .i64 (e1 + t * b) from h75)]
              unfold forAll
              exact StepV.val 76 (by kernel_rfl) (by go_simp) rfl (by simp [Act.put]) rfl rfl hJ
            refine ⟨StepS.of [61, 63] (by kernel_rfl) ?_, ?_⟩
            · intro L vs wq hL hA hC hJ h61 h63
              rw [(show vs 61 = .slice (some ⟨Bn, 0, none⟩) nl nl from h61), (show vs 63 = .int .i64 ((k : Int) + 1) from h63)]
              unfold forAll
              exact StepV.val 77 (by kernel_rfl) (by go_simp) rfl (by simp [Act.put]) rfl rfl hJ
            refine ⟨StepS.of [77, 76] (by kernel_rfl) ?_, ?_⟩
            · intro L vs wq hL hA hC hJ h77 h76
              rw [(show vs 77 = .pointer (some ⟨Bn, k + 1, none⟩) from h77), (show vs 76 = .int .i64 ((e1 + t * b) % 31) from h76)]
              unfold forAll
              have K := Own.cast (qs := [row 3 1 (.slice (some ⟨Bn, 0, none⟩) nl nl) nl (i64s Nx), row 3 1 (.slice (some ⟨Bp, 0, none⟩) pl pl) pl (i64s P), row 3 1 (.slice (some ⟨Bo, 0, none⟩) n' n') n' (i64s O)]) hJ (by simp [hL])
              have t0 := K.rowAt (g := Bn) 0 rfl (u := .int .i64 e1) (j := k + 1) CE.out
              obtain ⟨tl, tf⟩ := K.rowLt (g := Bn) 0 rfl
              exact StepV.skip (by kernel_rfl) (by go_simp) rfl rfl ((K.setRow 0 rfl (k + 1) (.int .i64 ((e1 + t * b) % 31))).cast (by simp [upd, HN1.out]))
            exact trivial
          · intro vs wL6 hJ h61 h62 h63 h64 h65 h66 h67 h68 h69 h70 h71 h72 h73 h74 h75 h76 h77
            rw [(show vs 61 = .slice (some ⟨Bn, 0, none⟩) nl nl from h61), (show vs 62 = .int .i64 (k : Nat) from h62), (show vs 63 = .int .i64 ((k : Int) + 1) from h63), (show vs 64 = .slice (some ⟨Bn, 0, none⟩) nl nl from h64), (show vs 65 = .int .i64 (k : Nat) from h65), (show vs 66 = .int .i64 ((k : Int) + 1) from h66), (show vs 67 = .pointer (some ⟨Bn, k + 1, none⟩) from h67), (show vs 68 = .int .i64 (e1) from h68), (show vs 69 = .slice (some ⟨Bp, 0, none⟩) pl pl from h69), (show vs 70 = .int .i64 (k : Nat) from h70), (show vs 71 = .pointer (some ⟨Bp, k, none⟩) from h71), (show vs 72 = .int .i64 (t) from h72), (show vs 73 = .int .i64 (b) from h73), (show vs 74 = .int .i64 (t * b) from h74), (show vs 75 = .int .i64 (e1 + t * b) from h75), (show vs 76 = .int .i64 ((e1 + t * b) % 31) from h76), (show vs 77 = .pointer (some ⟨Bn, k + 1, none⟩) from h77)]
            clear h61 h62 h63 h64 h65 h66 h67 h68 h69 h70 h71 h72 h73 h74 h75 h76 h77
            have L6 := Lib.hid (Own.cast (qs := [row 3 1 (.slice (some ⟨Bn, 0, none⟩) nl nl) nl (i64s N1), row 3 1 (.slice (some ⟨Bp, 0, none⟩) pl pl) pl (i64s P), row 3 1 (.slice (some ⟨Bo, 0, none⟩) n' n') n' (i64s O)]) hJ rfl)
            clear hJ
            unfold forAll
            simp only [Act.put, List.setIfInBounds_toArray, List.set_cons_zero, List.set_cons_succ]
            clear L5
            go_upto_region 16 with fail
            refine wp_region_state 121 [(78, .slice (some ⟨Bn, 0, none⟩) nl nl), (79, .int .i64 (k : Nat)), (80, .slice (some ⟨Bn, 0, none⟩) nl nl), (81, .int .i64 (k : Nat)), (82, .pointer (some ⟨Bn, k, none⟩)), (83, .int .i64 (cc)), (84, .slice (some ⟨Bp, 0, none⟩) pl pl), (85, .int .i64 (k : Nat)), (86, .pointer (some ⟨Bp, k, none⟩)), (87, .int .i64 (t)), (88, .int .i64 (b)), (89, .int .i64 (t * b)), (90, .int .i64 (t * b % 31)), (91, (.slice (some ⟨b0, off, none⟩) n' c')), (92, .int .i64 (i : Nat)), (93, .pointer (some ⟨b0, off + i, none⟩)), (94, .int .i64 (r)), (95, .int .i64 (31 - r)), (96, .int .i64 (t * b % 31 * (31 - r))), (97, .int .i64 (cc + t * b % 31 * (31 - r))), (98, .int .i64 ((cc + t * b % 31 * (31 - r)) % 31)), (99, .pointer (some ⟨Bn, k, none⟩))] (fun L vs w' => Own w w' [row 3 1 (.slice (some ⟨Bn, 0, none⟩) nl nl) nl (cond (L 22) (i64s N2) (i64s N1)), row 3 1 (.slice (some ⟨Bp, 0, none⟩) pl pl) pl (i64s P), row 3 1 (.slice (some ⟨Bo, 0, none⟩) n' n') n' (i64s O)]) (by kernel_rfl) (by kernel_rfl) [78, 79, 80, 81, 82, 83, 84, 85, 86, 87, 88, 89, 90, 91, 92, 93, 94, 95, 96, 97, 98, 99] (by kernel_rfl) rfl (by kernel_rfl) 23 rfl ?_ ?_ ?_
            · exact fun L hL => (L6.out.ext (Below.refl _ _).drew).cast (by simp [hL 22 (by decide)])
            · refine ⟨StepS.of [] (by kernel_rfl) ?_, ?_⟩
              · intro L vs wq hL hA hC hJ
                unfold forAll
                exact StepV.val 78 (by kernel_rfl) (by kernel_rfl) rfl (by simp) rfl rfl hJ
              refine ⟨StepS.of [] (by kernel_rfl) ?_, ?_⟩
              · intro L vs wq hL hA hC hJ
                unfold forAll
                exact StepV.val 79 (by kernel_rfl) (by kernel_rfl) rfl (by simp) rfl rfl hJ
              refine ⟨StepS.of [] (by kernel_rfl) ?_, ?_⟩
              · intro L vs wq hL hA hC hJ
                unfold forAll
                exact StepV.val 80 (by kernel_rfl) (by kernel_rfl) rfl (by simp) rfl rfl hJ
              refine ⟨StepS.of [] (by kernel_rfl) ?_, ?_⟩
              · intro L vs wq hL hA hC hJ
                unfold forAll
                exact StepV.val 81 (by kernel_rfl) (by kernel_rfl) rfl (by simp) rfl rfl hJ
              refine ⟨StepS.of [80, 81] (by kernel_rfl) ?_, ?_⟩
              · intro L vs wq hL hA hC hJ h80 h81
                rw [(show vs 80 = .slice (some ⟨Bn, 0, none⟩) nl nl from h80), (show vs 81 = .int .i64 (k : Nat) from h81)]
                unfold forAll
                exact StepV.val 82 (by kernel_rfl) (by go_simp) rfl (by simp [Act.put]) rfl rfl hJ
              refine ⟨StepS.of [82] (by kernel_rfl) ?_, ?_⟩
              · intro L vs wq hL hA hC hJ h82
                rw [(show vs 82 = .pointer (some ⟨Bn, k, none⟩) from h82)]
                unfold forAll
                have hs := hC.no (j := 22) (i := 5) (by kernel_rfl) hL
                have K := Own.cast (qs := [row 3 1 (.slice (some ⟨Bn, 0, none⟩) nl nl) nl (i64s N1), row 3 1 (.slice (some ⟨Bp, 0, none⟩) pl pl) pl (i64s P), row 3 1 (.slice (some ⟨Bo, 0, none⟩) n' n') n' (i64s O)]) hJ (by simp [hs])
                have t0 := K.rowAt (g := Bn) 0 rfl (u := .int .i64 cc) (j := k) CC.out
                have tl := (K.rowLt (g := Bn) 0 rfl).1
                exact StepV.val 83 (by kernel_rfl) (by go_simp) rfl (by simp [Act.put]) rfl rfl hJ
              refine ⟨StepS.of [] (by kernel_rfl) ?_, ?_⟩
              · intro L vs wq hL hA hC hJ
                unfold forAll
                exact StepV.val 84 (by kernel_rfl) (by kernel_rfl) rfl (by simp) rfl rfl hJ
              refine ⟨StepS.of [] (by kernel_rfl) ?_, ?_⟩
              · intro L vs wq hL hA hC hJ
                unfold forAll
                exact StepV.val 85 (by kernel_rfl) (by kernel_rfl) rfl (by simp) rfl rfl hJ
              refine ⟨StepS.of [84, 85] (by kernel_rfl) ?_, ?_⟩
              · intro L vs wq hL hA hC hJ h84 h85
                rw [(show vs 84 = .slice (some ⟨Bp, 0, none⟩) pl pl from h84), (show vs 85 = .int .i64 (k : Nat) from h85)]
                unfold forAll
                exact StepV.val 86 (by kernel_rfl) (by go_simp) rfl (by simp [Act.put]) rfl rfl hJ
              refine ⟨StepS.of [86] (by kernel_rfl) ?_, ?_⟩
              · intro L vs wq hL hA hC hJ h86
                rw [(show vs 86 = .pointer (some ⟨Bp, k, none⟩) from h86)]
                unfold forAll
                have hs := hC.no (j := 22) (i := 9) (by kernel_rfl) hL
                have K := Own.cast (qs := [row 3 1 (.slice (some ⟨Bn, 0, none⟩) nl nl) nl (i64s N1), row 3 1 (.slice (some ⟨Bp, 0, none⟩) pl pl) pl (i64s P), row 3 1 (.slice (some ⟨Bo, 0, none⟩) n' n') n' (i64s O)]) hJ (by simp [hs])
                have t0 := K.rowAt (g := Bp) 1 rfl (u := .int .i64 t) (j := k) CT.out
                have tl := (K.rowLt (g := Bp) 1 rfl).1
                exact StepV.val 87 (by kernel_rfl) (by go_simp) rfl (by simp [Act.put]) rfl rfl hJ
              refine ⟨StepS.of [] (by kernel_rfl) ?_, ?_⟩
              · intro L vs wq hL hA hC hJ
                unfold forAll
                exact StepV.val 88 (by kernel_rfl) (by kernel_rfl) rfl (by simp) rfl rfl hJ
              refine ⟨StepS.of [87, 88] (by kernel_rfl) ?_, ?_⟩
              · intro L vs wq hL hA hC hJ h87 h88
                rw [(show vs 87 = .int .i64 (t) from h87), (show vs 88 = .int .i64 (b) from h88)]
                unfold forAll
                exact StepV.val 89 (by kernel_rfl) (by go_simp) rfl (by simp [Act.put]) rfl rfl hJ
              refine ⟨StepS.of [89] (by kernel_rfl) ?_, ?_⟩
              · intro L vs wq hL hA hC hJ h89
                rw [(show vs 89 = .int .i64 (t * b) from h89)]
                unfold forAll
                exact StepV.val 90 (by kernel_rfl) (by go_simp) rfl (by simp [Act.put]) rfl rfl hJ
              refine ⟨StepS.of [] (by kernel_rfl) ?_, ?_⟩
              · intro L vs wq hL hA hC hJ
                unfold forAll
                exact StepV.val 91 (by kernel_rfl) (by kernel_rfl) rfl (by simp) rfl rfl hJ
              refine ⟨StepS.of [] (by kernel_rfl) ?_, ?_⟩
              · intro L vs wq hL hA hC hJ
                unfold forAll
                exact StepV.val 92 (by kernel_rfl) (by kernel_rfl) rfl (by simp) rfl rfl hJ
              refine ⟨StepS.of [91, 92] (by kernel_rfl) ?_, ?_⟩
              · intro L vs wq hL hA hC hJ h91 h92
                rw [(show vs 91 = (.slice (some ⟨b0, off, none⟩) n' c') from h91), (show vs 92 = .int .i64 (i : Nat) from h92)]
                unfold forAll
                exact StepV.val 93 (by kernel_rfl) (by go_simp) rfl (by simp [Act.put]) rfl rfl hJ
              refine ⟨StepS.of [93] (by kernel_rfl) ?_, ?_⟩
              · intro L vs wq hL hA hC hJ h93
                rw [(show vs 93 = .pointer (some ⟨b0, off + i, none⟩) from h93)]
                unfold forAll
                have hs := hC.no (j := 22) (i := 16) (by kernel_rfl) hL
                have K := Own.cast (qs := [row 3 1 (.slice (some ⟨Bn, 0, none⟩) nl nl) nl (i64s N1), row 3 1 (.slice (some ⟨Bp, 0, none⟩) pl pl) pl (i64s P), row 3 1 (.slice (some ⟨Bo, 0, none⟩) n' n') n' (i64s O)]) hJ (by simp [hs])
                obtain ⟨t0, tl⟩ := HCR.out _ K.bel
                exact StepV.val 94 (by kernel_rfl) (by go_simp) rfl (by simp [Act.put]) rfl rfl hJ
              refine ⟨StepS.of [94] (by kernel_rfl) ?_, ?_⟩
              · intro L vs wq hL hA hC hJ h94
                rw [(show vs 94 = .int .i64 (r) from h94)]
                unfold forAll
                exact StepV.val 95 (by kernel_rfl) (by go_simp) rfl (by simp [Act.put]) rfl rfl hJ
              refine ⟨StepS.of [90, 95] (by kernel_rfl) ?_, ?_⟩
              · intro L vs wq hL hA hC hJ h90 h95
                rw [(show vs 90 = .int .i64 (t * b % 31) from h90), (show vs 95 = .int .i64 (31 - r) from h95)]
                unfold forAll
                exact StepV.val 96 (by kernel_rfl) (by go_simp) rfl (by simp [Act.put]) rfl rfl hJ
              refine ⟨StepS.of [83, 96] (by kernel_rfl) ?_, ?_⟩
              · intro L vs wq hL hA hC hJ h83 h96
                rw [(show vs 83 = .int .i64 (cc) from h83), (show vs 96 = .int .i64 (t * b % 31 * (31 - r)) from h96)]
                unfold forAll
                exact StepV.val 97 (by kernel_rfl) (by go_simp) rfl (by simp [Act.put]) rfl rfl hJ
              refine ⟨StepS.of [97] (by kernel_rfl) ?_, ?_⟩
              · intro L vs wq hL hA hC hJ h97
                rw [(show vs 97 = .int .i64 (cc + t * b % 31 * (31 - r)) from h97)]
                unfold forAll
                exact StepV.val 98 (by kernel_rfl) (by go_simp) rfl (by simp [Act.put]) rfl rfl hJ
              refine ⟨StepS.of [78, 79] (by kernel_rfl) ?_, ?_⟩
              · intro L vs wq hL hA hC hJ h78 h79
                rw [(show vs 78 = .slice (some ⟨Bn, 0, none⟩) nl nl from h78), (show vs 79 = .int .i64 (k : Nat) from h79)]
                unfold forAll
                exact StepV.val 99 (by kernel_rfl) (by go_simp) rfl (by simp [Act.put]) rfl rfl hJ
              refine ⟨StepS.of [99, 98] (by kernel_rfl) ?_, ?_⟩
              · intro L vs wq hL hA hC hJ h99 h98
                rw [(show vs 99 = .pointer (some ⟨Bn, k, none⟩) from h99), (show vs 98 = .int .i64 ((cc + t * b % 31 * (31 - r)) % 31) from h98)]
                unfold forAll
                have K := Own.cast (qs := [row 3 1 (.slice (some ⟨Bn, 0, none⟩) nl nl) nl (i64s N1), row 3 1 (.slice (some ⟨Bp, 0, none⟩) pl pl) pl (i64s P), row 3 1 (.slice (some ⟨Bo, 0, none⟩) n' n') n' (i64s O)]) hJ (by simp [hL])
                have t0 := K.rowAt (g := Bn) 0 rfl (u := .int .i64 cc) (j := k) CC.out
                obtain ⟨tl, tf⟩ := K.rowLt (g := Bn) 0 rfl
                exact StepV.skip (by kernel_rfl) (by go_simp) rfl rfl ((K.setRow 0 rfl (k) (.int .i64 ((cc + t * b % 31 * (31 - r)) % 31))).cast (by simp [upd, HN2.out]))
              exact trivial
            · intro vs wL7 hJ h78 h79 h80 h81 h82 h83 h84 h85 h86 h87 h88 h89 h90 h91 h92 h93 h94 h95 h96 h97 h98 h99
              rw [(show vs 78 = .slice (some ⟨Bn, 0, none⟩) nl nl from h78), (show vs 79 = .int .i64 (k : Nat) from h79), (show vs 80 = .slice (some ⟨Bn, 0, none⟩) nl nl from h80), (show vs 81 = .int .i64 (k : Nat) from h81), (show vs 82 = .pointer (some ⟨Bn, k, none⟩) from h82), (show vs 83 = .int .i64 (cc) from h83), (show vs 84 = .slice (some ⟨Bp, 0, none⟩) pl pl from h84), (show vs 85 = .int .i64 (k : Nat) from h85), (show vs 86 = .pointer (some ⟨Bp, k, none⟩) from h86), (show vs 87 = .int .i64 (t) from h87), (show vs 88 = .int .i64 (b) from h88), (show vs 89 = .int .i64 (t * b) from h89), (show vs 90 = .int .i64 (t * b % 31) from h90), (show vs 91 = (.slice (some ⟨b0, off, none⟩) n' c') from h91), (show vs 92 = .int .i64 (i : Nat) from h92), (show vs 93 = .pointer (some ⟨b0, off + i, none⟩) from h93), (show vs 94 = .int .i64 (r) from h94), (show vs 95 = .int .i64 (31 - r) from h95), (show vs 96 = .int .i64 (t * b % 31 * (31 - r)) from h96), (show vs 97 = .int .i64 (cc + t * b % 31 * (31 - r)) from h97), (show vs 98 = .int .i64 ((cc + t * b % 31 * (31 - r)) % 31) from h98), (show vs 99 = .pointer (some ⟨Bn, k, none⟩) from h99)]
              clear h78 h79 h80 h81 h82 h83 h84 h85 h86 h87 h88 h89 h90 h91 h92 h93 h94 h95 h96 h97 h98 h99
              have L7 := Lib.hid (Own.cast (qs := [row 3 1 (.slice (some ⟨Bn, 0, none⟩) nl nl) nl (i64s N2), row 3 1 (.slice (some ⟨Bp, 0, none⟩) pl pl) pl (i64s P), row 3 1 (.slice (some ⟨Bo, 0, none⟩) n' n') n' (i64s O)]) hJ rfl)
              clear hJ
              unfold forAll
              simp only [Act.put, List.setIfInBounds_toArray, List.set_cons_zero, List.set_cons_succ]
              clear L6
              have zk1 : IntKind.i64.wrap ((k : Int) + 1) = ((k + 1 : Nat) : Int) := by rw [zk]; omega
              clear zk
              go_wp2_with fail
              go_roundg (gk - 1)
              case measure => have := L0.out; omega
              case rel => exact ⟨k + 1, by omega, by go_num, N2, HS2.out, HL2.out, HI2.out, HZ2.out, by have := L0.out; omega, L7.out⟩
      obtain rfl : i = n' := by omega
      have HE := Lib.hid (show PF = P by have := J1.out; rw [HN'.out, remP_end hjl] at this; exact this)
      have hni : ¬ (i : Int) < (i : Int) := by omega
      obtain rfl : i = pl := by rw [← J2.out, ← HE.out]; exact HPL.out.symm
      have M0 := Lib.hid (J5.out.sub [1, 0] (by decide) (qs := [row 3 1 (.slice (some ⟨Bo, 0, none⟩) i i) i (i64s O), row 3 1 (.slice (some ⟨Bp, 0, none⟩) i i) i (i64s P)]) rfl)
      clear J1 J4 J5 HPR HPX
      go_wp2_with fail
      go_loopg [12] i (fun q u12 wr => ∃ k : Nat, k ≤ i ∧ u12 = .int .i64 (k : Nat) ∧ Hid (∃ O2, O2.take k ++ addL (O2.drop k) (P.drop k) = addL O P ∧ O2.length = i ∧ In31 O2 ∧ k + q = i ∧ Own w wr [row 3 1 (.slice (some ⟨Bo, 0, none⟩) i i) i (i64s O2), row 3 1 (.slice (some ⟨Bp, 0, none⟩) i i) i (i64s P)]))
      case atStart => exact ⟨0, by omega, rfl, O, rfl, I2.out, I3.out, by omega, M0.out⟩
      case round =>
        obtain ⟨k, hk, rfl, hI⟩ := hrel
        obtain ⟨O2, q1, q2, q3, q4, q5⟩ := hI.out
        have M1 := Lib.hid q1
        have M2 := Lib.hid q2
        have M3 := Lib.hid q3
        have MQ := Lib.hid q4
        have M4 := Lib.hid q5
        clear hI q1 q2 q3 q4 q5 M0
        by_cases hkl : k < i
        case neg => as_aux_lemma =>
          have hkp : k = i := by omega
          have HX := Lib.hid (show O2 = addL O PF by
            have := M1.out
            rw [List.drop_of_length_le (show P.length ≤ k by rw [J2.out]; omega), addL_nil, List.take_append_drop] at this
            rw [this, HE.out])
          have hni2 : ¬ (k : Int) < (i : Int) := by omega
          go_wp2_with fail
          go_roundg (G1 - 1)
          case measure => have := I4.out; omega
          case rel => exact ⟨j + 1, by omega, by go_num, O2, by rw [HX.out]; exact HD.out, M2.out, M3.out, by have := I4.out; omega, M4.out.sub [0] (by decide) rfl⟩
        as_aux_lemma =>
        have hki : (k : Int) < (i : Int) := by omega
        have hkn : (k : Int) < (i : Int) := by omega
        have zk : IntKind.i64.wrap ((k : Int) + 1) = ((k + 1 : Nat) : Int) := by rw [show (k : Int) + 1 = ((k + 1 : Nat) : Int) by omega]; exact IntWalk.i64_in _ (by omega)
        have hPk : k < P.length := by rw [J2.out]; exact hkl
        have hOk : k < O2.length := by rw [M2.out]; omega
        have HST := Lib.hid (addL_step hOk hPk M1.out)
        have CO := Lib.hid (i64s_getD hOk)
        have CP := Lib.hid (i64s_getD hPk)
        have go := getD_in M3.out k
        have gp := getD_in J3.out k
        generalize O2.getD k 0 = ok at *
        generalize P.getD k 0 = pk at *
        have y1 : IntKind.i64.wrap (ok + pk) = ok + pk := IntWalk.i64_in _ (by omega)
        have y2 : (ok + pk).tmod 31 = (ok + pk) % 31 := Int.tmod_eq_emod_of_nonneg (by omega)
        have y3 : IntKind.i64.wrap ((ok + pk) % 31) = (ok + pk) % 31 := IntWalk.i64_in _ (by omega)
        obtain ⟨O3, hO3⟩ : ∃ O3, O3 = O2.set k ((ok + pk) % 31) := ⟨_, rfl⟩
        rw [← hO3] at HST
        have HO3 := Lib.hid (show (i64s O2).set k (.int .i64 ((ok + pk) % 31)) = i64s O3 by rw [i64s_set, hO3])
        have HL3 := Lib.hid (show O3.length = i by rw [hO3, List.length_set]; exact M2.out)
        have HI3 := Lib.hid (show In31 O3 by rw [hO3]; exact M3.out.set k (by omega))
        clear hPk hOk go gp hO3 M1 M2 M3
        go_upto_region 21 with fail
        refine wp_region_state 121 [(107, .slice (some ⟨Bo, 0, none⟩) i i), (108, .int .i64 (k : Nat)), (109, .slice (some ⟨Bo, 0, none⟩) i i), (110, .int .i64 (k : Nat)), (111, .pointer (some ⟨Bo, k, none⟩)), (112, .int .i64 (ok)), (113, .slice (some ⟨Bp, 0, none⟩) i i), (114, .int .i64 (k : Nat)), (115, .pointer (some ⟨Bp, k, none⟩)), (116, .int .i64 (pk)), (117, .int .i64 (ok + pk)), (118, .int .i64 ((ok + pk) % 31)), (119, .pointer (some ⟨Bo, k, none⟩))] (fun L vs w' => Own w w' [row 3 1 (.slice (some ⟨Bo, 0, none⟩) i i) i (cond (L 13) (i64s O3) (i64s O2)), row 3 1 (.slice (some ⟨Bp, 0, none⟩) i i) i (i64s P)]) (by kernel_rfl) (by kernel_rfl) [107, 108, 109, 110, 111, 112, 113, 114, 115, 116, 117, 118, 119] (by kernel_rfl) rfl (by kernel_rfl) 14 rfl ?_ ?_ ?_
        · exact fun L hL => (M4.out.ext (Below.refl _ _).drew).cast (by simp [hL 13 (by decide)])
        · refine ⟨StepS.of [] (by kernel_rfl) ?_, ?_⟩
          · intro L vs wq hL hA hC hJ
            unfold forAll
            exact StepV.val 107 (by kernel_rfl) (by kernel_rfl) rfl (by simp) rfl rfl hJ
          refine ⟨StepS.of [] (by kernel_rfl) ?_, ?_⟩
          · intro L vs wq hL hA hC hJ
            unfold forAll
            exact StepV.val 108 (by kernel_rfl) (by kernel_rfl) rfl (by simp) rfl rfl hJ
          refine ⟨StepS.of [] (by kernel_rfl) ?_, ?_⟩
          · intro L vs wq hL hA hC hJ
            unfold forAll
            exact StepV.val 109 (by kernel_rfl) (by kernel_rfl) rfl (by simp) rfl rfl hJ
          refine ⟨StepS.of [] (by kernel_rfl) ?_, ?_⟩
          · intro L vs wq hL hA hC hJ
            unfold forAll
            exact StepV.val 110 (by kernel_rfl) (by kernel_rfl) rfl (by simp) rfl rfl hJ
          refine ⟨StepS.of [109, 110] (by kernel_rfl) ?_, ?_⟩
          · intro L vs wq hL hA hC hJ h109 h110
            rw [(show vs 109 = .slice (some ⟨Bo, 0, none⟩) i i from h109), (show vs 110 = .int .i64 (k : Nat) from h110)]
            unfold forAll
            exact StepV.val 111 (by kernel_rfl) (by go_simp) rfl (by simp [Act.put]) rfl rfl hJ
          refine ⟨StepS.of [111] (by kernel_rfl) ?_, ?_⟩
          · intro L vs wq hL hA hC hJ h111
            rw [(show vs 111 = .pointer (some ⟨Bo, k, none⟩) from h111)]
            unfold forAll
            have hs := hC.no (j := 13) (i := 5) (by kernel_rfl) hL
            have K := Own.cast (qs := [row 3 1 (.slice (some ⟨Bo, 0, none⟩) i i) i (i64s O2), row 3 1 (.slice (some ⟨Bp, 0, none⟩) i i) i (i64s P)]) hJ (by simp [hs])
            have t0 := K.rowAt (g := Bo) 0 rfl (u := .int .i64 ok) (j := k) CO.out
            have tl := (K.rowLt (g := Bo) 0 rfl).1
            exact StepV.val 112 (by kernel_rfl) (by go_simp) rfl (by simp [Act.put]) rfl rfl hJ
          refine ⟨StepS.of [] (by kernel_rfl) ?_, ?_⟩
          · intro L vs wq hL hA hC hJ
            unfold forAll
            exact StepV.val 113 (by kernel_rfl) (by kernel_rfl) rfl (by simp) rfl rfl hJ
          refine ⟨StepS.of [] (by kernel_rfl) ?_, ?_⟩
          · intro L vs wq hL hA hC hJ
            unfold forAll
            exact StepV.val 114 (by kernel_rfl) (by kernel_rfl) rfl (by simp) rfl rfl hJ
          refine ⟨StepS.of [113, 114] (by kernel_rfl) ?_, ?_⟩
          · intro L vs wq hL hA hC hJ h113 h114
            rw [(show vs 113 = .slice (some ⟨Bp, 0, none⟩) i i from h113), (show vs 114 = .int .i64 (k : Nat) from h114)]
            unfold forAll
            exact StepV.val 115 (by kernel_rfl) (by go_simp) rfl (by simp [Act.put]) rfl rfl hJ
          refine ⟨StepS.of [115] (by kernel_rfl) ?_, ?_⟩
          · intro L vs wq hL hA hC hJ h115
            rw [(show vs 115 = .pointer (some ⟨Bp, k, none⟩) from h115)]
            unfold forAll
            have hs := hC.no (j := 13) (i := 9) (by kernel_rfl) hL
            have K := Own.cast (qs := [row 3 1 (.slice (some ⟨Bo, 0, none⟩) i i) i (i64s O2), row 3 1 (.slice (some ⟨Bp, 0, none⟩) i i) i (i64s P)]) hJ (by simp [hs])
            have t0 := K.rowAt (g := Bp) 1 rfl (u := .int .i64 pk) (j := k) CP.out
            have tl := (K.rowLt (g := Bp) 1 rfl).1
            exact StepV.val 116 (by kernel_rfl) (by go_simp) rfl (by simp [Act.put]) rfl rfl hJ
          refine ⟨StepS.of [112, 116] (by kernel_rfl) ?_, ?_⟩
          · intro L vs wq hL hA hC hJ h112 h116
            rw [(show vs 112 = .int .i64 (ok) from h112), (show vs 116 = .int .i64 (pk) from h116)]
            unfold forAll
            exact StepV.val 117 (by kernel_rfl) (by go_simp) rfl (by simp [Act.put]) rfl rfl hJ
          refine ⟨StepS.of [117] (by kernel_rfl) ?_, ?_⟩
          · intro L vs wq hL hA hC hJ h117
            rw [(show vs 117 = .int .i64 (ok + pk) from h117)]
            unfold forAll
            exact StepV.val 118 (by kernel_rfl) (by go_simp) rfl (by simp [Act.put]) rfl rfl hJ
          refine ⟨StepS.of [107, 108] (by kernel_rfl) ?_, ?_⟩
          · intro L vs wq hL hA hC hJ h107 h108
            rw [(show vs 107 = .slice (some ⟨Bo, 0, none⟩) i i from h107), (show vs 108 = .int .i64 (k : Nat) from h108)]
            unfold forAll
            exact StepV.val 119 (by kernel_rfl) (by go_simp) rfl (by simp [Act.put]) rfl rfl hJ
          refine ⟨StepS.of [119, 118] (by kernel_rfl) ?_, ?_⟩
          · intro L vs wq hL hA hC hJ h119 h118
            rw [(show vs 119 = .pointer (some ⟨Bo, k, none⟩) from h119), (show vs 118 = .int .i64 ((ok + pk) % 31) from h118)]
            unfold forAll
            have K := Own.cast (qs := [row 3 1 (.slice (some ⟨Bo, 0, none⟩) i i) i (i64s O2), row 3 1 (.slice (some ⟨Bp, 0, none⟩) i i) i (i64s P)]) hJ (by simp [hL])
            have t0 := K.rowAt (g := Bo) 0 rfl (u := .int .i64 ok) (j := k) CO.out
            obtain ⟨tl, tf⟩ := K.rowLt (g := Bo) 0 rfl
            exact StepV.skip (by kernel_rfl) (by go_simp) rfl rfl ((K.setRow 0 rfl (k) (.int .i64 ((ok + pk) % 31))).cast (by simp [upd, HO3.out]))
          exact trivial
        · intro vs wM5 hJ h107 h108 h109 h110 h111 h112 h113 h114 h115 h116 h117 h118 h119
          rw [(show vs 107 = .slice (some ⟨Bo, 0, none⟩) i i from h107), (show vs 108 = .int .i64 (k : Nat) from h108), (show vs 109 = .slice (some ⟨Bo, 0, none⟩) i i from h109), (show vs 110 = .int .i64 (k : Nat) from h110), (show vs 111 = .pointer (some ⟨Bo, k, none⟩) from h111), (show vs 112 = .int .i64 (ok) from h112), (show vs 113 = .slice (some ⟨Bp, 0, none⟩) i i from h113), (show vs 114 = .int .i64 (k : Nat) from h114), (show vs 115 = .pointer (some ⟨Bp, k, none⟩) from h115), (show vs 116 = .int .i64 (pk) from h116), (show vs 117 = .int .i64 (ok + pk) from h117), (show vs 118 = .int .i64 ((ok + pk) % 31) from h118), (show vs 119 = .pointer (some ⟨Bo, k, none⟩) from h119)]
          clear h107 h108 h109 h110 h111 h112 h113 h114 h115 h116 h117 h118 h119
          have M5 := Lib.hid (Own.cast (qs := [row 3 1 (.slice (some ⟨Bo, 0, none⟩) i i) i (i64s O3), row 3 1 (.slice (some ⟨Bp, 0, none⟩) i i) i (i64s P)]) hJ rfl)
          clear hJ
          unfold forAll
          simp only [Act.put, List.setIfInBounds_toArray, List.set_cons_zero, List.set_cons_succ]
          clear M4
          go_wp2_with fail
          go_roundg (gk - 1)
          case measure => have := MQ.out; omega
          case rel => exact ⟨k + 1, by omega, by go_num, O3, HST.out, HL3.out, HI3.out, by have := MQ.out; omega, M5.out⟩
end Go.Proofs.Ytnienfgaidccpaa
