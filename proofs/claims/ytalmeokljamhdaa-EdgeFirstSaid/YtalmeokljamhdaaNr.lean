/- EdgeFirst: when the first of the line is called. -/
import Derived.Test.YtalmeokljamhdaaNq
namespace Go.Proofs.Ytalmeokljamhdaa
open Go.RowKit

theorem Rd.far {w : World} {g i : Nat} {A : Option Addr} {xs : List Value} (h : Rd w A xs) (v : Value) (hg : ∀ b off, A = some ⟨b, off, none⟩ → xs = [] ∨ b ≠ g) : Rd (w.setCell ⟨g, i, none⟩ v) A xs := by
  rcases h with h | ⟨b, off, h1, h3, h4⟩
  · exact .inl h
  · rcases hg b off h1 with h | h
    · exact .inl h
    · exact .inr ⟨b, off, h1, by simpa using h3, fun j u hu => (World.cell?_setCell_other w _ _ v (by intro e; injection e with e _; exact h e.symm)).trans (h4 j u hu)⟩
theorem rd_lt {w : World} {A : Option Addr} {xs : List Value} (h : Rd w A xs) : ∀ b off, A = some ⟨b, off, none⟩ → xs = [] ∨ b < w.heap.size := by
  intro b off he
  rcases h with h' | ⟨b', off', h1, h2, _⟩
  · exact .inl h'
  · rw [he] at h1
    injection h1 with h1
    injection h1 with h1 _
    exact .inr (by omega)
/-- One guest of a row, rewritten. -/
theorem row_set {w : World} {base g n c : Nat} {f : Gst → Gst} {l : List Gst} {k : Nat} {x : Gst} (ho : w.ownsRow base 41 3 (.slice (some ⟨g, 0, none⟩) n c) n (flat genc (halfM f l k))) (hx : l[k]? = some x) (i : Nat) (v : Value) (y : Gst)
    (hs : (flat genc (halfM f l k)).set (k * 3 + i) v = flat genc ((halfM f l k).set k y)) (hy : y = f x) : (w.setCell ⟨g, k * 3 + i, none⟩ v).ownsRow base 41 3 (.slice (some ⟨g, 0, none⟩) n c) n (flat genc (halfM f l (k + 1))) := by
  have h := (ho.stored (k * 3 + i) v).1
  rw [hs, hy, halfM_set hx] at h
  exact h

set_option maxRecDepth 100000 in
set_option maxHeartbeats 8000000 in
theorem edgeFirst_walk (lim next : Int) (A : Option Addr) (l : List Gst) (n c : Nat) (all : Bool) (w : World) (hr : Rd w A (flat genc l)) (hn : n = l.length) :
    Calls Try.prog 12 #[.agg #[.int .i64 lim, .int .i64 next, .slice A n c], .bool all] w fun e w' => e = .returned (.bool true) ∧ Below w.heap.size w w' := by
  have HR := Lib.hid hr
  have HN := Lib.hid hn
  clear hr hn
  by_cases h50 : 50 < n
  · as_aux_lemma =>
    go_enter Try.func12, Try.ntmps12
    go_wp2_with fail
    refine (alive_any _).mono ?_
    rintro e w1 ⟨rfl, hb⟩
    obtain ⟨p0, p1, p2, pf⟩ := ((Box.new w 24 _).ext hb).c3
    go_wp2
    go_ret
    exact ⟨rfl, below_step (below_alloc _ _) hb⟩
  have hl : n ≤ 1000 := by omega
  have hd50 : decide (50 < (n : Int)) = false := by simp; omega
  have hd50' : decide (50 < n) = false := by simp; omega
  go_enter Try.func12, Try.ntmps12
  go_wp2_with fail
  refine (alive_any _).mono ?_
  rintro e w1 ⟨rfl, hb⟩
  have HB := Lib.hid (below_step (below_alloc w _) hb)
  have HQ := Lib.hid ((Box.new w 24 #[.int .i64 lim, .int .i64 next, .slice A n c]).ext hb)
  have hs1 : w.heap.size < w1.heap.size := HQ.out.2.2
  clear hb
  obtain ⟨p0, p1, p2, pf⟩ := HQ.out.c3
  go_wp2_with fail
  refine (twin_any _ _ _ l _ _ _ (HR.out.below HB.out) HN.out hl).mono ?_
  rintro e w2 ⟨v, rfl, hown, hb⟩
  obtain ⟨A2, c2, rfl, how⟩ := rd_of_own hown
  rw [← HN.out] at hown ⊢
  have hc2 : n ≤ c2 := own_cap hown
  have HG : Hid (0 < n → ∃ g, A2 = some ⟨g, 0, none⟩ ∧ w1.heap.size ≤ g ∧ g < w2.heap.size) := by
    intro h0
    obtain ⟨g, cap, hv, h1, h2⟩ := hown.form h0
    injection hv with hv1 _ _
    exact ⟨g, hv1, h1, h2⟩
  have HO := Lib.hid hown
  replace HB := Lib.hid (below_step HB.out hb)
  replace HQ := Lib.hid (HQ.out.ext hb)
  have hs2 : w1.heap.size ≤ w2.heap.size := hb.size
  clear hown how hb p0 p1 p2 pf
  go_wp2
  have hS := Box.new w2 24 #[.int .i64 lim, .int .i64 next, .slice A2 n c2]
  replace HB := Lib.hid (below_more HB.out (.cells #[.int .i64 lim, .int .i64 next, .slice A2 n c2] 24))
  replace HQ := Lib.hid (HQ.out.alloc (.cells #[.int .i64 lim, .int .i64 next, .slice A2 n c2] 24))
  replace HO := Lib.hid (own_ext HO.out (below_alloc w2 (.cells #[.int .i64 lim, .int .i64 next, .slice A2 n c2] 24)))
  generalize w2.alloc (.cells #[.int .i64 lim, .int .i64 next, .slice A2 n c2] 24) = W at *
  have HS := Lib.hid hS
  have hsW : w2.heap.size < W.heap.size := hS.2.2
  clear hS
  go_loopw [30] (fun u wr => ∃ k : Nat, k ≤ n ∧ u = .int .i64 k ∧ Hid (wr.ownsRow w1.heap.size 41 3 (.slice A2 n c2) n (flat genc (halfM (setA all) l k))) ∧ Hid (Box wr w2.heap.size [.int .i64 lim, .int .i64 next, .slice A2 n c2]) ∧ Hid (Box wr w.heap.size [.int .i64 lim, .int .i64 next, .slice A n c]) ∧ Hid (Below w.heap.size w wr) ∧ W.heap.size ≤ wr.heap.size) (fun u _ => n - (intOf u).toNat)
  case atStart => exact ⟨0, Nat.zero_le _, rfl, (by unfold Hid; simpa [halfM] using HO.out), HS.out, HQ.out, HB.out, Nat.le_refl _⟩
  case round =>
    obtain ⟨k, hk, rfl, ho, hbs, hbq, hb, hsz⟩ := hrel
    by_cases hlt : k < n
    · as_aux_lemma =>
      have hlt' : k < l.length := by rw [← HN.out]; exact hlt
      have hge : l[k]? = some l[k] := List.getElem?_eq_getElem hlt'
      obtain ⟨g, rfl, hg1, hg2⟩ := HG.out (by omega)
      have hH := halfM_get (f := setA all) hge
      have hc1 : wr.cell? ⟨g, k * 3 + 1, none⟩ = some (.bool l[k].fast) := by
        rw [ho.out.cellAt (k * 3 + 1) (by omega), flat_get genc 3 genc_len _ k _ 1 hH (by omega)]; rfl
      have hc2' : wr.cell? ⟨g, k * 3 + 2, none⟩ = some (.int .i64 l[k].skips) := by
        rw [ho.out.cellAt (k * 3 + 2) (by omega), flat_get genc 3 genc_len _ k _ 2 hH (by omega)]; rfl
      have hf1 := ho.out.frozenAt (k * 3 + 1)
      have hf2 := ho.out.frozenAt (k * 3 + 2)
      have HGE := Lib.hid hge
      have HH := Lib.hid hH
      clear hge hH
      obtain ⟨p0, p1, p2, pf⟩ := hbs.out.c3
      have hgs : g < wr.heap.size := by omega
      generalize l[k] = x at hc1 hc2' HGE HH
      rcases x with ⟨xi, xf, xs⟩
      simp only at hc1 hc2'
      have hgn : g ≠ w2.heap.size := by omega
      have hgn' : w2.heap.size ≠ g := by omega
      cases all
      · have hrow := Lib.hid (row_set ho.out HGE.out 1 (.bool false) ⟨xi, false, xs⟩ (flat_set1 _ k _ false HH.out) rfl)
        go_wp2
        go_roundw
        case rel => exact ⟨k + 1, by omega, by go_num, hrow.out, hbs.out.far _ hgn, hbq.out.far _ (by omega), hb.out.setCell (by simp; omega) _, by simpa using hsz⟩
        case measure => simp [intOf]; omega
      · have hrow : Hid (((wr.setCell ⟨g, k * 3 + 1, none⟩ (.bool true)).setCell ⟨g, k * 3 + 2, none⟩ (.int .i64 0)).ownsRow w1.heap.size 41 3 (.slice (some ⟨g, 0, none⟩) n c2) n (flat genc (halfM (setA true) l (k + 1)))) := by
          have h1 := (ho.out.stored (k * 3 + 1) (.bool true)).1
          rw [flat_set1 _ k _ true HH.out] at h1
          have h2 := (h1.stored (k * 3 + 2) (.int .i64 0)).1
          rw [flat_set2 _ k ⟨xi, true, xs⟩ 0 (by rw [List.getElem?_set_self (by rw [halfM_len]; exact hlt')]), List.set_set] at h2
          have h3 := halfM_set (f := setA true) HGE.out
          rw [← h3]
          exact h2
        go_wp2
        go_roundw
        case rel => exact ⟨k + 1, by omega, by go_num, hrow.out, (hbs.out.far _ hgn).far _ hgn, (hbq.out.far _ (by omega)).far _ (by omega), (hb.out.setCell (by simp; omega) _).setCell (by simp; omega) _, by simpa using hsz⟩
        case measure => simp [intOf]; omega
    · have hkk : k = n := by omega
      subst hkk
      have HO1 := Lib.hid ho.out
      rw [halfM_all (by rw [← HN.out]; omega)] at HO1
      obtain ⟨X, hX⟩ : ∃ X : World, X = wr := ⟨_, rfl⟩
      subst hX
      have HG1 : Hid (0 < k → ∃ g, A2 = some ⟨g, 0, none⟩ ∧ w1.heap.size ≤ g ∧ g < w2.heap.size) := HG.out
      clear HG HO HS HQ HB ho hk
      have HBS := Lib.hid hbs.out
      have HBQ := Lib.hid hbq.out
      have HB := Lib.hid hb.out
      clear hbs hbq hb
      obtain ⟨p0, p1, p2, pf⟩ := HBQ.out.c3
      go_wp2_with fail
      refine (twin_any _ _ _ l _ _ _ (HR.out.below HB.out) HN.out hl).mono ?_
      rintro e w4 ⟨v, rfl, hown, hb⟩
      obtain ⟨A4, c4, rfl, how⟩ := rd_of_own hown
      rw [← HN.out] at hown ⊢
      have hc4 : k ≤ c4 := own_cap hown
      have HG4 : Hid (0 < k → ∃ g, A4 = some ⟨g, 0, none⟩ ∧ X.heap.size ≤ g ∧ g < w4.heap.size) := by
        intro h0
        obtain ⟨g, cap, hv, h1, h2⟩ := hown.form h0
        injection hv with hv1 _ _
        exact ⟨g, hv1, h1, h2⟩
      have HO4 := Lib.hid hown
      replace HB := Lib.hid (below_step HB.out hb)
      replace HBS := Lib.hid (HBS.out.ext hb)
      replace HO1 := Lib.hid (own_ext HO1.out hb)
      have hs4 : X.heap.size ≤ w4.heap.size := hb.size
      clear hown how hb p0 p1 p2 pf HBQ
      go_wp2
      have hS := (Box.new w4 24 #[.int .i64 0, .int .i64 next, .slice A4 k c4])
      replace HB := Lib.hid (below_more HB.out (.cells #[.int .i64 0, .int .i64 next, .slice A4 k c4] 24))
      replace HBS := Lib.hid (HBS.out.alloc (.cells #[.int .i64 0, .int .i64 next, .slice A4 k c4] 24))
      replace HO4 := Lib.hid (own_ext HO4.out (below_alloc w4 (.cells #[.int .i64 0, .int .i64 next, .slice A4 k c4] 24)))
      replace HO1 := Lib.hid (own_ext HO1.out (below_alloc w4 (.cells #[.int .i64 0, .int .i64 next, .slice A4 k c4] 24)))
      generalize w4.alloc (.cells #[.int .i64 0, .int .i64 next, .slice A4 k c4] 24) = W4 at *
      have HS4 := Lib.hid hS
      have hsW4 : w4.heap.size < W4.heap.size := hS.2.2
      clear hS
      go_loopw [52] (fun u wr => ∃ j : Nat, j ≤ k ∧ u = .int .i64 j ∧ Hid (wr.ownsRow X.heap.size 41 3 (.slice A4 k c4) k (flat genc (halfM setN l j))) ∧ Hid (Box wr w4.heap.size [.int .i64 0, .int .i64 next, .slice A4 k c4]) ∧ Hid (Box wr w2.heap.size [.int .i64 lim, .int .i64 next, .slice A2 k c2]) ∧ Hid (Rd wr A2 (flat genc (l.map (setA all)))) ∧ Hid (Below w.heap.size w wr) ∧ W4.heap.size ≤ wr.heap.size) (fun u _ => k - (intOf u).toNat)
      case atStart =>
        obtain ⟨A1', c1', he1, how1⟩ := rd_of_own HO1.out
        injection he1 with he1 _ _
        subst he1
        exact ⟨0, Nat.zero_le _, rfl, (by unfold Hid; simpa [halfM] using HO4.out), HS4.out, HBS.out, how1.rd, HB.out, Nat.le_refl _⟩
      case round =>
        obtain ⟨j, hj, rfl, ho, hbn, hbs, hrd, hb, hsz4⟩ := hrel
        by_cases hlt : j < k
        · as_aux_lemma =>
          have hlt' : j < l.length := by rw [← HN.out]; exact hlt
          have hge : l[j]? = some l[j] := List.getElem?_eq_getElem hlt'
          obtain ⟨g, rfl, hg1, hg2⟩ := HG4.out (by omega)
          have hH := halfM_get (f := setN) hge
          have hc2' : wr.cell? ⟨g, j * 3 + 2, none⟩ = some (.int .i64 l[j].skips) := by
            rw [ho.out.cellAt (j * 3 + 2) (by omega), flat_get genc 3 genc_len _ j _ 2 hH (by omega)]; rfl
          have hf2 := ho.out.frozenAt (j * 3 + 2)
          have HGE := Lib.hid hge
          have HH := Lib.hid hH
          clear hge hH
          obtain ⟨p0, p1, p2, pf⟩ := hbn.out.c3
          have hgs : g < wr.heap.size := by omega
          generalize l[j] = x at hc2' HGE HH
          rcases x with ⟨xi, xf, xs⟩
          simp only at hc2'
          have hrow := Lib.hid (row_set ho.out HGE.out 2 (.int .i64 0) ⟨xi, xf, 0⟩ (flat_set2 _ j _ 0 HH.out) rfl)
          have HRX := Lib.hid (hrd.out.far (g := g) (i := j * 3 + 2) (.int .i64 0) (by
            intro b off hA2
            obtain ⟨g1, h1, h2, h3⟩ := HG1.out (by omega)
            rw [h1] at hA2
            injection hA2 with hA2
            injection hA2 with hA2 _
            exact .inr (by omega)))
          go_wp2
          go_roundw
          case rel => exact ⟨j + 1, by omega, by go_num, hrow.out, hbn.out.far _ (by omega), hbs.out.far _ (by omega), HRX.out, hb.out.setCell (by simp; omega) _, by simpa using hsz4⟩
          case measure => simp [intOf]; omega
        · have hjk : j = k := by omega
          subst hjk
          have ho4 := ho.out
          rw [halfM_all (by rw [← HN.out]; omega)] at ho4
          obtain ⟨A4', c4', he4, how4⟩ := rd_of_own ho4
          injection he4 with he4 _ _
          subst he4
          have HR4 := Lib.hid how4.rd
          obtain ⟨Y, hY⟩ : ∃ Y : World, Y = wr := ⟨_, rfl⟩
          subst hY
          obtain ⟨p0, p1, p2, pf⟩ := hbn.out.c3
          obtain ⟨q0, q1, q2, qf⟩ := hbs.out.c3
          clear ho ho4 how4 HO4 HO1 HS4 HB
          go_wp2
          have hV := Box.new Y 24 #[.int .i64 lim, .int .i64 next, .slice A2 j c2, .int .i64 0, .int .i64 next, .slice A4 j c4']
          have hR2 := hrd.out.below (below_alloc Y (.cells #[.int .i64 lim, .int .i64 next, .slice A2 j c2, .int .i64 0, .int .i64 next, .slice A4 j c4'] 24))
          have hR4 := HR4.out.below (below_alloc Y (.cells #[.int .i64 lim, .int .i64 next, .slice A2 j c2, .int .i64 0, .int .i64 next, .slice A4 j c4'] 24))
          have hBV := below_more hb.out (.cells #[.int .i64 lim, .int .i64 next, .slice A2 j c2, .int .i64 0, .int .i64 next, .slice A4 j c4'] 24)
          generalize Y.alloc (.cells #[.int .i64 lim, .int .i64 next, .slice A2 j c2, .int .i64 0, .int .i64 next, .slice A4 j c4'] 24) = V at *
          have HV := Lib.hid hV
          have HR2 := Lib.hid hR2
          have HR4 := Lib.hid hR4
          have HBV := Lib.hid hBV
          clear hV hR2 hR4 hBV p0 p1 p2 pf q0 q1 q2 qf hbn hbs hrd hb
          go_loopw [65] (fun u wr => ∃ i : Nat, i ≤ 2 ∧ u = .int .i64 i ∧ Hid (Below V.heap.size V wr)) (fun u _ => 2 - (intOf u).toNat)
          case atStart => exact ⟨0, by omega, rfl, Below.refl _ _⟩
          case round =>
            obtain ⟨i, hi, rfl, hb⟩ := hrel
            have hvb := HV.out.ext hb.out
            have hc0 := hvb.1 0 _ rfl
            have hc1 := hvb.1 1 _ rfl
            have hc2x := hvb.1 2 _ rfl
            have hc3 := hvb.1 3 _ rfl
            have hc4x := hvb.1 4 _ rfl
            have hc5 := hvb.1 5 _ rfl
            have hcf := hvb.2.1
            have hcs := hvb.2.2
            clear hvb
            have hcases : i = 0 ∨ i = 1 ∨ i = 2 := by omega
            rcases hcases with rfl | rfl | rfl
            · as_aux_lemma =>
              have hfl : (l.map (setA all)).length = j := by rw [List.length_map, HN.out]
              have HFL := Lib.hid hfl
              have hcf2 := Lib.hid (callF_first (lim := lim) (next := next) (l := l.map (setA all)) (nextGo_setA lim all l))
              have hjl : (l.map (setA all)).length ≤ 1000 := by omega
              clear hfl
              generalize l.map (setA all) = M at *
              go_wp2_with fail
              refine (call_cap lim next A2 M j c2 _ ((HR2.out.below hb.out).below (below_alloc _ _)) HFL.out.symm (by omega) (by omega)).mono ?_
              rintro e w6 ⟨A6, c6, hc6, rfl, how6, hb6⟩
              have hx6 := (Box.new wr 24 #[.int .i64 lim, .int .i64 next, .slice A2 j c2]).ext hb6
              have HRX := Lib.hid (((HR2.out.below hb.out).below (below_alloc wr (.cells #[.int .i64 lim, .int .i64 next, .slice A2 j c2] 24))).below hb6)
              have HB6 := Lib.hid (below_step hb.out (below_step (below_alloc wr _) hb6))
              have hs6 := hx6.2.2
              obtain ⟨p0, p1, p2, pf⟩ := hx6.c3
              clear hb6 how6 hx6 hc6
              generalize (callF lim next M).2.2.2.1 = id at hcf2 ⊢
              generalize (callF lim next M).2.2.2.2 = er at hcf2 ⊢
              generalize (callF lim next M).2.2.1.length = n6
              generalize (callF lim next M).1 = r1
              generalize (callF lim next M).2.1 = r2
              rcases hcf2.out with ⟨K, h1, h2⟩ | ⟨x, r, h1, h2, h3⟩
              · subst h1
                go_wp2
                go_roundw
                case rel => exact ⟨1, by omega, rfl, below_more HB6.out _⟩
                case measure => simp [intOf]
              · subst h3
                have hm0 : 0 < M.length := by rw [h1]; simp
                have hj0 : 0 < j := by rw [← HFL.out]; exact hm0
                have hj1 : ((j : Int) == 0) = false := by simp; omega
                have hj2 : (j == 0) = false := by simp; omega
                obtain ⟨b, off, rfl, hbs, hd0, hd1, hd2⟩ := gst_at HRX.out (below_alloc w6 (.cells #[.int .i64 r1, .int .i64 r2, .slice A6 n6 c6] 24)) hm0
                have hx0 : M[0] = x := by simp only [h1, List.getElem_cons_zero]
                rw [hx0, ← h2] at hd0
                simp only [Nat.zero_mul, Nat.add_zero] at hd0
                clear hx0 h1 h2 hd1 hd2
                have hbn : b ≠ w6.heap.size := by omega
                have hd0' : w6.cell? ⟨b, off, none⟩ = some (.int .i64 id) := by
                  rw [World.cell?_alloc_lt w6 _ ⟨b, off, none⟩ hbs] at hd0
                  exact hd0
                clear hd0
                go_wp2
                go_roundw
                case rel => exact ⟨1, by omega, rfl, below_more HB6.out _⟩
                case measure => simp [intOf]
            · as_aux_lemma =>
              have hfl : (l.map setN).length = j := by rw [List.length_map, HN.out]
              have HFL := Lib.hid hfl
              have hcf2 := Lib.hid (callF_first (lim := 0) (next := next) (l := l.map setN) (nextGo_setN l))
              have hjl : (l.map setN).length ≤ 1000 := by omega
              clear hfl
              generalize l.map setN = M at *
              go_wp2_with fail
              refine (call_cap 0 next A4 M j c4' _ ((HR4.out.below hb.out).below (below_alloc _ _)) HFL.out.symm (by omega) (by omega)).mono ?_
              rintro e w6 ⟨A6, c6, hc6, rfl, how6, hb6⟩
              have hx6 := (Box.new wr 24 #[.int .i64 0, .int .i64 next, .slice A4 j c4']).ext hb6
              have HRX := Lib.hid (((HR4.out.below hb.out).below (below_alloc wr (.cells #[.int .i64 0, .int .i64 next, .slice A4 j c4'] 24))).below hb6)
              have HB6 := Lib.hid (below_step hb.out (below_step (below_alloc wr _) hb6))
              have hs6 := hx6.2.2
              obtain ⟨p0, p1, p2, pf⟩ := hx6.c3
              clear hb6 how6 hx6 hc6
              generalize (callF 0 next M).2.2.2.1 = id at hcf2 ⊢
              generalize (callF 0 next M).2.2.2.2 = er at hcf2 ⊢
              generalize (callF 0 next M).2.2.1.length = n6
              generalize (callF 0 next M).1 = r1
              generalize (callF 0 next M).2.1 = r2
              rcases hcf2.out with ⟨K, h1, h2⟩ | ⟨x, r, h1, h2, h3⟩
              · subst h1
                go_wp2
                go_roundw
                case rel => exact ⟨2, by omega, rfl, below_more HB6.out _⟩
                case measure => simp [intOf]
              · subst h3
                have hm0 : 0 < M.length := by rw [h1]; simp
                have hj0 : 0 < j := by rw [← HFL.out]; exact hm0
                have hj1 : ((j : Int) == 0) = false := by simp; omega
                have hj2 : (j == 0) = false := by simp; omega
                obtain ⟨b, off, rfl, hbs, hd0, hd1, hd2⟩ := gst_at HRX.out (below_alloc w6 (.cells #[.int .i64 r1, .int .i64 r2, .slice A6 n6 c6] 24)) hm0
                have hx0 : M[0] = x := by simp only [h1, List.getElem_cons_zero]
                rw [hx0, ← h2] at hd0
                simp only [Nat.zero_mul, Nat.add_zero] at hd0
                clear hx0 h1 h2 hd1 hd2
                have hbn : b ≠ w6.heap.size := by omega
                have hd0' : w6.cell? ⟨b, off, none⟩ = some (.int .i64 id) := by
                  rw [World.cell?_alloc_lt w6 _ ⟨b, off, none⟩ hbs] at hd0
                  exact hd0
                clear hd0
                go_wp2
                go_roundw
                case rel => exact ⟨2, by omega, rfl, below_more HB6.out _⟩
                case measure => simp [intOf]
            · as_aux_lemma =>
              go_wp2
              go_ret
              exact ⟨rfl, below_step HBV.out hb.out⟩
end Go.Proofs.Ytalmeokljamhdaa
