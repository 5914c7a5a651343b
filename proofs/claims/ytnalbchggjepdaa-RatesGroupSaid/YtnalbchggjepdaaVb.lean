/- Rates: the different numbers of doubles in order. No condition. -/
import Derived.Test.YtnalbchggjepdaaVa
import Derived.Test.YtnalbchggjepdaaUb
namespace Go.Proofs.Ytnalbchggjepdaa
open Go.RowKit Go.Shelf
attribute [local go_sem] Oper.semAt_some

/-- A row of the call's own, put anew. -/
theorem putI_own {w0 w : World} {ps : List Piece} {g n c : Nat} {l ts : List Int} (h : Own w0 w (row 3 1 (.slice (some ⟨g, 0, none⟩) n c) n (ints l) :: ps)) (hn : n = l.length) (hl : ts.length = l.length) (k : Nat) (os : Array Obj) :
    Own w0 (Sort.grow (Sort.putRow (Value.int .i64) (Sort.ahead w k) g 0 ts.toArray) os) (row 3 1 (.slice (some ⟨g, 0, none⟩) n c) n (ints ts) :: ps) := by
  subst hn
  obtain ⟨h1, h2⟩ := (show w.ownsRow 0 3 1 (.slice (some ⟨g, 0, none⟩) l.length c) l.length (ints l) from h.get 0 rfl)
  rcases h2 with ⟨h2, _⟩ | ⟨g', cap, cur, hv, _, hh, h3, h5, h6, h4⟩
  · cases h2
  · injection hv with hv1 hv2 hv3
    injection hv1 with hv1
    injection hv1 with hv1
    subst hv1; subst hv3
    refine h.change 0 rfl (q := row 3 1 (.slice (some ⟨g, 0, none⟩) l.length c) l.length (ints ts)) ?_ (fun b e => .inl e) (grownBy_sortedI _)
    exact ownsRow_sortedI (ss := l) (ts := ts) (base := 0) hl (Nat.zero_le _) hh h3 h5 h6
theorem grow_none (X : World) : Sort.grow X #[] = X := by
  cases X
  simp [Sort.grow]
/-- slices.Compact of a row of the call's own. -/
theorem compactI_own {w0 w : World} {ps : List Piece} {g n c : Nat} {l : List Int} (h : Own w0 w (row 3 1 (.slice (some ⟨g, 0, none⟩) n c) n (ints l) :: ps)) (hn : n = l.length) (h62 : n < 4611686018427387904) (h0 : 0 < n) :
    Calls Try.prog 83 #[.slice (some ⟨g, 0, none⟩) n c] w fun e w' => e = .returned (.slice (some ⟨g, 0, none⟩) (Lib.compact l).length c) ∧ Own w0 w' (row 3 1 (.slice (some ⟨g, 0, none⟩) (Lib.compact l).length c) (Lib.compact l).length (ints (Lib.compact l)) :: ps) := by
  subst hn
  obtain ⟨h1, h2⟩ := (show w.ownsRow 0 3 1 (.slice (some ⟨g, 0, none⟩) l.length c) l.length (ints l) from h.get 0 rfl)
  rcases h2 with ⟨h2, _⟩ | ⟨g', cap, cur, hv, _, hh, h3, h5, h6, h4⟩
  · cases h2
  · injection hv with hv1 hv2 hv3
    injection hv1 with hv1
    injection hv1 with hv1
    subst hv1; subst hv3
    refine (Try.slices_Compact_int g 0 c l w (holds_of_blockI hh (by simpa [ints] using h4)) (by omega) h3).mono ?_
    rintro e w' ⟨rfl, k, rfl⟩
    have hle : (Lib.compact l).length ≤ l.length := by
      unfold Lib.compact Lib.compactUpTo
      rw [List.length_map]
      exact Nat.le_trans (List.length_filter_le _ _) (by simp)
    refine ⟨rfl, ?_⟩
    have hlen : (Lib.compact l ++ List.replicate (l.length - (Lib.compact l).length) 0).length = l.length := by simp; omega
    have k1 := putI_own h rfl hlen k #[]
    have e6 := grow_none (Sort.putRow (Value.int .i64) (Sort.ahead w k) g 0 (Lib.compact l ++ List.replicate (l.length - (Lib.compact l).length) 0).toArray)
    rw [← e6]
    generalize Sort.grow (Sort.putRow (Value.int .i64) (Sort.ahead w k) g 0 (Lib.compact l ++ List.replicate (l.length - (Lib.compact l).length) 0).toArray) #[] = W at k1 ⊢
    obtain ⟨g', spare, e1, e2, e3, e4, e5, k2⟩ := k1.asBoxC 0 rfl h0
    injection e1 with e1
    injection e1 with e1
    subst e1
    have hi : ints (Lib.compact l ++ List.replicate (l.length - (Lib.compact l).length) 0) ++ spare = ints (Lib.compact l) ++ (ints (List.replicate (l.length - (Lib.compact l).length) 0) ++ spare) := by simp [ints]
    rw [hi] at k2 e5
    have k3 := k2.asRowC (n := (Lib.compact l).length) (c := c) (size := 1) 0 rfl (by simp [ints]) e5 (by omega) e3
    exact k3
/-- The numbers of a list once each, and in order. -/
def dstF (l : List Int) : List Int := Lib.compact (srtI l)
theorem ints_take {l : List Dbl} {k : Nat} (h : k < l.length) (f : Dbl → Int) : ints (-1 :: (l.take k).map f) ++ ints [f l[k]] = ints (-1 :: (l.take (k + 1)).map f) := by
  rw [List.take_succ_eq_append_getElem h, List.map_append]
  simp only [ints, List.map_cons, List.map_append, List.map_nil, List.cons_append]

theorem clo68_any (x : Dbl) (w : World) : Calls Try.prog 68 #[aggD x] w fun e w' => e = .returned (.int .i64 x.a) ∧ Below w.heap.size w w' := by
  obtain ⟨xa, xb, xs⟩ := x
  have S0 := Lib.hid ((Own.start w).new' 81 #[.int .i64 xa, .int .i64 xb, .bool xs] (B := w.heap.size) rfl)
  simp only [aggD]
  go_enter Try.func68, Try.ntmps68
  go_wp2_with fail
  go_ret
  exact ⟨rfl, S0.out.bel⟩
set_option maxRecDepth 100000 in
set_option maxHeartbeats 2000000 in
theorem distinct68_any (A : Option Addr) (l : List Dbl) (n c : Nat) (w : World) (hr : Rd w A (flat encD l)) (hn : n = l.length) (hl : n ≤ 1000000) :
    Calls Try.prog 67 #[.slice A n c, .func (.func 68) #[] #[]] w fun e w' => ∃ g c', e = .returned (.slice (some ⟨g, 0, none⟩) (dstF (-1 :: l.map Dbl.a)).length c') ∧
      Own w w' [row 3 1 (.slice (some ⟨g, 0, none⟩) (dstF (-1 :: l.map Dbl.a)).length c') (dstF (-1 :: l.map Dbl.a)).length (ints (dstF (-1 :: l.map Dbl.a)))] := by
  have HN := Lib.hid hn
  have HR := Lib.hid hr
  clear hr hn
  obtain ⟨Z, hZ⟩ : ∃ Z, Z = -1 :: l.map Dbl.a := ⟨_, rfl⟩
  rw [← hZ]
  replace hZ := Lib.hid hZ
  have S0 := Lib.hid (((Own.start w).new' 3 #[.int .i64 (-1)] (B := w.heap.size) rfl).asRow (n := 1) (size := 1) 0 rfl rfl (by unfold maxLen; omega))
  have K := Lib.hid (fun x W => clo68_any x W)
  go_enter Try.func67, Try.ntmps67
  go_wp2_with fail
  generalize w.alloc _ = w3 at *
  go_loopg [5, 11] n (fun q u5 u11 wr => ∃ k : Nat, ∃ A2 c2, k ≤ n ∧ u11 = .int .i64 (k : Nat) ∧ u5 = .slice A2 (k + 1) c2 ∧ Hid (k + q = n ∧ Own w wr [row 3 1 (.slice A2 (k + 1) c2) (k + 1) (ints (-1 :: (l.take k).map Dbl.a))]))
  case atStart => exact ⟨0, some ⟨w.heap.size, 0, none⟩, 1, Nat.zero_le _, rfl, rfl, by omega, S0.out⟩
  case round =>
    obtain ⟨k, A2, c2, hk, rfl, rfl, hI⟩ := hrel
    have I1 := Lib.hid hI.out.1
    have I2 := Lib.hid hI.out.2
    clear hI S0
    by_cases hlt : k < n
    · have hlt' : k < l.length := by rw [← HN.out]; exact hlt
      obtain ⟨bb, off, rfl, hbs, c0, c1, c3⟩ := (HR.out.below I2.out.bel).dbl hlt'
      have HT := Lib.hid (ints_take hlt' Dbl.a)
      generalize l[k] = x at *
      have HK := Lib.hid (fun W => K.out x W)
      obtain ⟨xa, xb, xs⟩ := x
      simp only [aggD] at HK HT
      simp only at c0 c1 c3
      have hki : (k : Int) < (n : Int) := by omega
      clear hlt'
      have I3 := Lib.hid (I2.out.new' 81 #[.int .i64 xa, .int .i64 xb, .bool xs] (B := wr.heap.size) rfl).tail
      go_wp2_with fail
      refine (HK.out _).mono ?_
      rintro e w4 ⟨rfl, hb4⟩
      have I4 := Lib.hid (((I3.out.ext hb4).ext (below_alloc w4 (.cells #[.int .i64 xa] 3))))
      have HN4 := Lib.hid (Rd.new w4 #[.int .i64 xa] 3)
      clear hb4 I3
      go_wp2_with (at_builtin; go_loud (refine wpList_appP rfl (.tmp 15) (.tmp 19) 36 rfl st36 0 I4.out rfl rfl rfl (k + 2) (ints (-1 :: (l.take (k + 1)).map Dbl.a)) ?_ (ints [xa]) (by omega) HT.out HN4.out (by simp [ints]) (ints_one [xa]) (by unfold maxLen; omega) (by omega); intro A3 c3' w5 hS5); have S5 := Lib.hid (hS5.cast (qs := [row 3 1 (.slice A3 (k + 2) c3') (k + 2) (ints (-1 :: (l.take (k + 1)).map Dbl.a))]) rfl); clear hS5 I4 HN4)
      go_roundg (gk - 1)
      case measure => have := I1.out; omega
      case rel => exact ⟨k + 1, A3, c3', by omega, by go_num, rfl, by have := I1.out; omega, S5.out⟩
    · have hni : ¬ (k : Int) < (n : Int) := by omega
      obtain rfl : k = n := by omega
      have HA := Lib.hid (show l.take k = l by rw [List.take_of_length_le (by rw [← HN.out]; omega)])
      rw [HA.out] at I2
      have HL := Lib.hid (show k + 1 = Z.length by rw [hZ.out]; simp; exact HN.out)
      rw [← hZ.out] at I2
      obtain ⟨g, rfl⟩ := I2.out.rowAddr 0 rfl (by omega)
      have K1 := Lib.hid (sortI_own I2.out HL.out (by omega))
      go_wp2_with fail
      refine K1.out.mono ?_
      rintro e w4 ⟨rfl, hO4⟩
      have S4 := Lib.hid hO4
      have K2 := Lib.hid (compactI_own S4.out (by rw [srtI_len]; exact HL.out) (by omega) (by omega))
      clear hO4 K1 I2
      go_wp2_with fail
      refine K2.out.mono ?_
      rintro e w5 ⟨rfl, hO5⟩
      have S5 := Lib.hid hO5
      clear hO5 K2 S4
      go_wp2_with fail
      go_ret
      exact ⟨g, c2, rfl, S5.out⟩
theorem clo69_any (x : Dbl) (w : World) : Calls Try.prog 69 #[aggD x] w fun e w' => e = .returned (.int .i64 x.b) ∧ Below w.heap.size w w' := by
  obtain ⟨xa, xb, xs⟩ := x
  have S0 := Lib.hid ((Own.start w).new' 81 #[.int .i64 xa, .int .i64 xb, .bool xs] (B := w.heap.size) rfl)
  simp only [aggD]
  go_enter Try.func69, Try.ntmps69
  go_wp2_with fail
  go_ret
  exact ⟨rfl, S0.out.bel⟩
set_option maxRecDepth 100000 in
set_option maxHeartbeats 2000000 in
theorem distinct69_any (A : Option Addr) (l : List Dbl) (n c : Nat) (w : World) (hr : Rd w A (flat encD l)) (hn : n = l.length) (hl : n ≤ 1000000) :
    Calls Try.prog 67 #[.slice A n c, .func (.func 69) #[] #[]] w fun e w' => ∃ g c', e = .returned (.slice (some ⟨g, 0, none⟩) (dstF (-1 :: l.map Dbl.b)).length c') ∧
      Own w w' [row 3 1 (.slice (some ⟨g, 0, none⟩) (dstF (-1 :: l.map Dbl.b)).length c') (dstF (-1 :: l.map Dbl.b)).length (ints (dstF (-1 :: l.map Dbl.b)))] := by
  have HN := Lib.hid hn
  have HR := Lib.hid hr
  clear hr hn
  obtain ⟨Z, hZ⟩ : ∃ Z, Z = -1 :: l.map Dbl.b := ⟨_, rfl⟩
  rw [← hZ]
  replace hZ := Lib.hid hZ
  have S0 := Lib.hid (((Own.start w).new' 3 #[.int .i64 (-1)] (B := w.heap.size) rfl).asRow (n := 1) (size := 1) 0 rfl rfl (by unfold maxLen; omega))
  have K := Lib.hid (fun x W => clo69_any x W)
  go_enter Try.func67, Try.ntmps67
  go_wp2_with fail
  generalize w.alloc _ = w3 at *
  go_loopg [5, 11] n (fun q u5 u11 wr => ∃ k : Nat, ∃ A2 c2, k ≤ n ∧ u11 = .int .i64 (k : Nat) ∧ u5 = .slice A2 (k + 1) c2 ∧ Hid (k + q = n ∧ Own w wr [row 3 1 (.slice A2 (k + 1) c2) (k + 1) (ints (-1 :: (l.take k).map Dbl.b))]))
  case atStart => exact ⟨0, some ⟨w.heap.size, 0, none⟩, 1, Nat.zero_le _, rfl, rfl, by omega, S0.out⟩
  case round =>
    obtain ⟨k, A2, c2, hk, rfl, rfl, hI⟩ := hrel
    have I1 := Lib.hid hI.out.1
    have I2 := Lib.hid hI.out.2
    clear hI S0
    by_cases hlt : k < n
    · have hlt' : k < l.length := by rw [← HN.out]; exact hlt
      obtain ⟨bb, off, rfl, hbs, c0, c1, c3⟩ := (HR.out.below I2.out.bel).dbl hlt'
      have HT := Lib.hid (ints_take hlt' Dbl.b)
      generalize l[k] = x at *
      have HK := Lib.hid (fun W => K.out x W)
      obtain ⟨xa, xb, xs⟩ := x
      simp only [aggD] at HK HT
      simp only at c0 c1 c3
      have hki : (k : Int) < (n : Int) := by omega
      clear hlt'
      have I3 := Lib.hid (I2.out.new' 81 #[.int .i64 xa, .int .i64 xb, .bool xs] (B := wr.heap.size) rfl).tail
      go_wp2_with fail
      refine (HK.out _).mono ?_
      rintro e w4 ⟨rfl, hb4⟩
      have I4 := Lib.hid (((I3.out.ext hb4).ext (below_alloc w4 (.cells #[.int .i64 xb] 3))))
      have HN4 := Lib.hid (Rd.new w4 #[.int .i64 xb] 3)
      clear hb4 I3
      go_wp2_with (at_builtin; go_loud (refine wpList_appP rfl (.tmp 15) (.tmp 19) 36 rfl st36 0 I4.out rfl rfl rfl (k + 2) (ints (-1 :: (l.take (k + 1)).map Dbl.b)) ?_ (ints [xb]) (by omega) HT.out HN4.out (by simp [ints]) (ints_one [xb]) (by unfold maxLen; omega) (by omega); intro A3 c3' w5 hS5); have S5 := Lib.hid (hS5.cast (qs := [row 3 1 (.slice A3 (k + 2) c3') (k + 2) (ints (-1 :: (l.take (k + 1)).map Dbl.b))]) rfl); clear hS5 I4 HN4)
      go_roundg (gk - 1)
      case measure => have := I1.out; omega
      case rel => exact ⟨k + 1, A3, c3', by omega, by go_num, rfl, by have := I1.out; omega, S5.out⟩
    · have hni : ¬ (k : Int) < (n : Int) := by omega
      obtain rfl : k = n := by omega
      have HA := Lib.hid (show l.take k = l by rw [List.take_of_length_le (by rw [← HN.out]; omega)])
      rw [HA.out] at I2
      have HL := Lib.hid (show k + 1 = Z.length by rw [hZ.out]; simp; exact HN.out)
      rw [← hZ.out] at I2
      obtain ⟨g, rfl⟩ := I2.out.rowAddr 0 rfl (by omega)
      have K1 := Lib.hid (sortI_own I2.out HL.out (by omega))
      go_wp2_with fail
      refine K1.out.mono ?_
      rintro e w4 ⟨rfl, hO4⟩
      have S4 := Lib.hid hO4
      have K2 := Lib.hid (compactI_own S4.out (by rw [srtI_len]; exact HL.out) (by omega) (by omega))
      clear hO4 K1 I2
      go_wp2_with fail
      refine K2.out.mono ?_
      rintro e w5 ⟨rfl, hO5⟩
      have S5 := Lib.hid hO5
      clear hO5 K2 S4
      go_wp2_with fail
      go_ret
      exact ⟨g, c2, rfl, S5.out⟩
end Go.Proofs.Ytnalbchggjepdaa
