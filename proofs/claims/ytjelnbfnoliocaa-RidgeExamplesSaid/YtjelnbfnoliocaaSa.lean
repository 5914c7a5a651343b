/- Ridge: the pieces of alive: sample, has, thins. Ridge: picture, a trace from rows of characters. No condition. -/
import Derived.Test.YtjelnbfnoliocaaQc
namespace Go.Proofs.Ytjelnbfnoliocaa
open Go.RowKit Go.Shelf
attribute [local go_sem] Oper.semAt_some

set_option maxRecDepth 100000 in
set_option maxHeartbeats 1000000 in
theorem has_yes (W H R K : Int) (A : Option Addr) (l : List Bool) (n c : Nat) (w : World) (hr : Rd w A (bools l)) (hn : n = l.length) (hv : sized1B W H n = true) (h1 : partsA W H n l = R) (h2 : partsB W H n l = K) :
    Calls Try.prog 51 #[.agg #[.int .i64 W, .int .i64 H, .slice A n c], .int .i64 R, .int .i64 K] w fun e w' => e = .returned (.bool true) ∧ Below w.heap.size w w' := by
  have S0 := Lib.hid ((Own.start w).new 34 #[.int .i64 W, .int .i64 H, .slice A n c])
  have HP := Parts_any W H A l n c _ (hr.below S0.out.bel) hn
  rw [h1, h2, show errS (sized1B W H n) 10 = 0 by rw [hv]; rfl] at HP
  have HP := Lib.hid HP
  clear hr hn hv h1 h2
  go_enter Try.func51, Try.ntmps51
  go_wp2_with fail
  refine HP.out.mono ?_
  rintro e w1 ⟨rfl, hb1⟩
  have S1 := Lib.hid (S0.out.ext hb1)
  clear hb1
  go_wp2_with fail
  go_ret
  exact ⟨rfl, S1.out.bel⟩
set_option maxRecDepth 100000 in
set_option maxHeartbeats 1000000 in
theorem thins_yes (W H : Int) (A A' : Option Addr) (l l' : List Bool) (n c c' : Nat) (w : World) (hr : Rd w A (bools l)) (hr' : Rd w A' (bools l')) (hn : n = l.length) (hv : sized1B W H n = true) (h1 : thinF W H l = l') (hb : n ≤ 400) :
    Calls Try.prog 52 #[.agg #[.int .i64 W, .int .i64 H, .slice A n c], .agg #[.int .i64 W, .int .i64 H, .slice A' n c']] w fun e w' => e = .returned (.bool true) ∧ Below w.heap.size w w' := by
  have hn' : n = l'.length := by rw [← h1, thinF_len]; exact hn
  have S0 := Lib.hid (((Own.start w).new 34 #[.int .i64 W, .int .i64 H, .slice A n c]).new' 34 #[.int .i64 W, .int .i64 H, .slice A' n c'] (B := w.heap.size + 1) (by simp))
  have HT := Lib.hid (fun W1 (h : Below w.heap.size w W1) => (show Calls Try.prog 37 #[.agg #[.int .i64 W, .int .i64 H, .slice A n c]] W1 (ThinPost W H n l' 0 W1) by have := thin_ok W H A l n c W1 hv (hr.below h) hn; rw [h1] at this; exact this))
  have HS := Lib.hid (fun A0 c0 W1 (h : Below w.heap.size w W1) h' => same_self W H A0 A' l' n c0 c' W1 h' (hr'.below h) hn' (by omega))
  obtain ⟨t0, t1, t2, _⟩ := (S0.out.bx 1 rfl).c3
  clear hr hr' hn hn' hv h1
  go_enter Try.func52, Try.ntmps52
  go_wp2_with fail
  refine (HT.out _ S0.out.bel).mono ?_
  rintro e w1 ⟨A1, c1, rfl, hO1⟩
  have S1 := Lib.hid (S0.out.call hO1)
  clear hO1 t0 t1 t2
  go_upto_region 2 with fail
  have S2 := Lib.hid ((S1.out.new' 34 #[.int .i64 W, .int .i64 H, .slice A1 n c1] (B := w1.heap.size) rfl).cast (qs := [box w1.heap.size 34 [.int .i64 W, .int .i64 H, .slice A1 n c1], row 4 1 (.slice A1 n c1) n (bools l'), box (w.heap.size + 1) 34 [.int .i64 W, .int .i64 H, .slice A' n c'], box w.heap.size 34 [.int .i64 W, .int .i64 H, .slice A n c]]) rfl)
  generalize w1.alloc (.cells #[.int .i64 W, .int .i64 H, .slice A1 n c1] 34) = w2 at *
  generalize w1.heap.size = B at *
  obtain ⟨t0, t1, t2, _⟩ := (S2.out.bx 0 rfl).c3
  have lt := (S2.out.bx 0 rfl).2.2
  obtain ⟨s0, s1, s2, _⟩ := (S2.out.bx 2 rfl).c3
  have ls := (S2.out.bx 2 rfl).2.2
  go_wp2_with fail
  refine (HS.out A1 c1 _ S2.out.bel (S2.out.rd 1 rfl)).mono ?_
  rintro e w3 ⟨rfl, hb3⟩
  have S3 := Lib.hid (S2.out.ext hb3)
  clear hb3 t0 t1 t2 lt s0 s1 s2 ls
  go_wp2_with fail
  go_ret
  exact ⟨rfl, S3.out.bel⟩
set_option maxRecDepth 100000 in
set_option maxHeartbeats 1000000 in
theorem sample_any (w : World) : Calls Try.prog 49 #[] w fun e w' => ∃ g1 g2 g3 : Nat, e = .returned (.tuple #[.agg #[.int .i64 3, .int .i64 1, .slice (some ⟨g1, 0, none⟩) 3 3], .agg #[.int .i64 3, .int .i64 1, .slice (some ⟨g2, 0, none⟩) 3 3, .slice (some ⟨g3, 0, none⟩) 3 3]]) ∧
    Own w w' [box g3 5 [.int .u8 200, .int .u8 150, .int .u8 102], box g2 5 [.int .u8 0, .int .u8 50, .int .u8 100], box g1 5 [.int .u8 99, .int .u8 100, .int .u8 101]] := by
  have S1 := Lib.hid ((Own.start w).new 24 #[.int .i64 3, .int .i64 1, .slice (some ⟨w.heap.size + 1 + 1, 0, none⟩) 3 3])
  have S2 := Lib.hid (S1.out.new' 26 #[.int .i64 3, .int .i64 1, .slice (some ⟨w.heap.size + 1 + 1 + 1, 0, none⟩) 3 3, .slice (some ⟨w.heap.size + 1 + 1 + 1 + 1, 0, none⟩) 3 3] (B := w.heap.size + 1) (by simp))
  have S3 := Lib.hid (S2.out.new' 5 #[.int .u8 99, .int .u8 100, .int .u8 101] (B := w.heap.size + 1 + 1) (by simp))
  have S4 := Lib.hid (S3.out.new' 5 #[.int .u8 0, .int .u8 50, .int .u8 100] (B := w.heap.size + 1 + 1 + 1) (by simp))
  have S5 := Lib.hid (S4.out.new' 5 #[.int .u8 200, .int .u8 150, .int .u8 102] (B := w.heap.size + 1 + 1 + 1 + 1) (by simp))
  clear S1 S2 S3 S4
  go_enter Try.func49, Try.ntmps49
  go_wp2_with fail
  exact bodyPost_ret (v := .tuple #[.agg #[.int .i64 3, .int .i64 1, .slice (some ⟨w.heap.size + 1 + 1, 0, none⟩) 3 3], .agg #[.int .i64 3, .int .i64 1, .slice (some ⟨w.heap.size + 1 + 1 + 1, 0, none⟩) 3 3, .slice (some ⟨w.heap.size + 1 + 1 + 1 + 1, 0, none⟩) 3 3]]) (by simp [results, Try.results49, go_sem]) rfl ⟨_, _, _, rfl, S5.out.sub [0, 1, 2] (by decide) rfl⟩
end Go.Proofs.Ytjelnbfnoliocaa

namespace Go.Proofs.Ytjelnbfnoliocaa
open Go.RowKit Go.Shelf
attribute [local go_sem] Oper.semAt_some

/-- the pixels of one row of characters. -/
def hashS (s : ByteArray) : List Bool := s.data.toList.map fun u => ((u.toNat : Int) == 35)
theorem hashS_len (s : ByteArray) : (hashS s).length = s.size := by simp [hashS]
def hashL (rows : List ByteArray) : List Bool := rows.flatMap hashS
def strs (rows : List ByteArray) : List Value := rows.map Value.string
theorem strs_get {rows : List ByteArray} {i : Nat} (h : i < rows.length) : (strs rows)[i]? = some (.string rows[i]) := by
  rw [strs, List.getElem?_map, List.getElem?_eq_getElem h]; rfl
theorem hashL_take {rows : List ByteArray} {i : Nat} (h : i < rows.length) : hashL (rows.take (i + 1)) = hashL (rows.take i) ++ hashS rows[i] := by
  rw [hashL, hashL, List.take_succ_eq_append_getElem h, List.flatMap_append]; simp
theorem hashL_le (rows : List ByteArray) (i : Nat) : (hashL (rows.take i)).length ≤ (hashL rows).length := by
  conv => rhs; rw [← List.take_append_drop i rows, hashL, List.flatMap_append, List.length_append]
  exact Nat.le_add_right _ _
theorem hashS_take {s : ByteArray} {j : Nat} (h : j < s.size) : (hashS s).take (j + 1) = (hashS s).take j ++ [(((s.data[j]'h).toNat : Int) == 35)] := by
  have h2 : j < (hashS s).length := by rw [hashS_len]; exact h
  rw [List.take_succ_eq_append_getElem h2]
  simp [hashS]
def PicPost (W H : Int) (l : List Bool) (w : World) (e : Ending) (w' : World) : Prop :=
  ∃ A c, e = .returned (.agg #[.int .i64 W, .int .i64 H, .slice A l.length c]) ∧ Own w w' [row 4 1 (.slice A l.length c) l.length (bools l)]
theorem run_hash (s : ByteArray) (j : Nat) (h : j < s.size) (w : World) : (Instr.index 9 (.string s) (.int .i64 (j : Int))).run Try.prog w = .ok (.int .u8 ((s.data[j]'h).toNat : Int)) w := by
  have h0 : (j : Int) < (s.size : Int) := by omega
  have := run_index_string (P := Try.prog) w 9 s .i64 (j : Int) (by kernel_rfl)
  rw [this, dif_pos ⟨by omega, h0⟩]
  rfl
set_option maxRecDepth 100000 in
set_option maxHeartbeats 2000000 in
theorem picture_any (rows : List ByteArray) (A : Option Addr) (h c : Nat) (w : World) (hr : Rd w A (strs rows)) (hh : h = rows.length) (h0 : 0 < rows.length) (hw : ∀ s ∈ rows, s.size ≤ 20) (hb : (hashL rows).length ≤ 400) (hh20 : h ≤ 20) :
    Calls Try.prog 50 #[.slice A h c] w (PicPost (rows[0].size : Nat) h (hashL rows) w) := by
  obtain ⟨b0, off, rfl, hb0, hc0⟩ := hr.at_ (strs_get h0)
  have HR := Lib.hid (fun i (hi : i < rows.length) W1 (h : Below w.heap.size w W1) => (h.cell (p := ⟨b0, off + i, none⟩) hb0).trans (hc0 i _ (strs_get hi)))
  have k0 := hc0 0 _ (strs_get h0)
  simp only [Nat.add_zero] at k0
  have HHB := Lib.hid (fun W1 (h : Below w.heap.size w W1) => (show b0 < W1.heap.size by have := h.size; omega))
  have HH := Lib.hid hh
  have HWB := Lib.hid (fun i (hi : i < rows.length) => hw _ (List.getElem_mem hi))
  have hs0 := hw _ (List.getElem_mem h0)
  have HB := Lib.hid hb
  have hlt0 : 0 < h := by omega
  generalize hss : rows[0] = s0 at *
  clear hr hh hw hb hc0 hss
  have S1 := Lib.hid ((Own.start w).new 34 #[.int .i64 0, .int .i64 0, .slice none 0 0])
  have S2 := Lib.hid (S1.out.new' 34 #[.int .i64 (s0.size : Nat), .int .i64 h, .slice none 0 0] (B := w.heap.size + 1) (by simp))
  have S3 := Lib.hid ((S2.out.nil 4 1).cast (qs := [row 4 1 (.slice none 0 0) 0 (bools []), box (w.heap.size + 1) 34 [.int .i64 (s0.size : Nat), .int .i64 h, .slice none 0 0], box w.heap.size 34 [.int .i64 0, .int .i64 0, .slice none 0 0]]) rfl)
  clear S1 S2
  go_enter Try.func50, Try.ntmps50
  go_wp2_with fail
  clear k0 hs0
  go_loopg [16] h (fun q u16 wr => ∃ (i : Nat) (A1 : Option Addr) (c1 : Nat), i ≤ h ∧ u16 = .int .i64 i ∧ Hid (i + q = h ∧ Own w wr [row 4 1 (.slice A1 (hashL (rows.take i)).length c1) (hashL (rows.take i)).length (bools (hashL (rows.take i))), box (w.heap.size + 1) 34 [.int .i64 (s0.size : Nat), .int .i64 h, .slice A1 (hashL (rows.take i)).length c1], box w.heap.size 34 [.int .i64 0, .int .i64 0, .slice none 0 0]]))
  case atStart => exact ⟨0, none, 0, by omega, rfl, by omega, S3.out⟩
  case round =>
    obtain ⟨i, A1, c1, hi, rfl, hI⟩ := hrel
    have I1 := Lib.hid hI.out.1
    have I2 := Lib.hid hI.out.2
    clear hI S3
    by_cases hlt : i < h
    case neg =>
      obtain rfl : i = h := by omega
      have HE := Lib.hid (show hashL (rows.take i) = hashL rows by rw [List.take_of_length_le (by rw [HH.out]; exact Nat.le_refl _)])
      have I4 := Lib.hid (show Own w wr [row 4 1 (.slice A1 (hashL rows).length c1) (hashL rows).length (bools (hashL rows)), box (w.heap.size + 1) 34 [.int .i64 (s0.size : Nat), .int .i64 i, .slice A1 (hashL rows).length c1], box w.heap.size 34 [.int .i64 0, .int .i64 0, .slice none 0 0]] by have h2 := I2.out; rwa [HE.out] at h2)
      clear I2
      obtain ⟨t0, t1, t2, _⟩ := (I4.out.bx 1 rfl).c3
      have lt := (I4.out.bx 1 rfl).2.2
      obtain ⟨r0, r1, r2, rf⟩ := (I4.out.bx 2 rfl).c3
      have lr := (I4.out.bx 2 rfl).2.2
      go_wp2_with fail
      have S4 := Lib.hid (((I4.out.set 2 rfl 0 (.int .i64 (s0.size : Nat))).set 2 rfl 1 (.int .i64 i)).set 2 rfl 2 (.slice A1 (hashL rows).length c1))
      have S6 := Lib.hid (S4.out.sub [0] (by decide) (qs := [row 4 1 (.slice A1 (hashL rows).length c1) (hashL rows).length (bools (hashL rows))]) rfl)
      exact bodyPost_ret (v := .agg #[.int .i64 (s0.size : Nat), .int .i64 i, .slice A1 (hashL rows).length c1]) (by simp [results, Try.results50, go_sem, *]) rfl ⟨A1, c1, rfl, S6.out⟩
    have hir : i < rows.length := by rw [← HH.out]; exact hlt
    have k0 := HR.out i hir wr I2.out.bel
    have lb := HHB.out wr I2.out.bel
    have hs20 := HWB.out i hir
    have HTK := Lib.hid (hashL_take hir)
    have HLE := Lib.hid (hashL_le rows (i + 1))
    have i1 : (i : Int) < (h : Int) := by omega
    generalize rows[i] = s at *
    generalize hashL (rows.take i) = T at *
    have HSL := Lib.hid (hashS_len s)
    have HRUN := fun j (hj : j < s.size) W1 => run_hash s j hj W1
    have HRUNH := Lib.hid HRUN
    clear HRUN
    have HTL := Lib.hid (show T.length + s.size ≤ 400 by have h1 := HLE.out; have h2 := HB.out; rw [HTK.out, List.length_append, HSL.out] at h1; omega)
    go_wp2_with fail
    obtain ⟨G1, rfl⟩ : ∃ G1 : Nat, G1 = gk := ⟨_, rfl⟩
    obtain ⟨wq, rfl⟩ : ∃ wq : World, wq = wr := ⟨_, rfl⟩
    clear k0 lb
    go_loopg [22] s.size (fun q u22 wr => ∃ (j : Nat) (A2 : Option Addr) (c2 : Nat), j ≤ s.size ∧ u22 = .int .i64 j ∧ Hid (j + q = s.size ∧ Own w wr [row 4 1 (.slice A2 (T.length + j) c2) (T.length + j) (bools (T ++ (hashS s).take j)), box (w.heap.size + 1) 34 [.int .i64 (s0.size : Nat), .int .i64 h, .slice A2 (T.length + j) c2], box w.heap.size 34 [.int .i64 0, .int .i64 0, .slice none 0 0]]))
    case atStart => exact ⟨0, A1, c1, by omega, rfl, by omega, by rw [List.take_zero, List.append_nil, Nat.add_zero]; exact I2.out⟩
    case round =>
      obtain ⟨j, A2, c2, hj, rfl, hI⟩ := hrel
      have J1 := Lib.hid hI.out.1
      have J2 := Lib.hid hI.out.2
      clear hI I2
      by_cases hjs : j < s.size
      case neg =>
        obtain rfl : j = s.size := by omega
        have HE := Lib.hid (show T ++ (hashS s).take s.size = hashL (rows.take (i + 1)) by rw [List.take_of_length_le (by rw [HSL.out]; exact Nat.le_refl _)]; exact HTK.out.symm)
        have HE2 := Lib.hid (show T.length + s.size = (hashL (rows.take (i + 1))).length by rw [HTK.out, List.length_append, HSL.out])
        go_wp2_with fail
        go_roundg (G1 - 1)
        case measure => have := I1.out; omega
        case rel => exact ⟨i + 1, A2, c2, by omega, by go_num, by have := I1.out; omega, by rw [← HE2.out, ← HE.out]; exact J2.out⟩
      have hix := HRUNH.out j hjs
      have HTK2 := Lib.hid (hashS_take hjs)
      have j1 : (j : Int) < (s.size : Int) := by omega
      have hm := HTL.out
      generalize ((s.data[j]'hjs).toNat : Int) = x at *
      obtain ⟨t0, t1, t2, tf⟩ := (J2.out.bx 1 rfl).c3
      have lt := (J2.out.bx 1 rfl).2.2
      generalize (hashS s).take j = Q at *
      go_wp2_with fail
      go_region_law (refine step_appP rfl (.tmp 26) (.tmp 31) 32 rfl st32 0 ((J2.out.ext (Below.refl _ _).drew).ext (below_alloc _ _)) rfl rfl rfl (T.length + j + 1) (bools (T ++ Q ++ [x == 35])) ?_ [.bool (x == 35)] rfl (by simp [bools]) (Rd.new _ #[.bool (x == 35)] 4) rfl (by simp [Value.oneCell']) (by unfold maxLen; omega) (by omega); intro A3 c3 w9 hO9; have HO9 := Lib.hid hO9; clear hO9; have lt9 := (HO9.out.bx 1 rfl).2.2; have tf9 := (HO9.out.bx 1 rfl).2.1; have t29 := (HO9.out.bx 1 rfl).1 2 _ rfl)
      all_goals go_wp2_with fail
      all_goals go_roundg (gk - 1)
      all_goals first
        | (have := J1.out; omega)
        | exact ⟨j + 1, A3, c3, by omega, by go_num, by have := J1.out; omega, by have h9 := HO9.out.set 1 rfl 2 (.slice A3 (T.length + j + 1) c3); rw [HTK2.out, ← List.append_assoc]; exact h9.cast rfl⟩
end Go.Proofs.Ytjelnbfnoliocaa
