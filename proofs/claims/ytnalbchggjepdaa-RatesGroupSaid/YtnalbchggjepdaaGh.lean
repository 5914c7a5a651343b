/- Rates: the thresholds of groups: the program. No condition. -/
import Derived.Test.YtnalbchggjepdaaGg
import Derived.Laws.IdiomCopy
import Derived.Deep.OwnRows
import Derived.Deep.RegionHeld3
namespace Go.Proofs.Ytnalbchggjepdaa
open Go.RowKit Go.Maps Go.ChangeShapes Go.Shelf
attribute [local go_sem] Oper.semAt_some

def setL {α : Type} : List α → Nat → List α → List α
  | xs, _, [] => xs
  | xs, o, v :: r => setL (xs.set o v) (o + 1) r
theorem Own.setCells0 {w0 : World} {e : TypeId} {size n c g : Nat} {qs : List Piece} : ∀ (vs : List Value) (o : Nat) (xs : List Value) (w : World), Own w0 w (row e size (.slice (some ⟨g, 0, none⟩) n c) n xs :: qs) →
    Own w0 (w.setCells g o vs) (row e size (.slice (some ⟨g, 0, none⟩) n c) n (setL xs o vs) :: qs)
  | [], _, _, _, h => h
  | v :: r, o, xs, _, h => Own.setCells0 r (o + 1) (xs.set o v) _ ((h.setRow 0 rfl o v).cast rfl)
theorem Rd.addAt {w : World} {b off : Nat} {xs : List Value} (h : ∀ j u, xs[j]? = some u → w.cell? ⟨b, off + j, none⟩ = some u) : ∀ j u, xs[j]? = some u → w.cell? ((⟨b, off, none⟩ : Addr).add j) = some u := fun j u hu => by
  have e : (⟨b, off, none⟩ : Addr).add j = ⟨b, off + j, none⟩ := by unfold Addr.add; split <;> simp_all
  rw [e]; exact h j u hu
theorem copy_own {P : Program} {w0 w : World} {dT sT ty elem : TypeId} {g off n c dLen dCap b soff sLen sCap : Nat} {L : List Value} {qs : List Piece} (S : Own w0 w (row 3 1 (.slice (some ⟨g, 0, none⟩) n c) n L :: qs)) (cs : List Value)
    (hu : P.underlying dT = some (.slice elem)) (hsz : (P.info? elem).map (·.size) = some 1) (hn : cs.length = Nat.min sLen dLen) (hsrc : ∀ j u, cs[j]? = some u → w.cell? ⟨b, soff + j, none⟩ = some u) (hfit : off + cs.length ≤ L.length) (h1 : ∀ v ∈ cs, v.oneCell' = true) :
    (Builtin.copy_ #[dT, sT] ty #[.slice (some ⟨g, off, none⟩) dLen dCap, .slice (some ⟨b, soff, none⟩) sLen sCap]).run P w = .ok (goInt cs.length) (w.setCells g off cs) ∧ Own w0 (w.setCells g off cs) (row 3 1 (.slice (some ⟨g, 0, none⟩) n c) n (setL L off cs) :: qs) := by
  refine ⟨run_copy_cells w dT sT ty elem g off dLen dCap ⟨b, soff, none⟩ sLen sCap cs hu hsz hn (Rd.addAt hsrc) (fun j hj => ?_) (fun j hj => (S.rowLt 0 rfl).2 _) h1, S.setCells0 cs off L w⟩
  have hlt : off + j < L.length := by omega
  rw [S.rowAt 0 rfl (List.getElem?_eq_getElem hlt)]
  rfl
/-- copy into a row of the call's own. -/
theorem wpList_copyP {P : Program} {w0 w : World} {ops : Array Oper} {rest : List Oper} {o : Oper} {a : Act} {Q : Exit → Act → World → Prop} (hgd : o.guard = none) (d s : Operand) (dT sT : TypeId)
    (ho : o.op = .call { callee := .builtin .copy, args := #[d, s], argTypes := #[dT, sT] }) (elem : TypeId) (hu : P.underlying dT = some (.slice elem)) (hsz : (P.info? elem).map (·.size) = some 1)
    {g n c : Nat} {L : List Value} {qs : List Piece} (S : Own w0 w (row 3 1 (.slice (some ⟨g, 0, none⟩) n c) n L :: qs))
    (off dLen dCap b soff sLen sCap : Nat) (hd : a.eval d = .slice (some ⟨g, off, none⟩) dLen dCap) (hs : a.eval s = .slice (some ⟨b, soff, none⟩) sLen sCap)
    (cs : List Value) (hn : cs.length = Nat.min sLen dLen) (hsrc : ∀ j u, cs[j]? = some u → w.cell? ⟨b, soff + j, none⟩ = some u) (hfit : off + cs.length ≤ L.length) (h1 : ∀ v ∈ cs, v.oneCell' = true)
    (h : ∀ w', Own w0 w' (row 3 1 (.slice (some ⟨g, 0, none⟩) n c) n (setL L off cs) :: qs) → wpList P ops Q rest (a.put o.dst (goInt cs.length)) w') : wpList P ops Q (o :: rest) a w := by
  refine wpList_plain hgd fun K hK => ?_
  obtain ⟨hrun, hO⟩ := copy_own (dT := dT) (sT := sT) (ty := o.type) (dCap := dCap) (sCap := sCap) S cs hu hsz hn hsrc hfit h1
  unfold Oper.wp
  simp [execOp, ho, resolve, invoke, builtin, hd, hs, hrun, Result.andThen]
  exact hK _ _ (h _ hO)
theorem step_copyP {P : Program} {w0 w : World} {ops : Array Oper} {o : Oper} {a : Act} {K : Act → World → Prop} {Q : Exit → Act → World → Prop} {E : Prop} (hgd : o.guard = none) (d s : Operand) (dT sT : TypeId)
    (ho : o.op = .call { callee := .builtin .copy, args := #[d, s], argTypes := #[dT, sT] }) (elem : TypeId) (hu : P.underlying dT = some (.slice elem)) (hsz : (P.info? elem).map (·.size) = some 1)
    {g n c : Nat} {L : List Value} {qs : List Piece} (S : Own w0 w (row 3 1 (.slice (some ⟨g, 0, none⟩) n c) n L :: qs))
    (off dLen dCap b soff sLen sCap : Nat) (hd : a.eval d = .slice (some ⟨g, off, none⟩) dLen dCap) (hs : a.eval s = .slice (some ⟨b, soff, none⟩) sLen sCap)
    (cs : List Value) (hn : cs.length = Nat.min sLen dLen) (hsrc : ∀ j u, cs[j]? = some u → w.cell? ⟨b, soff + j, none⟩ = some u) (hfit : off + cs.length ≤ L.length) (h1 : ∀ v ∈ cs, v.oneCell' = true)
    (h : ∀ w', Own w0 w' (row 3 1 (.slice (some ⟨g, 0, none⟩) n c) n (setL L off cs) :: qs) → K (a.put o.dst (goInt cs.length)) w') : if Region.wanted o (yielded ops a.tmps) = true then Oper.wp P o a w K Q else E := by
  have hw : Region.wanted o (yielded ops a.tmps) = true := by simp [Region.wanted, hgd]
  rw [if_pos hw]
  obtain ⟨hrun, hO⟩ := copy_own (dT := dT) (sT := sT) (ty := o.type) (dCap := dCap) (sCap := sCap) S cs hu hsz hn hsrc hfit h1
  unfold Oper.wp
  simp [execOp, ho, resolve, invoke, builtin, hd, hs, hrun, Result.andThen]
  exact h _ hO
theorem mul64_any (w : World) : Calls Try.prog 91 #[.int .u64 1, .int .u64 8] w fun e w' => e = .returned (.tuple #[.int .u64 0, .int .u64 8]) ∧ w = w' := by
  go_enter Try.func91, Try.ntmps91
  go_wp2_with fail
  go_ret2
  trivial
theorem mul_any (w : World) : Calls Try.prog 81 #[.int .u64 1, .int .u64 8] w fun e w' => e = .returned (.tuple #[.int .u64 0, .int .u64 8]) ∧ w = w' := by
  go_enter Try.func81, Try.ntmps81
  go_wp2_with fail
  refine (mul64_any _).mono ?_
  rintro e w' ⟨rfl, rfl⟩
  go_wp2_with fail
  go_ret2
  trivial
/-- One number, k times, in a row of eight. -/
def repL (v : Int) (k : Nat) : List Value := ints (List.replicate k v ++ List.replicate (8 - k) 0)
theorem repL_len (v : Int) {k : Nat} (h : k ≤ 8) : (repL v k).length = 8 := by simp [repL, ints]; omega
set_option maxRecDepth 100000 in
set_option maxHeartbeats 4000000 in
theorem repeat_any (b off c : Nat) (v : Int) (w : World) (hc : w.cell? ⟨b, off, none⟩ = some (.int .i64 v)) (hb : b < w.heap.size) :
    Calls Try.prog 61 #[.slice (some ⟨b, off, none⟩) 1 c, .int .i64 8] w fun e w' => ∃ B, e = .returned (.slice (some ⟨B, 0, none⟩) 8 8) ∧ Own w w' [row 3 1 (.slice (some ⟨B, 0, none⟩) 8 8) 8 (ints (List.replicate 8 v))] := by
  have hmk : ∀ w : World, (Instr.makeSlice 36 (.int .i64 8) (.int .i64 8)).run Try.prog w = .ok (.slice (some ⟨w.heap.size, 0, none⟩) 8 8) (w.alloc (.cells (madeCells #[.int .i64 0] 8) 3)) := run_make_row' (P := Try.prog) 36 3 (.int .i64 0) 8 Try.underlying36 (by kernel_rfl) rfl .i64 .i64 8 (by omega) (by omega)
  obtain ⟨B, hB⟩ : ∃ B, B = w.heap.size := ⟨_, rfl⟩
  have S0 := Lib.hid ((((Own.start w).new' 3 (madeCells #[.int .i64 0] 8) hB).asRow (size := 1) (n := 8) 0 rfl (by kernel_rfl) (by unfold maxLen; omega)).cast (qs := [row 3 1 (.slice (some ⟨B, 0, none⟩) 8 8) 8 (repL v 0)]) (by rw [show repL v 0 = (madeCells #[.int .i64 0] 8).toList by simp [repL, ints]; kernel_rfl]; rfl))
  have HC := Lib.hid (fun W (h : Below w.heap.size w W) j u (hu : [Value.int .i64 v][j]? = some u) => (show W.cell? ⟨b, off + j, none⟩ = some u by
    obtain ⟨rfl, rfl⟩ : j = 0 ∧ u = .int .i64 v := by
      cases j with
      | zero => exact ⟨rfl, by simpa using hu.symm⟩
      | succ j => simp at hu
    exact (h.cell (p := ⟨b, off + 0, none⟩) hb).trans hc))
  have hmin : Nat.min 1 8 = 1 := rfl
  clear hc hb
  go_enter Try.func61, Try.ntmps61
  go_wp2_with (first | (go_at_call 81; refine (mul_any _).mono ?_; rintro e w' ⟨rfl, rfl⟩) | fail)
  rw [← hB]
  clear hB hmk
  generalize w.alloc _ = w1 at *
  obtain ⟨hrun, hS2⟩ := copy_own (P := Try.prog) (dT := 36) (sT := 36) (ty := 3) (off := 0) (dLen := 8) (dCap := 8) (sCap := c) (b := b) (soff := off) (sLen := 1) (elem := 3) S0.out [.int .i64 v] Try.underlying36 (by kernel_rfl) rfl (HC.out w1 S0.out.bel) (by rw [repL_len v (by omega)]; simp) (by simp [Value.oneCell'])
  rw [hrun]
  have S2 := Lib.hid (hS2.cast (qs := [row 3 1 (.slice (some ⟨B, 0, none⟩) 8 8) 8 (repL v 1)]) rfl)
  clear hrun hS2 S0 HC
  generalize w1.setCells B 0 _ = w2 at *
  go_wp2_with fail
  go_loopg [8] 8 (fun q u8 wr => ∃ k : Nat, (k = 1 ∨ k = 2 ∨ k = 4 ∨ k = 8) ∧ u8 = .int .i64 (k : Nat) ∧ Hid (k + q = 8 + 1 ∧ Own w wr [row 3 1 (.slice (some ⟨B, 0, none⟩) 8 8) 8 (repL v k)]))
  case atStart => exact ⟨1, by omega, rfl, by omega, S2.out⟩
  case round =>
    obtain ⟨k, hk, rfl, hI⟩ := hrel
    have I1 := Lib.hid hI.out.1
    have I2 := Lib.hid hI.out.2
    clear hI S2
    rcases hk with rfl | rfl | rfl | rfl
    · as_aux_lemma =>
      have HS := Lib.hid (fun j u (hu : ([.int .i64 v] : List Value)[j]? = some u) => (show wr.cell? ⟨B, 0 + j, none⟩ = some u by
        rw [Nat.zero_add]
        refine I2.out.rowAt 0 rfl ?_
        have hj : j < 1 := by have := (List.getElem?_eq_some_iff.1 hu).1; simpa using this
        rw [← hu]
        rcases (show j = 0 by omega) with rfl <;> rfl))
      obtain ⟨ul, uf⟩ := I2.out.rowLt (g := B) 0 rfl
      go_upto_region 9 with (fail)
      go_region_held3 (fun _ => True) (first | go_keep | trivial) ((refine step_copyP rfl (.tmp 41) (.tmp 44) 36 36 rfl 3 Try.underlying36 (by kernel_rfl) (I2.out.ext (Below.refl _ _).drew) 1 7 7 B 0 1 8 rfl rfl [.int .i64 v] rfl HS.out (by rw [repL_len v (by omega)]; simp) (by simp [Value.oneCell']) ?_; intro w5 hS5; have S5 := Lib.hid (hS5.cast (qs := [row 3 1 (.slice (some ⟨B, 0, none⟩) 8 8) 8 (repL v 2)]) rfl); clear hS5))
      go_wp2_with fail
      go_roundg (gk - 1)
      case measure => have := I1.out; omega
      case rel => exact ⟨2, by omega, rfl, by have := I1.out; omega, S5.out⟩
    · as_aux_lemma =>
      have HS := Lib.hid (fun j u (hu : ([.int .i64 v, .int .i64 v] : List Value)[j]? = some u) => (show wr.cell? ⟨B, 0 + j, none⟩ = some u by
        rw [Nat.zero_add]
        refine I2.out.rowAt 0 rfl ?_
        have hj : j < 2 := by have := (List.getElem?_eq_some_iff.1 hu).1; simpa using this
        rw [← hu]
        rcases (show j = 0 ∨ j = 1 by omega) with rfl | rfl <;> rfl))
      obtain ⟨ul, uf⟩ := I2.out.rowLt (g := B) 0 rfl
      go_upto_region 9 with (fail)
      go_region_held3 (fun _ => True) (first | go_keep | trivial) ((refine step_copyP rfl (.tmp 41) (.tmp 44) 36 36 rfl 3 Try.underlying36 (by kernel_rfl) (I2.out.ext (Below.refl _ _).drew) 2 6 6 B 0 2 8 rfl rfl [.int .i64 v, .int .i64 v] rfl HS.out (by rw [repL_len v (by omega)]; simp) (by simp [Value.oneCell']) ?_; intro w5 hS5; have S5 := Lib.hid (hS5.cast (qs := [row 3 1 (.slice (some ⟨B, 0, none⟩) 8 8) 8 (repL v 4)]) rfl); clear hS5))
      go_wp2_with fail
      go_roundg (gk - 2)
      case measure => have := I1.out; omega
      case rel => exact ⟨4, by omega, rfl, by have := I1.out; omega, S5.out⟩
    · as_aux_lemma =>
      have HS := Lib.hid (fun j u (hu : ([.int .i64 v, .int .i64 v, .int .i64 v, .int .i64 v] : List Value)[j]? = some u) => (show wr.cell? ⟨B, 0 + j, none⟩ = some u by
        rw [Nat.zero_add]
        refine I2.out.rowAt 0 rfl ?_
        have hj : j < 4 := by have := (List.getElem?_eq_some_iff.1 hu).1; simpa using this
        rw [← hu]
        rcases (show j = 0 ∨ j = 1 ∨ j = 2 ∨ j = 3 by omega) with rfl | rfl | rfl | rfl <;> rfl))
      obtain ⟨ul, uf⟩ := I2.out.rowLt (g := B) 0 rfl
      go_upto_region 9 with (fail)
      go_region_held3 (fun _ => True) (first | go_keep | trivial) ((refine step_copyP rfl (.tmp 41) (.tmp 44) 36 36 rfl 3 Try.underlying36 (by kernel_rfl) (I2.out.ext (Below.refl _ _).drew) 4 4 4 B 0 4 8 rfl rfl [.int .i64 v, .int .i64 v, .int .i64 v, .int .i64 v] rfl HS.out (by rw [repL_len v (by omega)]; simp) (by simp [Value.oneCell']) ?_; intro w5 hS5; have S5 := Lib.hid (hS5.cast (qs := [row 3 1 (.slice (some ⟨B, 0, none⟩) 8 8) 8 (repL v 8)]) rfl); clear hS5))
      go_wp2_with fail
      go_roundg (gk - 4)
      case measure => have := I1.out; omega
      case rel => exact ⟨8, by omega, rfl, by have := I1.out; omega, S5.out⟩
    · as_aux_lemma =>
      go_wp2_with fail
      go_ret
      exact ⟨B, rfl, I2.out⟩
end Go.Proofs.Ytnalbchggjepdaa
