/- The chapter's examples stand: alive. -/
import Derived.Test.YtalmeokljamhdaaNa
namespace Go.Proofs.Ytalmeokljamhdaa
open Go.RowKit

/-- A slice that reads as a list, and does not lie in one block. -/
def RdX (w : World) (X : Nat) (A : Option Addr) (xs : List Value) : Prop := xs = [] ∨ ∃ b off, A = some ⟨b, off, none⟩ ∧ b ≠ X ∧ b < w.heap.size ∧ ∀ j u, xs[j]? = some u → w.cell? ⟨b, off + j, none⟩ = some u
theorem RdX.rd {w : World} {X : Nat} {A : Option Addr} {xs : List Value} (h : RdX w X A xs) : Rd w A xs := by
  rcases h with h | ⟨b, off, h1, _, h3, h4⟩
  · exact .inl h
  · exact .inr ⟨b, off, h1, h3, h4⟩
theorem RdX.below {w w' : World} {X : Nat} {A : Option Addr} {xs : List Value} (h : RdX w X A xs) (hb : Below w.heap.size w w') : RdX w' X A xs := by
  rcases h with h | ⟨b, off, h1, h2, h3, h4⟩
  · exact .inl h
  · exact .inr ⟨b, off, h1, h2, by have := hb.size; omega, fun j u hu => (hb.cell (p := ⟨b, off + j, none⟩) h3).trans (h4 j u hu)⟩
theorem RdX.set {w : World} {X i : Nat} {A : Option Addr} {xs : List Value} (h : RdX w X A xs) (v : Value) : RdX (w.setCell ⟨X, i, none⟩ v) X A xs := by
  rcases h with h | ⟨b, off, h1, h2, h3, h4⟩
  · exact .inl h
  · exact .inr ⟨b, off, h1, h2, by simpa using h3, fun j u hu => (World.cell?_setCell_other w _ _ v (by intro e; injection e with e _; exact h2 e.symm)).trans (h4 j u hu)⟩
theorem RdX.far {w : World} {X Y i : Nat} {A : Option Addr} {xs : List Value} (h : RdX w X A xs) (v : Value) (hY : ∀ b off, A = some ⟨b, off, none⟩ → b < w.heap.size → b ≠ Y) : RdX (w.setCell ⟨Y, i, none⟩ v) X A xs := by
  rcases h with h | ⟨b, off, h1, h2, h3, h4⟩
  · exact .inl h
  · exact .inr ⟨b, off, h1, h2, by simpa using h3, fun j u hu => (World.cell?_setCell_other w _ _ v (by intro e; injection e with e _; exact hY b off h1 h3 e.symm)).trans (h4 j u hu)⟩
theorem Rd.toX {w : World} {X : Nat} {A : Option Addr} {xs : List Value} (h : Rd w A xs) (hX : w.heap.size ≤ X) : RdX w X A xs := by
  rcases h with h | ⟨b, off, h1, h3, h4⟩
  · exact .inl h
  · exact .inr ⟨b, off, h1, by omega, h3, h4⟩
theorem Ow.toX {w : World} {X base : Nat} {A : Option Addr} {xs : List Value} (h : Ow w base A xs) (hX : X < base) : RdX w X A xs := by
  rcases h with h | ⟨b, off, h1, h2, h3, h4, _⟩
  · exact .inl h
  · exact .inr ⟨b, off, h1, by omega, h3, h4⟩

theorem sealedB_own (a m s key : Int) : sealedB a m s (sealI a m s key) key = (inB 0 1099511627776 a && inB 0 1099511627776 m) := by simp [sealedB]
theorem decF_own {a m : Int} {S : BitVec 64} {key p now : Int} (h1 : inB 0 1099511627776 a = true) (h2 : inB 0 1099511627776 m = true) : decF a m S (sealI a m S.toNat key) key p now =
    if inB 0 63 p = false ∨ inB 0 1099511627776 now = false then (0, 2) else if now < a then (0, 101) else if m < now - a then (3, 0) else (saidF S p, 0) := by
  unfold decF
  rw [if_neg (by rw [sealedB_own, h1, h2]; simp)]
theorem list6 : listF chgs 6 = (8#64, 0) := by rfl
theorem list7 : listF chgs 7 = (512#64, 0) := by rfl
theorem copy6 : copyF chgs 6 10 77 = (6, 10, 8#64, sealI 6 10 8 77, 0) := by
  rcases copy_cases chgs 6 10 77 with ⟨h, _⟩ | ⟨_, h, _⟩ | ⟨_, _, h, _⟩ | ⟨_, _, _, h⟩
  · exact absurd h (by decide)
  · exact absurd h (by decide)
  · exact absurd h (by decide)
  · rw [h, show aftF 0#64 (betF chgs (-1) 6) = 8#64 from by rfl]; rfl
theorem dec316 : decF 6 10 8#64 (sealI 6 10 8 77) 77 3 16 = (2, 0) := (decF_own (S := 8#64) rfl rfl).trans rfl
theorem dec317 : decF 6 10 8#64 (sealI 6 10 8 77) 77 3 17 = (3, 0) := (decF_own (S := 8#64) rfl rfl).trans rfl
theorem dec916 : decF 6 10 8#64 (sealI 6 10 8 77) 77 9 16 = (1, 0) := (decF_own (S := 8#64) rfl rfl).trans rfl
theorem mix00 : (mixI 0 0 != 0) = false := by decide +kernel
theorem mix01 : (mixI 0 1 == 0) = false := by decide +kernel

def alvL : Nat → List Gst
  | 0 => lineL 4
  | 1 => [⟨0, false, 1⟩, ⟨1, false, 1⟩, ⟨3, true, 0⟩]
  | 2 => [⟨1, false, 1⟩, ⟨3, true, 0⟩]
  | 3 => [⟨3, true, 0⟩]
  | _ => []
def alvI (k : Nat) : Int := [2, 0, 1, 3].getD k 0
theorem alvL_len {k : Nat} (h : k ≤ 4) : (alvL k).length = 4 - k := by
  obtain rfl | rfl | rfl | rfl | rfl : k = 0 ∨ k = 1 ∨ k = 2 ∨ k = 3 ∨ k = 4 := by omega
  all_goals rfl
theorem callF_alv {k : Nat} (h : k < 4) : callF 1 4 (alvL k) = (1, 4, alvL (k + 1), alvI k, 0) := by
  obtain rfl | rfl | rfl | rfl : k = 0 ∨ k = 1 ∨ k = 2 ∨ k = 3 := by omega
  all_goals rfl

set_option maxRecDepth 100000 in
set_option maxHeartbeats 4000000 in
theorem alive_any (w : World) : Calls Try.prog 48 #[] w fun e w' => e = .returned (.bool true) ∧ Below w.heap.size w w' := by
  have hmx0 := Lib.hid mix00
  have hmx1 := Lib.hid mix01
  go_enter Try.func48, Try.ntmps48
  go_wp2_with fail
  refine (changes_any _).mono ?_
  rintro e w1 ⟨A1, c1, rfl, how, hb⟩
  have HO := Lib.hid how.rd
  have HB := Lib.hid hb
  clear how hb
  go_wp2_with fail
  refine (list_any _ chgs _ _ _ _ HO.out rfl (by decide)).mono ?_
  rintro e w2 ⟨rfl, hb⟩
  rw [list6]
  replace HB := Lib.hid (below_step HB.out hb)
  clear hb
  go_wp2_with fail
  refine (changes_any _).mono ?_
  rintro e w3 ⟨A3, c3, rfl, how, hb⟩
  replace HO := Lib.hid how.rd
  replace HB := Lib.hid (below_step HB.out hb)
  clear how hb
  go_wp2_with fail
  refine (list_any _ chgs _ _ _ _ HO.out rfl (by decide)).mono ?_
  rintro e w4 ⟨rfl, hb⟩
  rw [list7]
  replace HB := Lib.hid (below_step HB.out hb)
  clear hb
  go_wp2_with fail
  refine (changes_any _).mono ?_
  rintro e w5 ⟨A5, c5, rfl, how, hb⟩
  replace HO := Lib.hid how.rd
  replace HB := Lib.hid (below_step HB.out hb)
  clear how hb
  go_wp2_with fail
  refine (copy_any _ chgs _ _ _ _ _ _ HO.out rfl (by decide)).mono ?_
  rintro e w6 ⟨he, hb⟩
  rw [copy6] at he
  subst he
  replace HB := Lib.hid (below_step HB.out hb)
  clear hb HO
  have HSE : Hid (∃ q, q = sealI 6 10 8 77) := ⟨_, rfl⟩
  obtain ⟨q, hq⟩ := HSE.out
  have HD1 := Lib.hid dec316
  have HD2 := Lib.hid dec317
  have HD3 := Lib.hid dec916
  rw [← hq] at HD1 HD2 HD3
  simp only [← hq]
  clear hq HSE
  go_wp2_with fail
  refine (decide_any 6 10 8#64 q 77 3 16 _).mono ?_
  rintro e w7 ⟨rfl, hb⟩
  rw [HD1.out]
  have HX := Lib.hid ((Box.new w6 65 #[.int .i64 6, .int .i64 10, .int .u64 8, .int .u64 q]).ext hb)
  replace HB := Lib.hid (below_step HB.out (below_step (below_alloc w6 _) hb))
  clear hb
  obtain ⟨p0, p1, p2, p3, pf⟩ := HX.out.c4
  go_wp2_with fail
  refine (decide_any 6 10 8#64 q 77 3 17 _).mono ?_
  rintro e w8 ⟨rfl, hb⟩
  rw [HD2.out]
  replace HX := Lib.hid (HX.out.ext hb)
  replace HB := Lib.hid (below_step HB.out hb)
  clear hb p0 p1 p2 p3 pf
  obtain ⟨p0, p1, p2, p3, pf⟩ := HX.out.c4
  go_wp2_with fail
  refine (decide_any 6 10 8#64 q 77 9 16 _).mono ?_
  rintro e w9 ⟨rfl, hb⟩
  rw [HD3.out]
  replace HB := Lib.hid (below_step HB.out hb)
  clear hb p0 p1 p2 p3 pf
  have hm0 := hmx0.out
  have hm1 := hmx1.out
  go_wp2_with (go_at_call 33; refine (mix_any _ _ _).mono ?_; rintro e w' ⟨rfl, rfl⟩)
  refine (line_any _).mono ?_
  rintro e w10 ⟨A, c, hc, he, how, hb⟩
  simp only at hc he how
  rw [lineL_len (by omega)] at hc he
  subst he
  replace HB := Lib.hid (below_step HB.out hb)
  have HOW := Lib.hid how
  have hs10 : w9.heap.size ≤ w10.heap.size := hb.size
  clear hb how hm0 hm1 HX HD1 HD2 HD3
  go_wp2
  have hq := (Box.new w10 24 #[.int .i64 1, .int .i64 4, .slice A 4 c]).alloc (.cells #[.int .i64 2, .int .i64 0, .int .i64 1, .int .i64 3] 3)
  have hf := Box.new (w10.alloc (.cells #[.int .i64 1, .int .i64 4, .slice A 4 c] 24)) 3 #[.int .i64 2, .int .i64 0, .int .i64 1, .int .i64 3]
  have hbb := below_more (below_more HB.out (.cells #[.int .i64 1, .int .i64 4, .slice A 4 c] 24)) (.cells #[.int .i64 2, .int .i64 0, .int .i64 1, .int .i64 3] 3)
  have hoo := (HOW.out.rd.toX (Nat.le_refl _)).below (below_more (below_alloc w10 (.cells #[.int .i64 1, .int .i64 4, .slice A 4 c] 24)) (.cells #[.int .i64 2, .int .i64 0, .int .i64 1, .int .i64 3] 3))
  simp only [World.size_alloc] at hf
  generalize (w10.alloc (.cells #[.int .i64 1, .int .i64 4, .slice A 4 c] 24)).alloc (.cells #[.int .i64 2, .int .i64 0, .int .i64 1, .int .i64 3] 3) = W at *
  have hsW := hf.2.2
  have HQ := Lib.hid hq
  have HF := Lib.hid hf
  have HBB := Lib.hid hbb
  have HOO := Lib.hid hoo
  have hsw : w.heap.size ≤ w10.heap.size := HB.out.size
  clear hq hf hbb hoo HB HOW
  go_loopw [102] (fun u wr => ∃ (k : Nat) (A : Option Addr) (c n : Nat), k ≤ 4 ∧ n = 4 - k ∧ n ≤ c ∧ u = .int .i64 k ∧ Hid (Box wr w10.heap.size [.int .i64 1, .int .i64 4, .slice A n c]) ∧ Hid (RdX wr w10.heap.size A (flat genc (alvL k))) ∧ Hid (Box wr (w10.heap.size + 1) [.int .i64 2, .int .i64 0, .int .i64 1, .int .i64 3]) ∧ Hid (Below w.heap.size w wr) ∧ W.heap.size ≤ wr.heap.size) (fun u _ => 4 - (intOf u).toNat)
  case atStart => exact ⟨0, A, c, 4, by omega, rfl, hc, rfl, HQ.out, HOO.out, HF.out, HBB.out, Nat.le_refl _⟩
  case round =>
    obtain ⟨k, A, c, n, hk, hn, hc, rfl, hq, ho, hf, hb, hsz⟩ := hrel
    have HNK := Lib.hid hn
    clear hn
    have hs2 := hq.out.2.2
    obtain ⟨q0, q1, q2, qf⟩ := hq.out.c3
    by_cases hlt : k < 4
    · obtain ⟨f0, f1, f2, f3, ff⟩ := hf.out.c4
      have HC := Lib.hid (callF_alv hlt)
      have HLL := Lib.hid (alvL_len hk)
      have HLL2 := Lib.hid (alvL_len (k := k + 1) (by omega))
      have hfl : wr.cell? ⟨w10.heap.size + 1, k, none⟩ = some (.int .i64 (alvI k)) := by
        obtain rfl | rfl | rfl | rfl : k = 0 ∨ k = 1 ∨ k = 2 ∨ k = 3 := by omega
        · exact f0
        · exact f1
        · exact f2
        · exact f3
      clear f0 f1 f2 f3 ff
      generalize alvI k = fl at hfl HC
      go_wp2_with fail
      refine (call_cap 1 4 A (alvL k) n c _ ho.out.rd (by rw [HLL.out, HNK.out]) (by have := HNK.out; omega) hc).mono ?_
      rintro e w2 ⟨A2, c2, hc2, he, how2, hb2⟩
      rw [HC.out] at hc2 he how2
      simp only at hc2 he how2
      rw [HLL2.out] at hc2 he
      subst he
      have hq2 := hq.out.ext hb2
      have hf2 := hf.out.ext hb2
      have HB2 := Lib.hid (below_step hb.out hb2)
      have hsz2 : wr.heap.size ≤ w2.heap.size := hb2.size
      have HOW2 := Lib.hid how2
      clear q0 q1 q2 qf hb2 how2 hfl
      obtain ⟨q0, q1, q2, qf⟩ := hq2.c3
      have HQ2 := Lib.hid hq2
      have HF2 := Lib.hid hf2
      have hsq := hq2.2.2
      have hne : w10.heap.size ≠ w2.heap.size := by omega
      clear hq2 hf2
      generalize hm4 : 4 - (k + 1) = m at hc2 ⊢
      have HM4 := Lib.hid hm4
      clear hm4
      go_wp2
      go_roundw
      case rel =>
        refine ⟨k + 1, A2, c2, m, by omega, HM4.out.symm, hc2, by go_num, ?_, ?_, (((HF2.out.far _ (by omega)).far _ (by omega)).far _ (by omega)).alloc _, below_more (((HB2.out.setCell (by simp; omega) _).setCell (by simp; omega) _).setCell (by simp; omega) _) _, by simp; omega⟩
        · exact (((HQ2.out.set (i := 0) _ (by simp)).set (i := 1) _ (by simp)).set (i := 2) _ (by simp)).alloc _
        · exact ((((HOW2.out.toX (by omega)).set _).set _).set _).below (below_alloc _ _)
      case measure => simp [intOf]; omega
    · obtain rfl : k = 4 := by omega
      obtain rfl : n = 0 := HNK.out
      go_wp2
      go_ret
      exact ⟨rfl, hb.out⟩
end Go.Proofs.Ytalmeokljamhdaa
