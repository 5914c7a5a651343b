/- How copies, numbers of 64 bits and queues that come in are opened. -/
import Derived.Test.YtalmeokljamhdaaQa
import Derived.Test.YtalmeokljamhdaaOpen
namespace Go.Proofs.Ytalmeokljamhdaa
open Go.ChangeShapes Go.WideShapes Go.ChangeAt Go.RowKit Go.Deep Go.Joins

theorem cells65 : Try.prog.cellsOf 65 = 4 := by kernel_rfl
theorem cells24' : Try.prog.cellsOf 24 = 3 := by kernel_rfl
theorem u64_bv {n : Int} (h : (Lit.int .u64 n).wf = true) : ∃ S : BitVec 64, n = (S.toNat : Int) := by
  have h1 : 0 ≤ n ∧ n < 18446744073709551616 := by
    simp only [Lit.wf, Bool.and_eq_true, decide_eq_true_eq] at h
    have e1 : IntKind.u64.min = 0 := by kernel_rfl
    have e2 : IntKind.u64.max = 18446744073709551615 := by kernel_rfl
    omega
  refine ⟨BitVec.ofNat 64 n.toNat, ?_⟩
  rw [BitVec.toNat_ofNat]
  omega
theorem open_guestsC {H : Type} {enc : TypeId × Value → H} {w : World} {base : Nat} {spare : Nat → Bool} {held : Bool} {fuel : Nat} {v : Value} {x : DataW H × List MemPlace}
    (h : DataW.trod enc Try.prog w base spare held fuel 22 [v] = some x) : ∃ (A : Option Addr) (l : List Gst) (n c : Nat), v = .slice A n c ∧ n = l.length ∧ Rd w A (flat genc l) ∧ n ≤ c := by
  rcases open_rows Try.underlying22 Try.underlying41 (by kernel_rfl) (by kernel_rfl) h with rfl | ⟨a, len, cap, rfl, hl, _, hi⟩
  · exact ⟨none, [], 0, 0, rfl, rfl, .inl rfl, Nat.le_refl _⟩
  · obtain ⟨l, hll, hr, _⟩ := rd_of_cells (Q := fun _ => True) genc 3 genc_len (by omega) (w := w) (a := a) (n := len) (fun i hil => by
      obtain ⟨n, hf⟩ := hi i hil
      obtain ⟨v0, y0, hc0, ht0⟩ := hf 0 _ rfl
      obtain ⟨v1, y1, hc1, ht1⟩ := hf 1 _ rfl
      obtain ⟨v2, y2, hc2, ht2⟩ := hf 2 _ rfl
      obtain ⟨g0, rfl, _⟩ := trod_int_val Try.underlying3 ht0
      obtain ⟨g1, rfl⟩ := trod_bool_val Try.underlying4 ht1
      obtain ⟨g2, rfl, _⟩ := trod_int_val Try.underlying3 ht2
      refine ⟨⟨g0, g1, g2⟩, trivial, ?_⟩
      rintro (_ | _ | _ | j) u hu
      · simp [genc] at hu; subst hu; exact hc0
      · simp [genc] at hu; subst hu; exact hc1
      · simp [genc] at hu; subst hu; exact hc2
      · simp [genc] at hu)
    exact ⟨some a, l, len, cap, rfl, hll.symm, hr, hl⟩
end Go.Proofs.Ytalmeokljamhdaa
