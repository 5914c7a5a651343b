/- EdgeExamples: limits, error numbers, and examples: the plain values. -/
import Derived.Test.YtalmeokljamhdaaNk
import Derived.Test.YtalmeokljamhdaaNc
namespace Go.Proofs.Ytalmeokljamhdaa
open Go.RowKit

theorem chgs_ok : chkC chgs = true := by decide
theorem exOn : onlineF chgs 9 16 = (2, 0) := by rfl
theorem exLate : lateF chgs 6 9 16 = ([⟨7, 9, true⟩], 0) := by rfl
theorem exDelta : deltaF chgs 5 7 = ([⟨7, 3, false⟩, ⟨7, 9, true⟩], 0) := by rfl
def exD : List Chg := [⟨7, 3, false⟩, ⟨7, 9, true⟩]
theorem exApply : applyF 6 10 8#64 (sealI 6 10 8 77) exD 7 77 = (7, 10, 512#64, sealI 7 10 512 77, 0) := by
  have h1 : sealedB 6 10 (8#64).toNat (sealI 6 10 8 77) 77 = true := (sealedB_own 6 10 8 77).trans rfl
  have h2 : aftF 8#64 exD = 512#64 := by rfl
  unfold applyF
  rw [if_neg (by rw [h1]; decide), if_neg (by decide), if_neg (by decide), h2]
  rfl
theorem exApply2 : applyF 6 10 8#64 (sealI 6 10 8 77) chgs 7 77 = (0, 0, 0#64, 0, 101) := by
  have h1 : sealedB 6 10 (8#64).toNat (sealI 6 10 8 77) 77 = true := (sealedB_own 6 10 8 77).trans rfl
  unfold applyF
  rw [if_neg (by rw [h1]; decide), if_neg (by decide), if_pos (by decide)]
theorem exSeal78 : sealedB 6 10 (8#64).toNat (sealI 6 10 8 77) 78 = false := by
  cases h : sealedB 6 10 (8#64).toNat (sealI 6 10 8 77) 78
  · rfl
  · obtain ⟨_, _, he⟩ := sealedB_time h
    have h1 : inB 0 1099511627776 6 = true := rfl
    have h2 : inB 0 1099511627776 10 = true := rfl
    have e1 := sealI_eq (a := 6) (m := 10) 8#64 77#64 h1 h2
    have e2 := sealI_eq (a := 6) (m := 10) 8#64 78#64 h1 h2
    have he' : sealI 6 10 (8#64).toNat (77#64).toNat = sealI 6 10 (8#64).toNat (78#64).toNat := he
    rw [e1, e2] at he'
    have := mixB_inj1 (mixB_inj1 (mixB_inj1 (toNat_inj64 he')))
    exact absurd this (by decide)
theorem exDec78 : decF 6 10 8#64 (sealI 6 10 8 77) 78 3 16 = (0, 8) := by unfold decF; rw [if_pos exSeal78]
theorem exDec64 : decF 6 10 8#64 (sealI 6 10 8 77) 77 64 16 = (0, 2) := (decF_own (S := 8#64) rfl rfl).trans rfl
theorem exDec5 : decF 6 10 8#64 (sealI 6 10 8 77) 77 3 5 = (0, 101) := (decF_own (S := 8#64) rfl rfl).trans rfl
theorem exNew : newF 9 = (0, 2) := by rfl
theorem exCall : callF 0 0 [] = (0, 0, [], 0, 6) := by rfl
def exL : List Chg := [⟨5, 0, false⟩, ⟨4, 0, false⟩]
theorem exList : listF exL 6 = (0#64, 8) := by rfl
theorem exList2 : listF [] (-1) = (0#64, 2) := by rfl
theorem exChk : chkQ 9 0 [] = false := by rfl
def exZ : List Chg := List.replicate 61 ⟨0, 0, false⟩
theorem exZchk : chkC exZ = false := by decide
end Go.Proofs.Ytalmeokljamhdaa
