/-
  No cell of these rows narrows 'for every input' (looked for: loops, veiled, ifaces, maps, wideKeys, modest, calm, conditions, laid).
  DERIVED. THE GIVEN ROWS OF THIS SEAT. 16 by the template 'for every input the law returns true; each argument reads behind the call as it read before'; 0 by the template 'total and deterministic' (their statements: YtnalbchggjepdaaTotals.lean).
  GIVEN WITH THE SEED: the statements are not yours to turn. If you find one false, say at which input.
  Laid BY PROGRAM, IN A SANDBOX (cutbox-rows.mjs): the forced cells as the released guide's own fill.sh prints them over the translation 775486688a7768a0… (all of the seat's roots in one cut). By AI agents, Wed Nov 11 2026. No macro, syntax, notation, axiom, sorry.
-/
import Derived.Test.YtnalbchggjepdaaChecked
import GoSem.Claim
import GoSem.ClaimJoined
import GoSem.ClaimMapViews
import Derived.JoinedTies
import Derived.KernelRfl
namespace Go.Proofs.Ytnalbchggjepdaa
/- THE CELL 'sum', in the pinned program and in every row, IS THE sha256 OF THE DUMP (.gsa) THAT YtnalbchggjepdaaProg.lean LOADS. Nothing in Lean hashes anything: it is a label: what it is worth is what the hold of that sum in a sandbox is worth. -/
noncomputable def Try.pinned : Pinned := { name := "ytnalbchggjepdaa", sum := "775486688a7768a0dd401c115c47c69c7d0123bc4af6d743812af116470f1d1c", checked := Try.checked }
namespace Rows
def none {H : Type} : Left H := { results := [], args := [] }

/-- 'whorllaw07.RatesTails': WHATEVER THE INPUT: true; the input reads as it did. -/
def ratesTailsSpec : ChangeSpec := { name := "ratesTails", fn := fun _ => fun
  | [d1, d2, d3, d4, d5] => { results := [.lit (.bool true)], args := [d1, d2, d3, d4, d5] }
  | _ => none }
def ratesTailsRow : OpenClaim := { program := "ytnalbchggjepdaa", sum := "775486688a7768a0dd401c115c47c69c7d0123bc4af6d743812af116470f1d1c", func := "whorl/whorllaw07.RatesTails", spec := "ratesTails", unfollowed := true, recurses := true, apart := false }
def RatesTailsSaid : Prop := ratesTailsRow.holds Try.pinned (OpenSpec.ofChange ratesTailsSpec)

/-- ITS FALSE NEIGHBOUR: 'it returns false'. Refute it at one input. -/
def ratesTailsWrong : ChangeSpec := { name := "ratesTails", fn := fun _ => fun
  | [d1, d2, d3, d4, d5] => { results := [.lit (.bool false)], args := [d1, d2, d3, d4, d5] }
  | _ => none }
def RatesTailsWrongFalsely : Prop := ratesTailsRow.holds Try.pinned (OpenSpec.ofChange ratesTailsWrong)

/-- 'whorllaw07.RatesThresholds': WHATEVER THE INPUT: true; the input reads as it did. -/
def ratesThresholdsSpec : ChangeSpec := { name := "ratesThresholds", fn := fun _ => fun
  | [d1, d2, d3] => { results := [.lit (.bool true)], args := [d1, d2, d3] }
  | _ => none }
def ratesThresholdsRow : OpenClaim := { program := "ytnalbchggjepdaa", sum := "775486688a7768a0dd401c115c47c69c7d0123bc4af6d743812af116470f1d1c", func := "whorl/whorllaw07.RatesThresholds", spec := "ratesThresholds", unfollowed := true, recurses := true, apart := false }
def RatesThresholdsSaid : Prop := ratesThresholdsRow.holds Try.pinned (OpenSpec.ofChange ratesThresholdsSpec)

/-- ITS FALSE NEIGHBOUR: 'it returns false'. Refute it at one input. -/
def ratesThresholdsWrong : ChangeSpec := { name := "ratesThresholds", fn := fun _ => fun
  | [d1, d2, d3] => { results := [.lit (.bool false)], args := [d1, d2, d3] }
  | _ => none }
def RatesThresholdsWrongFalsely : Prop := ratesThresholdsRow.holds Try.pinned (OpenSpec.ofChange ratesThresholdsWrong)

/-- 'whorllaw07.RatesGroups': WHATEVER THE INPUT: true; the input reads as it did. -/
def ratesGroupsSpec : ChangeSpec := { name := "ratesGroups", fn := fun _ => fun
  | [d1, d2, d3] => { results := [.lit (.bool true)], args := [d1, d2, d3] }
  | _ => none }
def ratesGroupsRow : OpenClaim := { program := "ytnalbchggjepdaa", sum := "775486688a7768a0dd401c115c47c69c7d0123bc4af6d743812af116470f1d1c", func := "whorl/whorllaw07.RatesGroups", spec := "ratesGroups", unfollowed := true, recurses := true, apart := false }
def RatesGroupsSaid : Prop := ratesGroupsRow.holds Try.pinned (OpenSpec.ofChange ratesGroupsSpec)

/-- ITS FALSE NEIGHBOUR: 'it returns false'. Refute it at one input. -/
def ratesGroupsWrong : ChangeSpec := { name := "ratesGroups", fn := fun _ => fun
  | [d1, d2, d3] => { results := [.lit (.bool false)], args := [d1, d2, d3] }
  | _ => none }
def RatesGroupsWrongFalsely : Prop := ratesGroupsRow.holds Try.pinned (OpenSpec.ofChange ratesGroupsWrong)

/-- 'whorllaw07.RatesFrontiers': WHATEVER THE INPUT: true; the input reads as it did. -/
def ratesFrontiersSpec : ChangeSpec := { name := "ratesFrontiers", fn := fun _ => fun
  | [d1, d2, d3] => { results := [.lit (.bool true)], args := [d1, d2, d3] }
  | _ => none }
def ratesFrontiersRow : OpenClaim := { program := "ytnalbchggjepdaa", sum := "775486688a7768a0dd401c115c47c69c7d0123bc4af6d743812af116470f1d1c", func := "whorl/whorllaw07.RatesFrontiers", spec := "ratesFrontiers", unfollowed := true, recurses := true, apart := false }
def RatesFrontiersSaid : Prop := ratesFrontiersRow.holds Try.pinned (OpenSpec.ofChange ratesFrontiersSpec)

/-- ITS FALSE NEIGHBOUR: 'it returns false'. Refute it at one input. -/
def ratesFrontiersWrong : ChangeSpec := { name := "ratesFrontiers", fn := fun _ => fun
  | [d1, d2, d3] => { results := [.lit (.bool false)], args := [d1, d2, d3] }
  | _ => none }
def RatesFrontiersWrongFalsely : Prop := ratesFrontiersRow.holds Try.pinned (OpenSpec.ofChange ratesFrontiersWrong)

/-- 'whorllaw07.RatesKept': WHATEVER THE INPUT: true; the input reads as it did. -/
def ratesKeptSpec : ChangeSpec := { name := "ratesKept", fn := fun _ => fun
  | [d1, d2] => { results := [.lit (.bool true)], args := [d1, d2] }
  | _ => none }
def ratesKeptRow : OpenClaim := { program := "ytnalbchggjepdaa", sum := "775486688a7768a0dd401c115c47c69c7d0123bc4af6d743812af116470f1d1c", func := "whorl/whorllaw07.RatesKept", spec := "ratesKept", unfollowed := true, recurses := true, apart := false }
def RatesKeptSaid : Prop := ratesKeptRow.holds Try.pinned (OpenSpec.ofChange ratesKeptSpec)

/-- ITS FALSE NEIGHBOUR: 'it returns false'. Refute it at one input. -/
def ratesKeptWrong : ChangeSpec := { name := "ratesKept", fn := fun _ => fun
  | [d1, d2] => { results := [.lit (.bool false)], args := [d1, d2] }
  | _ => none }
def RatesKeptWrongFalsely : Prop := ratesKeptRow.holds Try.pinned (OpenSpec.ofChange ratesKeptWrong)

/-- 'whorllaw07.RatesChances': WHATEVER THE INPUT: true; the input reads as it did. -/
def ratesChancesSpec : ChangeSpec := { name := "ratesChances", fn := fun _ => fun
  | [d1, d2] => { results := [.lit (.bool true)], args := [d1, d2] }
  | _ => none }
def ratesChancesRow : OpenClaim := { program := "ytnalbchggjepdaa", sum := "775486688a7768a0dd401c115c47c69c7d0123bc4af6d743812af116470f1d1c", func := "whorl/whorllaw07.RatesChances", spec := "ratesChances", unfollowed := true, recurses := true, apart := false }
def RatesChancesSaid : Prop := ratesChancesRow.holds Try.pinned (OpenSpec.ofChange ratesChancesSpec)

/-- ITS FALSE NEIGHBOUR: 'it returns false'. Refute it at one input. -/
def ratesChancesWrong : ChangeSpec := { name := "ratesChances", fn := fun _ => fun
  | [d1, d2] => { results := [.lit (.bool false)], args := [d1, d2] }
  | _ => none }
def RatesChancesWrongFalsely : Prop := ratesChancesRow.holds Try.pinned (OpenSpec.ofChange ratesChancesWrong)

/-- 'whorllaw07.RatesPlace': WHATEVER THE INPUT: true; the input reads as it did. -/
def ratesPlaceSpec : ChangeSpec := { name := "ratesPlace", fn := fun _ => fun
  | [d1, d2, d3] => { results := [.lit (.bool true)], args := [d1, d2, d3] }
  | _ => none }
def ratesPlaceRow : OpenClaim := { program := "ytnalbchggjepdaa", sum := "775486688a7768a0dd401c115c47c69c7d0123bc4af6d743812af116470f1d1c", func := "whorl/whorllaw07.RatesPlace", spec := "ratesPlace", unfollowed := true, recurses := true, apart := false }
def RatesPlaceSaid : Prop := ratesPlaceRow.holds Try.pinned (OpenSpec.ofChange ratesPlaceSpec)

/-- ITS FALSE NEIGHBOUR: 'it returns false'. Refute it at one input. -/
def ratesPlaceWrong : ChangeSpec := { name := "ratesPlace", fn := fun _ => fun
  | [d1, d2, d3] => { results := [.lit (.bool false)], args := [d1, d2, d3] }
  | _ => none }
def RatesPlaceWrongFalsely : Prop := ratesPlaceRow.holds Try.pinned (OpenSpec.ofChange ratesPlaceWrong)

/-- 'whorllaw07.RatesShares': WHATEVER THE INPUT: true; the input reads as it did. -/
def ratesSharesSpec : ChangeSpec := { name := "ratesShares", fn := fun _ => fun
  | [d1, d2, d3] => { results := [.lit (.bool true)], args := [d1, d2, d3] }
  | _ => none }
def ratesSharesRow : OpenClaim := { program := "ytnalbchggjepdaa", sum := "775486688a7768a0dd401c115c47c69c7d0123bc4af6d743812af116470f1d1c", func := "whorl/whorllaw07.RatesShares", spec := "ratesShares", unfollowed := true, recurses := true, apart := false }
def RatesSharesSaid : Prop := ratesSharesRow.holds Try.pinned (OpenSpec.ofChange ratesSharesSpec)

/-- ITS FALSE NEIGHBOUR: 'it returns false'. Refute it at one input. -/
def ratesSharesWrong : ChangeSpec := { name := "ratesShares", fn := fun _ => fun
  | [d1, d2, d3] => { results := [.lit (.bool false)], args := [d1, d2, d3] }
  | _ => none }
def RatesSharesWrongFalsely : Prop := ratesSharesRow.holds Try.pinned (OpenSpec.ofChange ratesSharesWrong)

/-- 'whorllaw07.RatesExamples': WHATEVER THE INPUT: true; the input reads as it did. -/
def ratesExamplesSpec : ChangeSpec := { name := "ratesExamples", fn := fun _ => fun
  | [] => { results := [.lit (.bool true)], args := [] }
  | _ => none }
def ratesExamplesRow : OpenClaim := { program := "ytnalbchggjepdaa", sum := "775486688a7768a0dd401c115c47c69c7d0123bc4af6d743812af116470f1d1c", func := "whorl/whorllaw07.RatesExamples", spec := "ratesExamples", unfollowed := true, recurses := true, apart := false }
def RatesExamplesSaid : Prop := ratesExamplesRow.holds Try.pinned (OpenSpec.ofChange ratesExamplesSpec)

/-- ITS FALSE NEIGHBOUR: 'it returns false'. Refute it at one input. -/
def ratesExamplesWrong : ChangeSpec := { name := "ratesExamples", fn := fun _ => fun
  | [] => { results := [.lit (.bool false)], args := [] }
  | _ => none }
def RatesExamplesWrongFalsely : Prop := ratesExamplesRow.holds Try.pinned (OpenSpec.ofChange ratesExamplesWrong)

/-- 'whorllaw07.RatesDivided': WHATEVER THE INPUT: true; the input reads as it did. -/
def ratesDividedSpec : ChangeSpec := { name := "ratesDivided", fn := fun _ => fun
  | [d1, d2, d3, d4] => { results := [.lit (.bool true)], args := [d1, d2, d3, d4] }
  | _ => none }
def ratesDividedRow : OpenClaim := { program := "ytnalbchggjepdaa", sum := "775486688a7768a0dd401c115c47c69c7d0123bc4af6d743812af116470f1d1c", func := "whorl/whorllaw07.RatesDivided", spec := "ratesDivided", unfollowed := true, recurses := true, apart := false }
def RatesDividedSaid : Prop := ratesDividedRow.holds Try.pinned (OpenSpec.ofChange ratesDividedSpec)

/-- ITS FALSE NEIGHBOUR: 'it returns false'. Refute it at one input. -/
def ratesDividedWrong : ChangeSpec := { name := "ratesDivided", fn := fun _ => fun
  | [d1, d2, d3, d4] => { results := [.lit (.bool false)], args := [d1, d2, d3, d4] }
  | _ => none }
def RatesDividedWrongFalsely : Prop := ratesDividedRow.holds Try.pinned (OpenSpec.ofChange ratesDividedWrong)

/-- 'whorllaw07.RatesShare': WHATEVER THE INPUT: true; the input reads as it did. -/
def ratesShareSpec : ChangeSpec := { name := "ratesShare", fn := fun _ => fun
  | [d1, d2, d3, d4] => { results := [.lit (.bool true)], args := [d1, d2, d3, d4] }
  | _ => none }
def ratesShareRow : OpenClaim := { program := "ytnalbchggjepdaa", sum := "775486688a7768a0dd401c115c47c69c7d0123bc4af6d743812af116470f1d1c", func := "whorl/whorllaw07.RatesShare", spec := "ratesShare", unfollowed := true, recurses := true, apart := false }
def RatesShareSaid : Prop := ratesShareRow.holds Try.pinned (OpenSpec.ofChange ratesShareSpec)

/-- ITS FALSE NEIGHBOUR: 'it returns false'. Refute it at one input. -/
def ratesShareWrong : ChangeSpec := { name := "ratesShare", fn := fun _ => fun
  | [d1, d2, d3, d4] => { results := [.lit (.bool false)], args := [d1, d2, d3, d4] }
  | _ => none }
def RatesShareWrongFalsely : Prop := ratesShareRow.holds Try.pinned (OpenSpec.ofChange ratesShareWrong)

/-- 'whorllaw07.RatesFall': WHATEVER THE INPUT: true; the input reads as it did. -/
def ratesFallSpec : ChangeSpec := { name := "ratesFall", fn := fun _ => fun
  | [d1, d2, d3, d4] => { results := [.lit (.bool true)], args := [d1, d2, d3, d4] }
  | _ => none }
def ratesFallRow : OpenClaim := { program := "ytnalbchggjepdaa", sum := "775486688a7768a0dd401c115c47c69c7d0123bc4af6d743812af116470f1d1c", func := "whorl/whorllaw07.RatesFall", spec := "ratesFall", unfollowed := true, recurses := true, apart := false }
def RatesFallSaid : Prop := ratesFallRow.holds Try.pinned (OpenSpec.ofChange ratesFallSpec)

/-- ITS FALSE NEIGHBOUR: 'it returns false'. Refute it at one input. -/
def ratesFallWrong : ChangeSpec := { name := "ratesFall", fn := fun _ => fun
  | [d1, d2, d3, d4] => { results := [.lit (.bool false)], args := [d1, d2, d3, d4] }
  | _ => none }
def RatesFallWrongFalsely : Prop := ratesFallRow.holds Try.pinned (OpenSpec.ofChange ratesFallWrong)

/-- 'whorllaw07.RatesFront': WHATEVER THE INPUT: true; the input reads as it did. -/
def ratesFrontSpec : ChangeSpec := { name := "ratesFront", fn := fun _ => fun
  | [d1, d2, d3] => { results := [.lit (.bool true)], args := [d1, d2, d3] }
  | _ => none }
def ratesFrontRow : OpenClaim := { program := "ytnalbchggjepdaa", sum := "775486688a7768a0dd401c115c47c69c7d0123bc4af6d743812af116470f1d1c", func := "whorl/whorllaw07.RatesFront", spec := "ratesFront", unfollowed := true, recurses := true, apart := false }
def RatesFrontSaid : Prop := ratesFrontRow.holds Try.pinned (OpenSpec.ofChange ratesFrontSpec)

/-- ITS FALSE NEIGHBOUR: 'it returns false'. Refute it at one input. -/
def ratesFrontWrong : ChangeSpec := { name := "ratesFront", fn := fun _ => fun
  | [d1, d2, d3] => { results := [.lit (.bool false)], args := [d1, d2, d3] }
  | _ => none }
def RatesFrontWrongFalsely : Prop := ratesFrontRow.holds Try.pinned (OpenSpec.ofChange ratesFrontWrong)

/-- 'whorllaw07.RatesBest': WHATEVER THE INPUT: true; the input reads as it did. -/
def ratesBestSpec : ChangeSpec := { name := "ratesBest", fn := fun _ => fun
  | [d] => { results := [.lit (.bool true)], args := [d] }
  | _ => none }
def ratesBestRow : OpenClaim := { program := "ytnalbchggjepdaa", sum := "775486688a7768a0dd401c115c47c69c7d0123bc4af6d743812af116470f1d1c", func := "whorl/whorllaw07.RatesBest", spec := "ratesBest", unfollowed := true, recurses := true, apart := false }
def RatesBestSaid : Prop := ratesBestRow.holds Try.pinned (OpenSpec.ofChange ratesBestSpec)

/-- ITS FALSE NEIGHBOUR: 'it returns false'. Refute it at one input. -/
def ratesBestWrong : ChangeSpec := { name := "ratesBest", fn := fun _ => fun
  | [d] => { results := [.lit (.bool false)], args := [d] }
  | _ => none }
def RatesBestWrongFalsely : Prop := ratesBestRow.holds Try.pinned (OpenSpec.ofChange ratesBestWrong)

/-- 'whorllaw07.RatesCounts': WHATEVER THE INPUT: true; the input reads as it did. -/
def ratesCountsSpec : ChangeSpec := { name := "ratesCounts", fn := fun _ => fun
  | [d1, d2, d3] => { results := [.lit (.bool true)], args := [d1, d2, d3] }
  | _ => none }
def ratesCountsRow : OpenClaim := { program := "ytnalbchggjepdaa", sum := "775486688a7768a0dd401c115c47c69c7d0123bc4af6d743812af116470f1d1c", func := "whorl/whorllaw07.RatesCounts", spec := "ratesCounts", unfollowed := true, recurses := true, apart := false }
def RatesCountsSaid : Prop := ratesCountsRow.holds Try.pinned (OpenSpec.ofChange ratesCountsSpec)

/-- ITS FALSE NEIGHBOUR: 'it returns false'. Refute it at one input. -/
def ratesCountsWrong : ChangeSpec := { name := "ratesCounts", fn := fun _ => fun
  | [d1, d2, d3] => { results := [.lit (.bool false)], args := [d1, d2, d3] }
  | _ => none }
def RatesCountsWrongFalsely : Prop := ratesCountsRow.holds Try.pinned (OpenSpec.ofChange ratesCountsWrong)

/-- 'whorllaw07.RatesGroup': WHATEVER THE INPUT: true; the input reads as it did. -/
def ratesGroupSpec : ChangeSpec := { name := "ratesGroup", fn := fun _ => fun
  | [d1, d2] => { results := [.lit (.bool true)], args := [d1, d2] }
  | _ => none }
def ratesGroupRow : OpenClaim := { program := "ytnalbchggjepdaa", sum := "775486688a7768a0dd401c115c47c69c7d0123bc4af6d743812af116470f1d1c", func := "whorl/whorllaw07.RatesGroup", spec := "ratesGroup", unfollowed := true, recurses := true, apart := false }
def RatesGroupSaid : Prop := ratesGroupRow.holds Try.pinned (OpenSpec.ofChange ratesGroupSpec)

/-- ITS FALSE NEIGHBOUR: 'it returns false'. Refute it at one input. -/
def ratesGroupWrong : ChangeSpec := { name := "ratesGroup", fn := fun _ => fun
  | [d1, d2] => { results := [.lit (.bool false)], args := [d1, d2] }
  | _ => none }
def RatesGroupWrongFalsely : Prop := ratesGroupRow.holds Try.pinned (OpenSpec.ofChange ratesGroupWrong)

/- THE SECOND FORM. 'bulk': how many values and letters a reading holds, each counted each time it is reached (what is shared counts as often as it is met; a slice's spare places count too). A statement '..UptoSaid' is the law's where the arguments, and the package variables that the reading takes, are together of bulk at most 1048576: NARROWER than '..Said'. Prove '..Said' where nothing that the law and all that it calls make is longer than what came in: it says more and counts as full. Else prove '..UptoSaid'. A law counts once. -/
mutual
def uptoBulk {H : Type} : DataW H → Nat
  | .lit (.string bytes) => bytes.length + 1
  | .lit _ => 1
  | .nil => 1
  | .ptr d => uptoBulk d + 1
  | .slice elems spare => uptoBulkAll elems + uptoBulkAll spare + 1
  | .agg parts => uptoBulkAll parts + 1
  | .iface _ d => uptoBulk d + 1
  | .map entries => uptoBulkEntries entries + 1
  | .held _ => 1
def uptoBulkAll {H : Type} : List (DataW H) → Nat
  | [] => 0
  | d :: r => uptoBulk d + uptoBulkAll r
def uptoBulkEntries {H : Type} : List (Lit × DataW H) → Nat
  | [] => 0
  | x :: r => uptoBulkEntry x + uptoBulkEntries r
def uptoBulkEntry {H : Type} : Lit × DataW H → Nat
  | (.string bytes, d) => bytes.length + uptoBulk d + 1
  | (_, d) => uptoBulk d + 1
 end
def uptoSmall : (H : Type) → List (DataW H) → Bool := fun _ ds => decide (uptoBulkAll ds ≤ 1048576)
def OpenSpec.upto (s : _root_.Go.ChangeSpec) : _root_.Go.OpenSpec := { _root_.Go.OpenSpec.ofChange s with cond := some uptoSmall }

/-- 'whorllaw07.RatesTails', WHERE WHAT IT READS IS OF BULK AT MOST 1048576: true; the input reads as it did. -/
def ratesTailsUptoRow : OpenClaim := { program := "ytnalbchggjepdaa", sum := "775486688a7768a0dd401c115c47c69c7d0123bc4af6d743812af116470f1d1c", func := "whorl/whorllaw07.RatesTails", spec := "ratesTails", unfollowed := true, recurses := true, apart := false, narrowed := true }
def RatesTailsUptoSaid : Prop := ratesTailsUptoRow.holds Try.pinned (OpenSpec.upto ratesTailsSpec)

/-- 'whorllaw07.RatesThresholds', WHERE WHAT IT READS IS OF BULK AT MOST 1048576: true; the input reads as it did. -/
def ratesThresholdsUptoRow : OpenClaim := { program := "ytnalbchggjepdaa", sum := "775486688a7768a0dd401c115c47c69c7d0123bc4af6d743812af116470f1d1c", func := "whorl/whorllaw07.RatesThresholds", spec := "ratesThresholds", unfollowed := true, recurses := true, apart := false, narrowed := true }
def RatesThresholdsUptoSaid : Prop := ratesThresholdsUptoRow.holds Try.pinned (OpenSpec.upto ratesThresholdsSpec)

/-- 'whorllaw07.RatesGroups', WHERE WHAT IT READS IS OF BULK AT MOST 1048576: true; the input reads as it did. -/
def ratesGroupsUptoRow : OpenClaim := { program := "ytnalbchggjepdaa", sum := "775486688a7768a0dd401c115c47c69c7d0123bc4af6d743812af116470f1d1c", func := "whorl/whorllaw07.RatesGroups", spec := "ratesGroups", unfollowed := true, recurses := true, apart := false, narrowed := true }
def RatesGroupsUptoSaid : Prop := ratesGroupsUptoRow.holds Try.pinned (OpenSpec.upto ratesGroupsSpec)

/-- 'whorllaw07.RatesFrontiers', WHERE WHAT IT READS IS OF BULK AT MOST 1048576: true; the input reads as it did. -/
def ratesFrontiersUptoRow : OpenClaim := { program := "ytnalbchggjepdaa", sum := "775486688a7768a0dd401c115c47c69c7d0123bc4af6d743812af116470f1d1c", func := "whorl/whorllaw07.RatesFrontiers", spec := "ratesFrontiers", unfollowed := true, recurses := true, apart := false, narrowed := true }
def RatesFrontiersUptoSaid : Prop := ratesFrontiersUptoRow.holds Try.pinned (OpenSpec.upto ratesFrontiersSpec)

/-- 'whorllaw07.RatesKept', WHERE WHAT IT READS IS OF BULK AT MOST 1048576: true; the input reads as it did. -/
def ratesKeptUptoRow : OpenClaim := { program := "ytnalbchggjepdaa", sum := "775486688a7768a0dd401c115c47c69c7d0123bc4af6d743812af116470f1d1c", func := "whorl/whorllaw07.RatesKept", spec := "ratesKept", unfollowed := true, recurses := true, apart := false, narrowed := true }
def RatesKeptUptoSaid : Prop := ratesKeptUptoRow.holds Try.pinned (OpenSpec.upto ratesKeptSpec)

/-- 'whorllaw07.RatesChances', WHERE WHAT IT READS IS OF BULK AT MOST 1048576: true; the input reads as it did. -/
def ratesChancesUptoRow : OpenClaim := { program := "ytnalbchggjepdaa", sum := "775486688a7768a0dd401c115c47c69c7d0123bc4af6d743812af116470f1d1c", func := "whorl/whorllaw07.RatesChances", spec := "ratesChances", unfollowed := true, recurses := true, apart := false, narrowed := true }
def RatesChancesUptoSaid : Prop := ratesChancesUptoRow.holds Try.pinned (OpenSpec.upto ratesChancesSpec)

/-- 'whorllaw07.RatesPlace', WHERE WHAT IT READS IS OF BULK AT MOST 1048576: true; the input reads as it did. -/
def ratesPlaceUptoRow : OpenClaim := { program := "ytnalbchggjepdaa", sum := "775486688a7768a0dd401c115c47c69c7d0123bc4af6d743812af116470f1d1c", func := "whorl/whorllaw07.RatesPlace", spec := "ratesPlace", unfollowed := true, recurses := true, apart := false, narrowed := true }
def RatesPlaceUptoSaid : Prop := ratesPlaceUptoRow.holds Try.pinned (OpenSpec.upto ratesPlaceSpec)

/-- 'whorllaw07.RatesShares', WHERE WHAT IT READS IS OF BULK AT MOST 1048576: true; the input reads as it did. -/
def ratesSharesUptoRow : OpenClaim := { program := "ytnalbchggjepdaa", sum := "775486688a7768a0dd401c115c47c69c7d0123bc4af6d743812af116470f1d1c", func := "whorl/whorllaw07.RatesShares", spec := "ratesShares", unfollowed := true, recurses := true, apart := false, narrowed := true }
def RatesSharesUptoSaid : Prop := ratesSharesUptoRow.holds Try.pinned (OpenSpec.upto ratesSharesSpec)

/-- 'whorllaw07.RatesExamples', WHERE WHAT IT READS IS OF BULK AT MOST 1048576: true; the input reads as it did. -/
def ratesExamplesUptoRow : OpenClaim := { program := "ytnalbchggjepdaa", sum := "775486688a7768a0dd401c115c47c69c7d0123bc4af6d743812af116470f1d1c", func := "whorl/whorllaw07.RatesExamples", spec := "ratesExamples", unfollowed := true, recurses := true, apart := false, narrowed := true }
def RatesExamplesUptoSaid : Prop := ratesExamplesUptoRow.holds Try.pinned (OpenSpec.upto ratesExamplesSpec)

/-- 'whorllaw07.RatesDivided', WHERE WHAT IT READS IS OF BULK AT MOST 1048576: true; the input reads as it did. -/
def ratesDividedUptoRow : OpenClaim := { program := "ytnalbchggjepdaa", sum := "775486688a7768a0dd401c115c47c69c7d0123bc4af6d743812af116470f1d1c", func := "whorl/whorllaw07.RatesDivided", spec := "ratesDivided", unfollowed := true, recurses := true, apart := false, narrowed := true }
def RatesDividedUptoSaid : Prop := ratesDividedUptoRow.holds Try.pinned (OpenSpec.upto ratesDividedSpec)

/-- 'whorllaw07.RatesShare', WHERE WHAT IT READS IS OF BULK AT MOST 1048576: true; the input reads as it did. -/
def ratesShareUptoRow : OpenClaim := { program := "ytnalbchggjepdaa", sum := "775486688a7768a0dd401c115c47c69c7d0123bc4af6d743812af116470f1d1c", func := "whorl/whorllaw07.RatesShare", spec := "ratesShare", unfollowed := true, recurses := true, apart := false, narrowed := true }
def RatesShareUptoSaid : Prop := ratesShareUptoRow.holds Try.pinned (OpenSpec.upto ratesShareSpec)

/-- 'whorllaw07.RatesFall', WHERE WHAT IT READS IS OF BULK AT MOST 1048576: true; the input reads as it did. -/
def ratesFallUptoRow : OpenClaim := { program := "ytnalbchggjepdaa", sum := "775486688a7768a0dd401c115c47c69c7d0123bc4af6d743812af116470f1d1c", func := "whorl/whorllaw07.RatesFall", spec := "ratesFall", unfollowed := true, recurses := true, apart := false, narrowed := true }
def RatesFallUptoSaid : Prop := ratesFallUptoRow.holds Try.pinned (OpenSpec.upto ratesFallSpec)

/-- 'whorllaw07.RatesFront', WHERE WHAT IT READS IS OF BULK AT MOST 1048576: true; the input reads as it did. -/
def ratesFrontUptoRow : OpenClaim := { program := "ytnalbchggjepdaa", sum := "775486688a7768a0dd401c115c47c69c7d0123bc4af6d743812af116470f1d1c", func := "whorl/whorllaw07.RatesFront", spec := "ratesFront", unfollowed := true, recurses := true, apart := false, narrowed := true }
def RatesFrontUptoSaid : Prop := ratesFrontUptoRow.holds Try.pinned (OpenSpec.upto ratesFrontSpec)

/-- 'whorllaw07.RatesBest', WHERE WHAT IT READS IS OF BULK AT MOST 1048576: true; the input reads as it did. -/
def ratesBestUptoRow : OpenClaim := { program := "ytnalbchggjepdaa", sum := "775486688a7768a0dd401c115c47c69c7d0123bc4af6d743812af116470f1d1c", func := "whorl/whorllaw07.RatesBest", spec := "ratesBest", unfollowed := true, recurses := true, apart := false, narrowed := true }
def RatesBestUptoSaid : Prop := ratesBestUptoRow.holds Try.pinned (OpenSpec.upto ratesBestSpec)

/-- 'whorllaw07.RatesCounts', WHERE WHAT IT READS IS OF BULK AT MOST 1048576: true; the input reads as it did. -/
def ratesCountsUptoRow : OpenClaim := { program := "ytnalbchggjepdaa", sum := "775486688a7768a0dd401c115c47c69c7d0123bc4af6d743812af116470f1d1c", func := "whorl/whorllaw07.RatesCounts", spec := "ratesCounts", unfollowed := true, recurses := true, apart := false, narrowed := true }
def RatesCountsUptoSaid : Prop := ratesCountsUptoRow.holds Try.pinned (OpenSpec.upto ratesCountsSpec)

/-- 'whorllaw07.RatesGroup', WHERE WHAT IT READS IS OF BULK AT MOST 1048576: true; the input reads as it did. -/
def ratesGroupUptoRow : OpenClaim := { program := "ytnalbchggjepdaa", sum := "775486688a7768a0dd401c115c47c69c7d0123bc4af6d743812af116470f1d1c", func := "whorl/whorllaw07.RatesGroup", spec := "ratesGroup", unfollowed := true, recurses := true, apart := false, narrowed := true }
def RatesGroupUptoSaid : Prop := ratesGroupUptoRow.holds Try.pinned (OpenSpec.upto ratesGroupSpec)

end Rows
end Go.Proofs.Ytnalbchggjepdaa
