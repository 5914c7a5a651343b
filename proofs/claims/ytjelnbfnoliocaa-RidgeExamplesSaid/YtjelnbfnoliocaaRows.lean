/-
  No cell of these rows narrows 'for every input' (looked for: loops, veiled, ifaces, maps, wideKeys, modest, calm, conditions, laid).
  DERIVED. THE GIVEN ROWS OF THIS SEAT. 13 by the template 'for every input the law returns true; each argument reads behind the call as it read before'; 0 by the template 'total and deterministic' (their statements: YtjelnbfnoliocaaTotals.lean).
  GIVEN WITH THE SEED: the statements are not yours to turn. If you find one false, say at which input.
  Laid BY PROGRAM, IN A SANDBOX (cutbox-rows.mjs): the forced cells as the released guide's own fill.sh prints them over the translation 15e83db92835e891… (all of the seat's roots in one cut). By AI agents, Wed Nov 11 2026. No macro, syntax, notation, axiom, sorry.
-/
import Derived.Test.YtjelnbfnoliocaaChecked
import GoSem.Claim
import GoSem.ClaimJoined
import GoSem.ClaimMapViews
import Derived.JoinedTies
import Derived.KernelRfl
namespace Go.Proofs.Ytjelnbfnoliocaa
/- THE CELL 'sum', in the pinned program and in every row, IS THE sha256 OF THE DUMP (.gsa) THAT YtjelnbfnoliocaaProg.lean LOADS. Nothing in Lean hashes anything: it is a label: what it is worth is what the hold of that sum in a sandbox is worth. -/
noncomputable def Try.pinned : Pinned := { name := "ytjelnbfnoliocaa", sum := "15e83db92835e8917015c7fc0d6a8dae6b0bee44217577e6d7ebc3669b350d27", checked := Try.checked }
namespace Rows
def none {H : Type} : Left H := { results := [], args := [] }

/-- 'whorllaw01.RidgeBits': WHATEVER THE INPUT: true; the input reads as it did. -/
def ridgeBitsSpec : ChangeSpec := { name := "ridgeBits", fn := fun _ => fun
  | [d1, d2, d3] => { results := [.lit (.bool true)], args := [d1, d2, d3] }
  | _ => none }
def ridgeBitsRow : OpenClaim := { program := "ytjelnbfnoliocaa", sum := "15e83db92835e8917015c7fc0d6a8dae6b0bee44217577e6d7ebc3669b350d27", func := "whorl/whorllaw01.RidgeBits", spec := "ridgeBits", unfollowed := true, recurses := true, apart := false }
def RidgeBitsSaid : Prop := ridgeBitsRow.holds Try.pinned (OpenSpec.ofChange ridgeBitsSpec)

/-- ITS FALSE NEIGHBOUR: 'it returns false'. Refute it at one input. -/
def ridgeBitsWrong : ChangeSpec := { name := "ridgeBits", fn := fun _ => fun
  | [d1, d2, d3] => { results := [.lit (.bool false)], args := [d1, d2, d3] }
  | _ => none }
def RidgeBitsWrongFalsely : Prop := ridgeBitsRow.holds Try.pinned (OpenSpec.ofChange ridgeBitsWrong)

/-- 'whorllaw01.RidgePoints': WHATEVER THE INPUT: true; the input reads as it did. -/
def ridgePointsSpec : ChangeSpec := { name := "ridgePoints", fn := fun _ => fun
  | [d1, d2, d3] => { results := [.lit (.bool true)], args := [d1, d2, d3] }
  | _ => none }
def ridgePointsRow : OpenClaim := { program := "ytjelnbfnoliocaa", sum := "15e83db92835e8917015c7fc0d6a8dae6b0bee44217577e6d7ebc3669b350d27", func := "whorl/whorllaw01.RidgePoints", spec := "ridgePoints", unfollowed := true, recurses := true, apart := false }
def RidgePointsSaid : Prop := ridgePointsRow.holds Try.pinned (OpenSpec.ofChange ridgePointsSpec)

/-- ITS FALSE NEIGHBOUR: 'it returns false'. Refute it at one input. -/
def ridgePointsWrong : ChangeSpec := { name := "ridgePoints", fn := fun _ => fun
  | [d1, d2, d3] => { results := [.lit (.bool false)], args := [d1, d2, d3] }
  | _ => none }
def RidgePointsWrongFalsely : Prop := ridgePointsRow.holds Try.pinned (OpenSpec.ofChange ridgePointsWrong)

/-- 'whorllaw01.RidgeThins': WHATEVER THE INPUT: true; the input reads as it did. -/
def ridgeThinsSpec : ChangeSpec := { name := "ridgeThins", fn := fun _ => fun
  | [d1, d2] => { results := [.lit (.bool true)], args := [d1, d2] }
  | _ => none }
def ridgeThinsRow : OpenClaim := { program := "ytjelnbfnoliocaa", sum := "15e83db92835e8917015c7fc0d6a8dae6b0bee44217577e6d7ebc3669b350d27", func := "whorl/whorllaw01.RidgeThins", spec := "ridgeThins", unfollowed := true, recurses := true, apart := false }
def RidgeThinsSaid : Prop := ridgeThinsRow.holds Try.pinned (OpenSpec.ofChange ridgeThinsSpec)

/-- ITS FALSE NEIGHBOUR: 'it returns false'. Refute it at one input. -/
def ridgeThinsWrong : ChangeSpec := { name := "ridgeThins", fn := fun _ => fun
  | [d1, d2] => { results := [.lit (.bool false)], args := [d1, d2] }
  | _ => none }
def RidgeThinsWrongFalsely : Prop := ridgeThinsRow.holds Try.pinned (OpenSpec.ofChange ridgeThinsWrong)

/-- 'whorllaw01.RidgeSure': WHATEVER THE INPUT: true; the input reads as it did. -/
def ridgeSureSpec : ChangeSpec := { name := "ridgeSure", fn := fun _ => fun
  | [d1, d2, d3, d4, d5] => { results := [.lit (.bool true)], args := [d1, d2, d3, d4, d5] }
  | _ => none }
def ridgeSureRow : OpenClaim := { program := "ytjelnbfnoliocaa", sum := "15e83db92835e8917015c7fc0d6a8dae6b0bee44217577e6d7ebc3669b350d27", func := "whorl/whorllaw01.RidgeSure", spec := "ridgeSure", unfollowed := true, recurses := true, apart := false }
def RidgeSureSaid : Prop := ridgeSureRow.holds Try.pinned (OpenSpec.ofChange ridgeSureSpec)

/-- ITS FALSE NEIGHBOUR: 'it returns false'. Refute it at one input. -/
def ridgeSureWrong : ChangeSpec := { name := "ridgeSure", fn := fun _ => fun
  | [d1, d2, d3, d4, d5] => { results := [.lit (.bool false)], args := [d1, d2, d3, d4, d5] }
  | _ => none }
def RidgeSureWrongFalsely : Prop := ridgeSureRow.holds Try.pinned (OpenSpec.ofChange ridgeSureWrong)

/-- 'whorllaw01.RidgeShape': WHATEVER THE INPUT: true; the input reads as it did. -/
def ridgeShapeSpec : ChangeSpec := { name := "ridgeShape", fn := fun _ => fun
  | [d] => { results := [.lit (.bool true)], args := [d] }
  | _ => none }
def ridgeShapeRow : OpenClaim := { program := "ytjelnbfnoliocaa", sum := "15e83db92835e8917015c7fc0d6a8dae6b0bee44217577e6d7ebc3669b350d27", func := "whorl/whorllaw01.RidgeShape", spec := "ridgeShape", unfollowed := true, recurses := true, apart := false }
def RidgeShapeSaid : Prop := ridgeShapeRow.holds Try.pinned (OpenSpec.ofChange ridgeShapeSpec)

/-- ITS FALSE NEIGHBOUR: 'it returns false'. Refute it at one input. -/
def ridgeShapeWrong : ChangeSpec := { name := "ridgeShape", fn := fun _ => fun
  | [d] => { results := [.lit (.bool false)], args := [d] }
  | _ => none }
def RidgeShapeWrongFalsely : Prop := ridgeShapeRow.holds Try.pinned (OpenSpec.ofChange ridgeShapeWrong)

/-- 'whorllaw01.RidgeEnds': WHATEVER THE INPUT: true; the input reads as it did. -/
def ridgeEndsSpec : ChangeSpec := { name := "ridgeEnds", fn := fun _ => fun
  | [d] => { results := [.lit (.bool true)], args := [d] }
  | _ => none }
def ridgeEndsRow : OpenClaim := { program := "ytjelnbfnoliocaa", sum := "15e83db92835e8917015c7fc0d6a8dae6b0bee44217577e6d7ebc3669b350d27", func := "whorl/whorllaw01.RidgeEnds", spec := "ridgeEnds", unfollowed := true, recurses := true, apart := false }
def RidgeEndsSaid : Prop := ridgeEndsRow.holds Try.pinned (OpenSpec.ofChange ridgeEndsSpec)

/-- ITS FALSE NEIGHBOUR: 'it returns false'. Refute it at one input. -/
def ridgeEndsWrong : ChangeSpec := { name := "ridgeEnds", fn := fun _ => fun
  | [d] => { results := [.lit (.bool false)], args := [d] }
  | _ => none }
def RidgeEndsWrongFalsely : Prop := ridgeEndsRow.holds Try.pinned (OpenSpec.ofChange ridgeEndsWrong)

/-- 'whorllaw01.RidgeEuler': WHATEVER THE INPUT: true; the input reads as it did. -/
def ridgeEulerSpec : ChangeSpec := { name := "ridgeEuler", fn := fun _ => fun
  | [d] => { results := [.lit (.bool true)], args := [d] }
  | _ => none }
def ridgeEulerRow : OpenClaim := { program := "ytjelnbfnoliocaa", sum := "15e83db92835e8917015c7fc0d6a8dae6b0bee44217577e6d7ebc3669b350d27", func := "whorl/whorllaw01.RidgeEuler", spec := "ridgeEuler", unfollowed := true, recurses := true, apart := false }
def RidgeEulerSaid : Prop := ridgeEulerRow.holds Try.pinned (OpenSpec.ofChange ridgeEulerSpec)

/-- ITS FALSE NEIGHBOUR: 'it returns false'. Refute it at one input. -/
def ridgeEulerWrong : ChangeSpec := { name := "ridgeEuler", fn := fun _ => fun
  | [d] => { results := [.lit (.bool false)], args := [d] }
  | _ => none }
def RidgeEulerWrongFalsely : Prop := ridgeEulerRow.holds Try.pinned (OpenSpec.ofChange ridgeEulerWrong)

/-- 'whorllaw01.RidgeMoved': WHATEVER THE INPUT: true; the input reads as it did. -/
def ridgeMovedSpec : ChangeSpec := { name := "ridgeMoved", fn := fun _ => fun
  | [d1, d2, d3, d4, d5] => { results := [.lit (.bool true)], args := [d1, d2, d3, d4, d5] }
  | _ => none }
def ridgeMovedRow : OpenClaim := { program := "ytjelnbfnoliocaa", sum := "15e83db92835e8917015c7fc0d6a8dae6b0bee44217577e6d7ebc3669b350d27", func := "whorl/whorllaw01.RidgeMoved", spec := "ridgeMoved", unfollowed := true, recurses := true, apart := false }
def RidgeMovedSaid : Prop := ridgeMovedRow.holds Try.pinned (OpenSpec.ofChange ridgeMovedSpec)

/-- ITS FALSE NEIGHBOUR: 'it returns false'. Refute it at one input. -/
def ridgeMovedWrong : ChangeSpec := { name := "ridgeMoved", fn := fun _ => fun
  | [d1, d2, d3, d4, d5] => { results := [.lit (.bool false)], args := [d1, d2, d3, d4, d5] }
  | _ => none }
def RidgeMovedWrongFalsely : Prop := ridgeMovedRow.holds Try.pinned (OpenSpec.ofChange ridgeMovedWrong)

/-- 'whorllaw01.RidgeEdges': WHATEVER THE INPUT: true; the input reads as it did. -/
def ridgeEdgesSpec : ChangeSpec := { name := "ridgeEdges", fn := fun _ => fun
  | [d1, d2, d3] => { results := [.lit (.bool true)], args := [d1, d2, d3] }
  | _ => none }
def ridgeEdgesRow : OpenClaim := { program := "ytjelnbfnoliocaa", sum := "15e83db92835e8917015c7fc0d6a8dae6b0bee44217577e6d7ebc3669b350d27", func := "whorl/whorllaw01.RidgeEdges", spec := "ridgeEdges", unfollowed := true, recurses := true, apart := false }
def RidgeEdgesSaid : Prop := ridgeEdgesRow.holds Try.pinned (OpenSpec.ofChange ridgeEdgesSpec)

/-- ITS FALSE NEIGHBOUR: 'it returns false'. Refute it at one input. -/
def ridgeEdgesWrong : ChangeSpec := { name := "ridgeEdges", fn := fun _ => fun
  | [d1, d2, d3] => { results := [.lit (.bool false)], args := [d1, d2, d3] }
  | _ => none }
def RidgeEdgesWrongFalsely : Prop := ridgeEdgesRow.holds Try.pinned (OpenSpec.ofChange ridgeEdgesWrong)

/-- 'whorllaw01.RidgeInverse': WHATEVER THE INPUT: true; the input reads as it did. -/
def ridgeInverseSpec : ChangeSpec := { name := "ridgeInverse", fn := fun _ => fun
  | [d1, d2, d3] => { results := [.lit (.bool true)], args := [d1, d2, d3] }
  | _ => none }
def ridgeInverseRow : OpenClaim := { program := "ytjelnbfnoliocaa", sum := "15e83db92835e8917015c7fc0d6a8dae6b0bee44217577e6d7ebc3669b350d27", func := "whorl/whorllaw01.RidgeInverse", spec := "ridgeInverse", unfollowed := true, recurses := true, apart := false }
def RidgeInverseSaid : Prop := ridgeInverseRow.holds Try.pinned (OpenSpec.ofChange ridgeInverseSpec)

/-- ITS FALSE NEIGHBOUR: 'it returns false'. Refute it at one input. -/
def ridgeInverseWrong : ChangeSpec := { name := "ridgeInverse", fn := fun _ => fun
  | [d1, d2, d3] => { results := [.lit (.bool false)], args := [d1, d2, d3] }
  | _ => none }
def RidgeInverseWrongFalsely : Prop := ridgeInverseRow.holds Try.pinned (OpenSpec.ofChange ridgeInverseWrong)

/-- 'whorllaw01.RidgeThinned': WHATEVER THE INPUT: true; the input reads as it did. -/
def ridgeThinnedSpec : ChangeSpec := { name := "ridgeThinned", fn := fun _ => fun
  | [d] => { results := [.lit (.bool true)], args := [d] }
  | _ => none }
def ridgeThinnedRow : OpenClaim := { program := "ytjelnbfnoliocaa", sum := "15e83db92835e8917015c7fc0d6a8dae6b0bee44217577e6d7ebc3669b350d27", func := "whorl/whorllaw01.RidgeThinned", spec := "ridgeThinned", unfollowed := true, recurses := true, apart := false }
def RidgeThinnedSaid : Prop := ridgeThinnedRow.holds Try.pinned (OpenSpec.ofChange ridgeThinnedSpec)

/-- ITS FALSE NEIGHBOUR: 'it returns false'. Refute it at one input. -/
def ridgeThinnedWrong : ChangeSpec := { name := "ridgeThinned", fn := fun _ => fun
  | [d] => { results := [.lit (.bool false)], args := [d] }
  | _ => none }
def RidgeThinnedWrongFalsely : Prop := ridgeThinnedRow.holds Try.pinned (OpenSpec.ofChange ridgeThinnedWrong)

/-- 'whorllaw01.RidgeSimple': WHATEVER THE INPUT: true; the input reads as it did. -/
def ridgeSimpleSpec : ChangeSpec := { name := "ridgeSimple", fn := fun _ => fun
  | [d1, d2, d3] => { results := [.lit (.bool true)], args := [d1, d2, d3] }
  | _ => none }
def ridgeSimpleRow : OpenClaim := { program := "ytjelnbfnoliocaa", sum := "15e83db92835e8917015c7fc0d6a8dae6b0bee44217577e6d7ebc3669b350d27", func := "whorl/whorllaw01.RidgeSimple", spec := "ridgeSimple", unfollowed := true, recurses := true, apart := false }
def RidgeSimpleSaid : Prop := ridgeSimpleRow.holds Try.pinned (OpenSpec.ofChange ridgeSimpleSpec)

/-- ITS FALSE NEIGHBOUR: 'it returns false'. Refute it at one input. -/
def ridgeSimpleWrong : ChangeSpec := { name := "ridgeSimple", fn := fun _ => fun
  | [d1, d2, d3] => { results := [.lit (.bool false)], args := [d1, d2, d3] }
  | _ => none }
def RidgeSimpleWrongFalsely : Prop := ridgeSimpleRow.holds Try.pinned (OpenSpec.ofChange ridgeSimpleWrong)

/-- 'whorllaw01.RidgeExamples': WHATEVER THE INPUT: true; the input reads as it did. -/
def ridgeExamplesSpec : ChangeSpec := { name := "ridgeExamples", fn := fun _ => fun
  | [] => { results := [.lit (.bool true)], args := [] }
  | _ => none }
def ridgeExamplesRow : OpenClaim := { program := "ytjelnbfnoliocaa", sum := "15e83db92835e8917015c7fc0d6a8dae6b0bee44217577e6d7ebc3669b350d27", func := "whorl/whorllaw01.RidgeExamples", spec := "ridgeExamples", unfollowed := true, recurses := true, apart := false }
def RidgeExamplesSaid : Prop := ridgeExamplesRow.holds Try.pinned (OpenSpec.ofChange ridgeExamplesSpec)

/-- ITS FALSE NEIGHBOUR: 'it returns false'. Refute it at one input. -/
def ridgeExamplesWrong : ChangeSpec := { name := "ridgeExamples", fn := fun _ => fun
  | [] => { results := [.lit (.bool false)], args := [] }
  | _ => none }
def RidgeExamplesWrongFalsely : Prop := ridgeExamplesRow.holds Try.pinned (OpenSpec.ofChange ridgeExamplesWrong)

/- THE SECOND FORM. 'bulk': how many values and letters a reading holds, each counted each time it is reached (what is shared counts as often as it is met; a slice's spare places count too). A statement '..UptoSaid' is the law's where the arguments, and the package variables that the reading takes, are together of bulk at most 1048576: NARROWER than '..Said'. Prove '..Said' where nothing that the law and all that it calls make is longer than what came in: it says more and counts as full. Else prove '..UptoSaid'. A law counts once. -/
mutual
def uptoBulk {H : Type} : DataW H → Nat
  | .lit (.string bytes) => bytes.length + 1
  | .lit _ => 1
  | .nil => 1
  | .ptr d => uptoBulk d + 1
  | .slice elems spare => uptoBulkAll elems + uptoBulkAll spare + 1
  | .agg parts => uptoBulkAll parts + 1
  | .iface _ d => uptoBulk d + 1
  | .map entries => uptoBulkEntries entries + 1
  | .held _ => 1
def uptoBulkAll {H : Type} : List (DataW H) → Nat
  | [] => 0
  | d :: r => uptoBulk d + uptoBulkAll r
def uptoBulkEntries {H : Type} : List (Lit × DataW H) → Nat
  | [] => 0
  | x :: r => uptoBulkEntry x + uptoBulkEntries r
def uptoBulkEntry {H : Type} : Lit × DataW H → Nat
  | (.string bytes, d) => bytes.length + uptoBulk d + 1
  | (_, d) => uptoBulk d + 1
 end
def uptoSmall : (H : Type) → List (DataW H) → Bool := fun _ ds => decide (uptoBulkAll ds ≤ 1048576)
def OpenSpec.upto (s : _root_.Go.ChangeSpec) : _root_.Go.OpenSpec := { _root_.Go.OpenSpec.ofChange s with cond := some uptoSmall }

/-- 'whorllaw01.RidgeBits', WHERE WHAT IT READS IS OF BULK AT MOST 1048576: true; the input reads as it did. -/
def ridgeBitsUptoRow : OpenClaim := { program := "ytjelnbfnoliocaa", sum := "15e83db92835e8917015c7fc0d6a8dae6b0bee44217577e6d7ebc3669b350d27", func := "whorl/whorllaw01.RidgeBits", spec := "ridgeBits", unfollowed := true, recurses := true, apart := false, narrowed := true }
def RidgeBitsUptoSaid : Prop := ridgeBitsUptoRow.holds Try.pinned (OpenSpec.upto ridgeBitsSpec)

/-- 'whorllaw01.RidgePoints', WHERE WHAT IT READS IS OF BULK AT MOST 1048576: true; the input reads as it did. -/
def ridgePointsUptoRow : OpenClaim := { program := "ytjelnbfnoliocaa", sum := "15e83db92835e8917015c7fc0d6a8dae6b0bee44217577e6d7ebc3669b350d27", func := "whorl/whorllaw01.RidgePoints", spec := "ridgePoints", unfollowed := true, recurses := true, apart := false, narrowed := true }
def RidgePointsUptoSaid : Prop := ridgePointsUptoRow.holds Try.pinned (OpenSpec.upto ridgePointsSpec)

/-- 'whorllaw01.RidgeThins', WHERE WHAT IT READS IS OF BULK AT MOST 1048576: true; the input reads as it did. -/
def ridgeThinsUptoRow : OpenClaim := { program := "ytjelnbfnoliocaa", sum := "15e83db92835e8917015c7fc0d6a8dae6b0bee44217577e6d7ebc3669b350d27", func := "whorl/whorllaw01.RidgeThins", spec := "ridgeThins", unfollowed := true, recurses := true, apart := false, narrowed := true }
def RidgeThinsUptoSaid : Prop := ridgeThinsUptoRow.holds Try.pinned (OpenSpec.upto ridgeThinsSpec)

/-- 'whorllaw01.RidgeSure', WHERE WHAT IT READS IS OF BULK AT MOST 1048576: true; the input reads as it did. -/
def ridgeSureUptoRow : OpenClaim := { program := "ytjelnbfnoliocaa", sum := "15e83db92835e8917015c7fc0d6a8dae6b0bee44217577e6d7ebc3669b350d27", func := "whorl/whorllaw01.RidgeSure", spec := "ridgeSure", unfollowed := true, recurses := true, apart := false, narrowed := true }
def RidgeSureUptoSaid : Prop := ridgeSureUptoRow.holds Try.pinned (OpenSpec.upto ridgeSureSpec)

/-- 'whorllaw01.RidgeShape', WHERE WHAT IT READS IS OF BULK AT MOST 1048576: true; the input reads as it did. -/
def ridgeShapeUptoRow : OpenClaim := { program := "ytjelnbfnoliocaa", sum := "15e83db92835e8917015c7fc0d6a8dae6b0bee44217577e6d7ebc3669b350d27", func := "whorl/whorllaw01.RidgeShape", spec := "ridgeShape", unfollowed := true, recurses := true, apart := false, narrowed := true }
def RidgeShapeUptoSaid : Prop := ridgeShapeUptoRow.holds Try.pinned (OpenSpec.upto ridgeShapeSpec)

/-- 'whorllaw01.RidgeEnds', WHERE WHAT IT READS IS OF BULK AT MOST 1048576: true; the input reads as it did. -/
def ridgeEndsUptoRow : OpenClaim := { program := "ytjelnbfnoliocaa", sum := "15e83db92835e8917015c7fc0d6a8dae6b0bee44217577e6d7ebc3669b350d27", func := "whorl/whorllaw01.RidgeEnds", spec := "ridgeEnds", unfollowed := true, recurses := true, apart := false, narrowed := true }
def RidgeEndsUptoSaid : Prop := ridgeEndsUptoRow.holds Try.pinned (OpenSpec.upto ridgeEndsSpec)

/-- 'whorllaw01.RidgeEuler', WHERE WHAT IT READS IS OF BULK AT MOST 1048576: true; the input reads as it did. -/
def ridgeEulerUptoRow : OpenClaim := { program := "ytjelnbfnoliocaa", sum := "15e83db92835e8917015c7fc0d6a8dae6b0bee44217577e6d7ebc3669b350d27", func := "whorl/whorllaw01.RidgeEuler", spec := "ridgeEuler", unfollowed := true, recurses := true, apart := false, narrowed := true }
def RidgeEulerUptoSaid : Prop := ridgeEulerUptoRow.holds Try.pinned (OpenSpec.upto ridgeEulerSpec)

/-- 'whorllaw01.RidgeMoved', WHERE WHAT IT READS IS OF BULK AT MOST 1048576: true; the input reads as it did. -/
def ridgeMovedUptoRow : OpenClaim := { program := "ytjelnbfnoliocaa", sum := "15e83db92835e8917015c7fc0d6a8dae6b0bee44217577e6d7ebc3669b350d27", func := "whorl/whorllaw01.RidgeMoved", spec := "ridgeMoved", unfollowed := true, recurses := true, apart := false, narrowed := true }
def RidgeMovedUptoSaid : Prop := ridgeMovedUptoRow.holds Try.pinned (OpenSpec.upto ridgeMovedSpec)

/-- 'whorllaw01.RidgeEdges', WHERE WHAT IT READS IS OF BULK AT MOST 1048576: true; the input reads as it did. -/
def ridgeEdgesUptoRow : OpenClaim := { program := "ytjelnbfnoliocaa", sum := "15e83db92835e8917015c7fc0d6a8dae6b0bee44217577e6d7ebc3669b350d27", func := "whorl/whorllaw01.RidgeEdges", spec := "ridgeEdges", unfollowed := true, recurses := true, apart := false, narrowed := true }
def RidgeEdgesUptoSaid : Prop := ridgeEdgesUptoRow.holds Try.pinned (OpenSpec.upto ridgeEdgesSpec)

/-- 'whorllaw01.RidgeInverse', WHERE WHAT IT READS IS OF BULK AT MOST 1048576: true; the input reads as it did. -/
def ridgeInverseUptoRow : OpenClaim := { program := "ytjelnbfnoliocaa", sum := "15e83db92835e8917015c7fc0d6a8dae6b0bee44217577e6d7ebc3669b350d27", func := "whorl/whorllaw01.RidgeInverse", spec := "ridgeInverse", unfollowed := true, recurses := true, apart := false, narrowed := true }
def RidgeInverseUptoSaid : Prop := ridgeInverseUptoRow.holds Try.pinned (OpenSpec.upto ridgeInverseSpec)

/-- 'whorllaw01.RidgeThinned', WHERE WHAT IT READS IS OF BULK AT MOST 1048576: true; the input reads as it did. -/
def ridgeThinnedUptoRow : OpenClaim := { program := "ytjelnbfnoliocaa", sum := "15e83db92835e8917015c7fc0d6a8dae6b0bee44217577e6d7ebc3669b350d27", func := "whorl/whorllaw01.RidgeThinned", spec := "ridgeThinned", unfollowed := true, recurses := true, apart := false, narrowed := true }
def RidgeThinnedUptoSaid : Prop := ridgeThinnedUptoRow.holds Try.pinned (OpenSpec.upto ridgeThinnedSpec)

/-- 'whorllaw01.RidgeSimple', WHERE WHAT IT READS IS OF BULK AT MOST 1048576: true; the input reads as it did. -/
def ridgeSimpleUptoRow : OpenClaim := { program := "ytjelnbfnoliocaa", sum := "15e83db92835e8917015c7fc0d6a8dae6b0bee44217577e6d7ebc3669b350d27", func := "whorl/whorllaw01.RidgeSimple", spec := "ridgeSimple", unfollowed := true, recurses := true, apart := false, narrowed := true }
def RidgeSimpleUptoSaid : Prop := ridgeSimpleUptoRow.holds Try.pinned (OpenSpec.upto ridgeSimpleSpec)

/-- 'whorllaw01.RidgeExamples', WHERE WHAT IT READS IS OF BULK AT MOST 1048576: true; the input reads as it did. -/
def ridgeExamplesUptoRow : OpenClaim := { program := "ytjelnbfnoliocaa", sum := "15e83db92835e8917015c7fc0d6a8dae6b0bee44217577e6d7ebc3669b350d27", func := "whorl/whorllaw01.RidgeExamples", spec := "ridgeExamples", unfollowed := true, recurses := true, apart := false, narrowed := true }
def RidgeExamplesUptoSaid : Prop := ridgeExamplesUptoRow.holds Try.pinned (OpenSpec.upto ridgeExamplesSpec)

end Rows
end Go.Proofs.Ytjelnbfnoliocaa
