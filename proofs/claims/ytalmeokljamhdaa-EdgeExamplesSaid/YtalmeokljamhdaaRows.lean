/-
  No cell of these rows narrows 'for every input' (looked for: loops, veiled, ifaces, maps, wideKeys, modest, calm, conditions, laid).
  DERIVED. THE GIVEN ROWS OF THIS SEAT. 14 by the template 'for every input the law returns true; each argument reads behind the call as it read before'; 0 by the template 'total and deterministic' (their statements: YtalmeokljamhdaaTotals.lean).
  GIVEN WITH THE SEED: the statements are not yours to turn. If you find one false, say at which input.
  Laid BY PROGRAM, IN A SANDBOX (cutbox-rows.mjs): the forced cells as the released guide's own fill.sh prints them over the translation 1892b8f248734398… (all of the seat's roots in one cut). By AI agents, Wed Nov 11 2026. No macro, syntax, notation, axiom, sorry.
-/
import Derived.Test.YtalmeokljamhdaaChecked
import GoSem.Claim
import GoSem.ClaimJoined
import GoSem.ClaimMapViews
import Derived.JoinedTies
import Derived.KernelRfl
namespace Go.Proofs.Ytalmeokljamhdaa
/- THE CELL 'sum', in the pinned program and in every row, IS THE sha256 OF THE DUMP (.gsa) THAT YtalmeokljamhdaaProg.lean LOADS. Nothing in Lean hashes anything: it is a label: what it is worth is what the hold of that sum in a sandbox is worth. -/
noncomputable def Try.pinned : Pinned := { name := "ytalmeokljamhdaa", sum := "1892b8f248734398d0d78d476e6a01dbc710a4000ec81bbdf533f0e14ea1c89b", checked := Try.checked }
namespace Rows
def none {H : Type} : Left H := { results := [], args := [] }

/-- 'whorllaw10.EdgeQueues': WHATEVER THE INPUT: true; the input reads as it did. -/
def edgeQueuesSpec : ChangeSpec := { name := "edgeQueues", fn := fun _ => fun
  | [d1, d2, d3] => { results := [.lit (.bool true)], args := [d1, d2, d3] }
  | _ => none }
def edgeQueuesRow : OpenClaim := { program := "ytalmeokljamhdaa", sum := "1892b8f248734398d0d78d476e6a01dbc710a4000ec81bbdf533f0e14ea1c89b", func := "whorl/whorllaw10.EdgeQueues", spec := "edgeQueues", unfollowed := true, recurses := true, apart := false }
def EdgeQueuesSaid : Prop := edgeQueuesRow.holds Try.pinned (OpenSpec.ofChange edgeQueuesSpec)

/-- ITS FALSE NEIGHBOUR: 'it returns false'. Refute it at one input. -/
def edgeQueuesWrong : ChangeSpec := { name := "edgeQueues", fn := fun _ => fun
  | [d1, d2, d3] => { results := [.lit (.bool false)], args := [d1, d2, d3] }
  | _ => none }
def EdgeQueuesWrongFalsely : Prop := edgeQueuesRow.holds Try.pinned (OpenSpec.ofChange edgeQueuesWrong)

/-- 'whorllaw10.EdgeLists': WHATEVER THE INPUT: true; the input reads as it did. -/
def edgeListsSpec : ChangeSpec := { name := "edgeLists", fn := fun _ => fun
  | [d1, d2, d3, d4, d5, d6] => { results := [.lit (.bool true)], args := [d1, d2, d3, d4, d5, d6] }
  | _ => none }
def edgeListsRow : OpenClaim := { program := "ytalmeokljamhdaa", sum := "1892b8f248734398d0d78d476e6a01dbc710a4000ec81bbdf533f0e14ea1c89b", func := "whorl/whorllaw10.EdgeLists", spec := "edgeLists", unfollowed := true, recurses := true, apart := false }
def EdgeListsSaid : Prop := edgeListsRow.holds Try.pinned (OpenSpec.ofChange edgeListsSpec)

/-- ITS FALSE NEIGHBOUR: 'it returns false'. Refute it at one input. -/
def edgeListsWrong : ChangeSpec := { name := "edgeLists", fn := fun _ => fun
  | [d1, d2, d3, d4, d5, d6] => { results := [.lit (.bool false)], args := [d1, d2, d3, d4, d5, d6] }
  | _ => none }
def EdgeListsWrongFalsely : Prop := edgeListsRow.holds Try.pinned (OpenSpec.ofChange edgeListsWrong)

/-- 'whorllaw10.EdgeDecides': WHATEVER THE INPUT: true; the input reads as it did. -/
def edgeDecidesSpec : ChangeSpec := { name := "edgeDecides", fn := fun _ => fun
  | [d1, d2, d3, d4, d5] => { results := [.lit (.bool true)], args := [d1, d2, d3, d4, d5] }
  | _ => none }
def edgeDecidesRow : OpenClaim := { program := "ytalmeokljamhdaa", sum := "1892b8f248734398d0d78d476e6a01dbc710a4000ec81bbdf533f0e14ea1c89b", func := "whorl/whorllaw10.EdgeDecides", spec := "edgeDecides", unfollowed := true, recurses := true, apart := false }
def EdgeDecidesSaid : Prop := edgeDecidesRow.holds Try.pinned (OpenSpec.ofChange edgeDecidesSpec)

/-- ITS FALSE NEIGHBOUR: 'it returns false'. Refute it at one input. -/
def edgeDecidesWrong : ChangeSpec := { name := "edgeDecides", fn := fun _ => fun
  | [d1, d2, d3, d4, d5] => { results := [.lit (.bool false)], args := [d1, d2, d3, d4, d5] }
  | _ => none }
def EdgeDecidesWrongFalsely : Prop := edgeDecidesRow.holds Try.pinned (OpenSpec.ofChange edgeDecidesWrong)

/-- 'whorllaw10.EdgeCopies': WHATEVER THE INPUT: true; the input reads as it did. -/
def edgeCopiesSpec : ChangeSpec := { name := "edgeCopies", fn := fun _ => fun
  | [d1, d2, d3, d4, d5, d6] => { results := [.lit (.bool true)], args := [d1, d2, d3, d4, d5, d6] }
  | _ => none }
def edgeCopiesRow : OpenClaim := { program := "ytalmeokljamhdaa", sum := "1892b8f248734398d0d78d476e6a01dbc710a4000ec81bbdf533f0e14ea1c89b", func := "whorl/whorllaw10.EdgeCopies", spec := "edgeCopies", unfollowed := true, recurses := true, apart := false }
def EdgeCopiesSaid : Prop := edgeCopiesRow.holds Try.pinned (OpenSpec.ofChange edgeCopiesSpec)

/-- ITS FALSE NEIGHBOUR: 'it returns false'. Refute it at one input. -/
def edgeCopiesWrong : ChangeSpec := { name := "edgeCopies", fn := fun _ => fun
  | [d1, d2, d3, d4, d5, d6] => { results := [.lit (.bool false)], args := [d1, d2, d3, d4, d5, d6] }
  | _ => none }
def EdgeCopiesWrongFalsely : Prop := edgeCopiesRow.holds Try.pinned (OpenSpec.ofChange edgeCopiesWrong)

/-- 'whorllaw10.EdgeOld': WHATEVER THE INPUT: true; the input reads as it did. -/
def edgeOldSpec : ChangeSpec := { name := "edgeOld", fn := fun _ => fun
  | [d1, d2, d3, d4, d5, d6, d7] => { results := [.lit (.bool true)], args := [d1, d2, d3, d4, d5, d6, d7] }
  | _ => none }
def edgeOldRow : OpenClaim := { program := "ytalmeokljamhdaa", sum := "1892b8f248734398d0d78d476e6a01dbc710a4000ec81bbdf533f0e14ea1c89b", func := "whorl/whorllaw10.EdgeOld", spec := "edgeOld", unfollowed := true, recurses := true, apart := false }
def EdgeOldSaid : Prop := edgeOldRow.holds Try.pinned (OpenSpec.ofChange edgeOldSpec)

/-- ITS FALSE NEIGHBOUR: 'it returns false'. Refute it at one input. -/
def edgeOldWrong : ChangeSpec := { name := "edgeOld", fn := fun _ => fun
  | [d1, d2, d3, d4, d5, d6, d7] => { results := [.lit (.bool false)], args := [d1, d2, d3, d4, d5, d6, d7] }
  | _ => none }
def EdgeOldWrongFalsely : Prop := edgeOldRow.holds Try.pinned (OpenSpec.ofChange edgeOldWrong)

/-- 'whorllaw10.EdgeSealed': WHATEVER THE INPUT: true; the input reads as it did. -/
def edgeSealedSpec : ChangeSpec := { name := "edgeSealed", fn := fun _ => fun
  | [d1, d2, d3, d4, d5, d6, d7] => { results := [.lit (.bool true)], args := [d1, d2, d3, d4, d5, d6, d7] }
  | _ => none }
def edgeSealedRow : OpenClaim := { program := "ytalmeokljamhdaa", sum := "1892b8f248734398d0d78d476e6a01dbc710a4000ec81bbdf533f0e14ea1c89b", func := "whorl/whorllaw10.EdgeSealed", spec := "edgeSealed", unfollowed := true, recurses := true, apart := false }
def EdgeSealedSaid : Prop := edgeSealedRow.holds Try.pinned (OpenSpec.ofChange edgeSealedSpec)

/-- ITS FALSE NEIGHBOUR: 'it returns false'. Refute it at one input. -/
def edgeSealedWrong : ChangeSpec := { name := "edgeSealed", fn := fun _ => fun
  | [d1, d2, d3, d4, d5, d6, d7] => { results := [.lit (.bool false)], args := [d1, d2, d3, d4, d5, d6, d7] }
  | _ => none }
def EdgeSealedWrongFalsely : Prop := edgeSealedRow.holds Try.pinned (OpenSpec.ofChange edgeSealedWrong)

/-- 'whorllaw10.EdgeMixed': WHATEVER THE INPUT: true; the input reads as it did. -/
def edgeMixedSpec : ChangeSpec := { name := "edgeMixed", fn := fun _ => fun
  | [d1, d2, d3] => { results := [.lit (.bool true)], args := [d1, d2, d3] }
  | _ => none }
def edgeMixedRow : OpenClaim := { program := "ytalmeokljamhdaa", sum := "1892b8f248734398d0d78d476e6a01dbc710a4000ec81bbdf533f0e14ea1c89b", func := "whorl/whorllaw10.EdgeMixed", spec := "edgeMixed", unfollowed := true, recurses := true, apart := false }
def EdgeMixedSaid : Prop := edgeMixedRow.holds Try.pinned (OpenSpec.ofChange edgeMixedSpec)

/-- ITS FALSE NEIGHBOUR: 'it returns false'. Refute it at one input. -/
def edgeMixedWrong : ChangeSpec := { name := "edgeMixed", fn := fun _ => fun
  | [d1, d2, d3] => { results := [.lit (.bool false)], args := [d1, d2, d3] }
  | _ => none }
def EdgeMixedWrongFalsely : Prop := edgeMixedRow.holds Try.pinned (OpenSpec.ofChange edgeMixedWrong)

/-- 'whorllaw10.EdgeLine': WHATEVER THE INPUT: true; the input reads as it did. -/
def edgeLineSpec : ChangeSpec := { name := "edgeLine", fn := fun _ => fun
  | [d] => { results := [.lit (.bool true)], args := [d] }
  | _ => none }
def edgeLineRow : OpenClaim := { program := "ytalmeokljamhdaa", sum := "1892b8f248734398d0d78d476e6a01dbc710a4000ec81bbdf533f0e14ea1c89b", func := "whorl/whorllaw10.EdgeLine", spec := "edgeLine", unfollowed := true, recurses := true, apart := false }
def EdgeLineSaid : Prop := edgeLineRow.holds Try.pinned (OpenSpec.ofChange edgeLineSpec)

/-- ITS FALSE NEIGHBOUR: 'it returns false'. Refute it at one input. -/
def edgeLineWrong : ChangeSpec := { name := "edgeLine", fn := fun _ => fun
  | [d] => { results := [.lit (.bool false)], args := [d] }
  | _ => none }
def EdgeLineWrongFalsely : Prop := edgeLineRow.holds Try.pinned (OpenSpec.ofChange edgeLineWrong)

/-- 'whorllaw10.EdgeFair': WHATEVER THE INPUT: true; the input reads as it did. -/
def edgeFairSpec : ChangeSpec := { name := "edgeFair", fn := fun _ => fun
  | [d1, d2] => { results := [.lit (.bool true)], args := [d1, d2] }
  | _ => none }
def edgeFairRow : OpenClaim := { program := "ytalmeokljamhdaa", sum := "1892b8f248734398d0d78d476e6a01dbc710a4000ec81bbdf533f0e14ea1c89b", func := "whorl/whorllaw10.EdgeFair", spec := "edgeFair", unfollowed := true, recurses := true, apart := false }
def EdgeFairSaid : Prop := edgeFairRow.holds Try.pinned (OpenSpec.ofChange edgeFairSpec)

/-- ITS FALSE NEIGHBOUR: 'it returns false'. Refute it at one input. -/
def edgeFairWrong : ChangeSpec := { name := "edgeFair", fn := fun _ => fun
  | [d1, d2] => { results := [.lit (.bool false)], args := [d1, d2] }
  | _ => none }
def EdgeFairWrongFalsely : Prop := edgeFairRow.holds Try.pinned (OpenSpec.ofChange edgeFairWrong)

/-- 'whorllaw10.EdgeFirst': WHATEVER THE INPUT: true; the input reads as it did. -/
def edgeFirstSpec : ChangeSpec := { name := "edgeFirst", fn := fun _ => fun
  | [d1, d2] => { results := [.lit (.bool true)], args := [d1, d2] }
  | _ => none }
def edgeFirstRow : OpenClaim := { program := "ytalmeokljamhdaa", sum := "1892b8f248734398d0d78d476e6a01dbc710a4000ec81bbdf533f0e14ea1c89b", func := "whorl/whorllaw10.EdgeFirst", spec := "edgeFirst", unfollowed := true, recurses := true, apart := false }
def EdgeFirstSaid : Prop := edgeFirstRow.holds Try.pinned (OpenSpec.ofChange edgeFirstSpec)

/-- ITS FALSE NEIGHBOUR: 'it returns false'. Refute it at one input. -/
def edgeFirstWrong : ChangeSpec := { name := "edgeFirst", fn := fun _ => fun
  | [d1, d2] => { results := [.lit (.bool false)], args := [d1, d2] }
  | _ => none }
def EdgeFirstWrongFalsely : Prop := edgeFirstRow.holds Try.pinned (OpenSpec.ofChange edgeFirstWrong)

/-- 'whorllaw10.EdgeLast': WHATEVER THE INPUT: true; the input reads as it did. -/
def edgeLastSpec : ChangeSpec := { name := "edgeLast", fn := fun _ => fun
  | [d1, d2, d3] => { results := [.lit (.bool true)], args := [d1, d2, d3] }
  | _ => none }
def edgeLastRow : OpenClaim := { program := "ytalmeokljamhdaa", sum := "1892b8f248734398d0d78d476e6a01dbc710a4000ec81bbdf533f0e14ea1c89b", func := "whorl/whorllaw10.EdgeLast", spec := "edgeLast", unfollowed := true, recurses := true, apart := false }
def EdgeLastSaid : Prop := edgeLastRow.holds Try.pinned (OpenSpec.ofChange edgeLastSpec)

/-- ITS FALSE NEIGHBOUR: 'it returns false'. Refute it at one input. -/
def edgeLastWrong : ChangeSpec := { name := "edgeLast", fn := fun _ => fun
  | [d1, d2, d3] => { results := [.lit (.bool false)], args := [d1, d2, d3] }
  | _ => none }
def EdgeLastWrongFalsely : Prop := edgeLastRow.holds Try.pinned (OpenSpec.ofChange edgeLastWrong)

/-- 'whorllaw10.EdgeStale': WHATEVER THE INPUT: true; the input reads as it did. -/
def edgeStaleSpec : ChangeSpec := { name := "edgeStale", fn := fun _ => fun
  | [d1, d2, d3, d4, d5, d6] => { results := [.lit (.bool true)], args := [d1, d2, d3, d4, d5, d6] }
  | _ => none }
def edgeStaleRow : OpenClaim := { program := "ytalmeokljamhdaa", sum := "1892b8f248734398d0d78d476e6a01dbc710a4000ec81bbdf533f0e14ea1c89b", func := "whorl/whorllaw10.EdgeStale", spec := "edgeStale", unfollowed := true, recurses := true, apart := false }
def EdgeStaleSaid : Prop := edgeStaleRow.holds Try.pinned (OpenSpec.ofChange edgeStaleSpec)

/-- ITS FALSE NEIGHBOUR: 'it returns false'. Refute it at one input. -/
def edgeStaleWrong : ChangeSpec := { name := "edgeStale", fn := fun _ => fun
  | [d1, d2, d3, d4, d5, d6] => { results := [.lit (.bool false)], args := [d1, d2, d3, d4, d5, d6] }
  | _ => none }
def EdgeStaleWrongFalsely : Prop := edgeStaleRow.holds Try.pinned (OpenSpec.ofChange edgeStaleWrong)

/-- 'whorllaw10.EdgeSame': WHATEVER THE INPUT: true; the input reads as it did. -/
def edgeSameSpec : ChangeSpec := { name := "edgeSame", fn := fun _ => fun
  | [d1, d2, d3, d4, d5, d6] => { results := [.lit (.bool true)], args := [d1, d2, d3, d4, d5, d6] }
  | _ => none }
def edgeSameRow : OpenClaim := { program := "ytalmeokljamhdaa", sum := "1892b8f248734398d0d78d476e6a01dbc710a4000ec81bbdf533f0e14ea1c89b", func := "whorl/whorllaw10.EdgeSame", spec := "edgeSame", unfollowed := true, recurses := true, apart := false }
def EdgeSameSaid : Prop := edgeSameRow.holds Try.pinned (OpenSpec.ofChange edgeSameSpec)

/-- ITS FALSE NEIGHBOUR: 'it returns false'. Refute it at one input. -/
def edgeSameWrong : ChangeSpec := { name := "edgeSame", fn := fun _ => fun
  | [d1, d2, d3, d4, d5, d6] => { results := [.lit (.bool false)], args := [d1, d2, d3, d4, d5, d6] }
  | _ => none }
def EdgeSameWrongFalsely : Prop := edgeSameRow.holds Try.pinned (OpenSpec.ofChange edgeSameWrong)

/-- 'whorllaw10.EdgeExamples': WHATEVER THE INPUT: true; the input reads as it did. -/
def edgeExamplesSpec : ChangeSpec := { name := "edgeExamples", fn := fun _ => fun
  | [] => { results := [.lit (.bool true)], args := [] }
  | _ => none }
def edgeExamplesRow : OpenClaim := { program := "ytalmeokljamhdaa", sum := "1892b8f248734398d0d78d476e6a01dbc710a4000ec81bbdf533f0e14ea1c89b", func := "whorl/whorllaw10.EdgeExamples", spec := "edgeExamples", unfollowed := true, recurses := true, apart := false }
def EdgeExamplesSaid : Prop := edgeExamplesRow.holds Try.pinned (OpenSpec.ofChange edgeExamplesSpec)

/-- ITS FALSE NEIGHBOUR: 'it returns false'. Refute it at one input. -/
def edgeExamplesWrong : ChangeSpec := { name := "edgeExamples", fn := fun _ => fun
  | [] => { results := [.lit (.bool false)], args := [] }
  | _ => none }
def EdgeExamplesWrongFalsely : Prop := edgeExamplesRow.holds Try.pinned (OpenSpec.ofChange edgeExamplesWrong)

/- THE SECOND FORM. 'bulk': how many values and letters a reading holds, each counted each time it is reached (what is shared counts as often as it is met; a slice's spare places count too). A statement '..UptoSaid' is the law's where the arguments, and the package variables that the reading takes, are together of bulk at most 1048576: NARROWER than '..Said'. Prove '..Said' where nothing that the law and all that it calls make is longer than what came in: it says more and counts as full. Else prove '..UptoSaid'. A law counts once. -/
mutual
def uptoBulk {H : Type} : DataW H → Nat
  | .lit (.string bytes) => bytes.length + 1
  | .lit _ => 1
  | .nil => 1
  | .ptr d => uptoBulk d + 1
  | .slice elems spare => uptoBulkAll elems + uptoBulkAll spare + 1
  | .agg parts => uptoBulkAll parts + 1
  | .iface _ d => uptoBulk d + 1
  | .map entries => uptoBulkEntries entries + 1
  | .held _ => 1
def uptoBulkAll {H : Type} : List (DataW H) → Nat
  | [] => 0
  | d :: r => uptoBulk d + uptoBulkAll r
def uptoBulkEntries {H : Type} : List (Lit × DataW H) → Nat
  | [] => 0
  | x :: r => uptoBulkEntry x + uptoBulkEntries r
def uptoBulkEntry {H : Type} : Lit × DataW H → Nat
  | (.string bytes, d) => bytes.length + uptoBulk d + 1
  | (_, d) => uptoBulk d + 1
 end
def uptoSmall : (H : Type) → List (DataW H) → Bool := fun _ ds => decide (uptoBulkAll ds ≤ 1048576)
def OpenSpec.upto (s : _root_.Go.ChangeSpec) : _root_.Go.OpenSpec := { _root_.Go.OpenSpec.ofChange s with cond := some uptoSmall }

/-- 'whorllaw10.EdgeQueues', WHERE WHAT IT READS IS OF BULK AT MOST 1048576: true; the input reads as it did. -/
def edgeQueuesUptoRow : OpenClaim := { program := "ytalmeokljamhdaa", sum := "1892b8f248734398d0d78d476e6a01dbc710a4000ec81bbdf533f0e14ea1c89b", func := "whorl/whorllaw10.EdgeQueues", spec := "edgeQueues", unfollowed := true, recurses := true, apart := false, narrowed := true }
def EdgeQueuesUptoSaid : Prop := edgeQueuesUptoRow.holds Try.pinned (OpenSpec.upto edgeQueuesSpec)

/-- 'whorllaw10.EdgeLists', WHERE WHAT IT READS IS OF BULK AT MOST 1048576: true; the input reads as it did. -/
def edgeListsUptoRow : OpenClaim := { program := "ytalmeokljamhdaa", sum := "1892b8f248734398d0d78d476e6a01dbc710a4000ec81bbdf533f0e14ea1c89b", func := "whorl/whorllaw10.EdgeLists", spec := "edgeLists", unfollowed := true, recurses := true, apart := false, narrowed := true }
def EdgeListsUptoSaid : Prop := edgeListsUptoRow.holds Try.pinned (OpenSpec.upto edgeListsSpec)

/-- 'whorllaw10.EdgeDecides', WHERE WHAT IT READS IS OF BULK AT MOST 1048576: true; the input reads as it did. -/
def edgeDecidesUptoRow : OpenClaim := { program := "ytalmeokljamhdaa", sum := "1892b8f248734398d0d78d476e6a01dbc710a4000ec81bbdf533f0e14ea1c89b", func := "whorl/whorllaw10.EdgeDecides", spec := "edgeDecides", unfollowed := true, recurses := true, apart := false, narrowed := true }
def EdgeDecidesUptoSaid : Prop := edgeDecidesUptoRow.holds Try.pinned (OpenSpec.upto edgeDecidesSpec)

/-- 'whorllaw10.EdgeCopies', WHERE WHAT IT READS IS OF BULK AT MOST 1048576: true; the input reads as it did. -/
def edgeCopiesUptoRow : OpenClaim := { program := "ytalmeokljamhdaa", sum := "1892b8f248734398d0d78d476e6a01dbc710a4000ec81bbdf533f0e14ea1c89b", func := "whorl/whorllaw10.EdgeCopies", spec := "edgeCopies", unfollowed := true, recurses := true, apart := false, narrowed := true }
def EdgeCopiesUptoSaid : Prop := edgeCopiesUptoRow.holds Try.pinned (OpenSpec.upto edgeCopiesSpec)

/-- 'whorllaw10.EdgeOld', WHERE WHAT IT READS IS OF BULK AT MOST 1048576: true; the input reads as it did. -/
def edgeOldUptoRow : OpenClaim := { program := "ytalmeokljamhdaa", sum := "1892b8f248734398d0d78d476e6a01dbc710a4000ec81bbdf533f0e14ea1c89b", func := "whorl/whorllaw10.EdgeOld", spec := "edgeOld", unfollowed := true, recurses := true, apart := false, narrowed := true }
def EdgeOldUptoSaid : Prop := edgeOldUptoRow.holds Try.pinned (OpenSpec.upto edgeOldSpec)

/-- 'whorllaw10.EdgeSealed', WHERE WHAT IT READS IS OF BULK AT MOST 1048576: true; the input reads as it did. -/
def edgeSealedUptoRow : OpenClaim := { program := "ytalmeokljamhdaa", sum := "1892b8f248734398d0d78d476e6a01dbc710a4000ec81bbdf533f0e14ea1c89b", func := "whorl/whorllaw10.EdgeSealed", spec := "edgeSealed", unfollowed := true, recurses := true, apart := false, narrowed := true }
def EdgeSealedUptoSaid : Prop := edgeSealedUptoRow.holds Try.pinned (OpenSpec.upto edgeSealedSpec)

/-- 'whorllaw10.EdgeMixed', WHERE WHAT IT READS IS OF BULK AT MOST 1048576: true; the input reads as it did. -/
def edgeMixedUptoRow : OpenClaim := { program := "ytalmeokljamhdaa", sum := "1892b8f248734398d0d78d476e6a01dbc710a4000ec81bbdf533f0e14ea1c89b", func := "whorl/whorllaw10.EdgeMixed", spec := "edgeMixed", unfollowed := true, recurses := true, apart := false, narrowed := true }
def EdgeMixedUptoSaid : Prop := edgeMixedUptoRow.holds Try.pinned (OpenSpec.upto edgeMixedSpec)

/-- 'whorllaw10.EdgeLine', WHERE WHAT IT READS IS OF BULK AT MOST 1048576: true; the input reads as it did. -/
def edgeLineUptoRow : OpenClaim := { program := "ytalmeokljamhdaa", sum := "1892b8f248734398d0d78d476e6a01dbc710a4000ec81bbdf533f0e14ea1c89b", func := "whorl/whorllaw10.EdgeLine", spec := "edgeLine", unfollowed := true, recurses := true, apart := false, narrowed := true }
def EdgeLineUptoSaid : Prop := edgeLineUptoRow.holds Try.pinned (OpenSpec.upto edgeLineSpec)

/-- 'whorllaw10.EdgeFair', WHERE WHAT IT READS IS OF BULK AT MOST 1048576: true; the input reads as it did. -/
def edgeFairUptoRow : OpenClaim := { program := "ytalmeokljamhdaa", sum := "1892b8f248734398d0d78d476e6a01dbc710a4000ec81bbdf533f0e14ea1c89b", func := "whorl/whorllaw10.EdgeFair", spec := "edgeFair", unfollowed := true, recurses := true, apart := false, narrowed := true }
def EdgeFairUptoSaid : Prop := edgeFairUptoRow.holds Try.pinned (OpenSpec.upto edgeFairSpec)

/-- 'whorllaw10.EdgeFirst', WHERE WHAT IT READS IS OF BULK AT MOST 1048576: true; the input reads as it did. -/
def edgeFirstUptoRow : OpenClaim := { program := "ytalmeokljamhdaa", sum := "1892b8f248734398d0d78d476e6a01dbc710a4000ec81bbdf533f0e14ea1c89b", func := "whorl/whorllaw10.EdgeFirst", spec := "edgeFirst", unfollowed := true, recurses := true, apart := false, narrowed := true }
def EdgeFirstUptoSaid : Prop := edgeFirstUptoRow.holds Try.pinned (OpenSpec.upto edgeFirstSpec)

/-- 'whorllaw10.EdgeLast', WHERE WHAT IT READS IS OF BULK AT MOST 1048576: true; the input reads as it did. -/
def edgeLastUptoRow : OpenClaim := { program := "ytalmeokljamhdaa", sum := "1892b8f248734398d0d78d476e6a01dbc710a4000ec81bbdf533f0e14ea1c89b", func := "whorl/whorllaw10.EdgeLast", spec := "edgeLast", unfollowed := true, recurses := true, apart := false, narrowed := true }
def EdgeLastUptoSaid : Prop := edgeLastUptoRow.holds Try.pinned (OpenSpec.upto edgeLastSpec)

/-- 'whorllaw10.EdgeStale', WHERE WHAT IT READS IS OF BULK AT MOST 1048576: true; the input reads as it did. -/
def edgeStaleUptoRow : OpenClaim := { program := "ytalmeokljamhdaa", sum := "1892b8f248734398d0d78d476e6a01dbc710a4000ec81bbdf533f0e14ea1c89b", func := "whorl/whorllaw10.EdgeStale", spec := "edgeStale", unfollowed := true, recurses := true, apart := false, narrowed := true }
def EdgeStaleUptoSaid : Prop := edgeStaleUptoRow.holds Try.pinned (OpenSpec.upto edgeStaleSpec)

/-- 'whorllaw10.EdgeSame', WHERE WHAT IT READS IS OF BULK AT MOST 1048576: true; the input reads as it did. -/
def edgeSameUptoRow : OpenClaim := { program := "ytalmeokljamhdaa", sum := "1892b8f248734398d0d78d476e6a01dbc710a4000ec81bbdf533f0e14ea1c89b", func := "whorl/whorllaw10.EdgeSame", spec := "edgeSame", unfollowed := true, recurses := true, apart := false, narrowed := true }
def EdgeSameUptoSaid : Prop := edgeSameUptoRow.holds Try.pinned (OpenSpec.upto edgeSameSpec)

/-- 'whorllaw10.EdgeExamples', WHERE WHAT IT READS IS OF BULK AT MOST 1048576: true; the input reads as it did. -/
def edgeExamplesUptoRow : OpenClaim := { program := "ytalmeokljamhdaa", sum := "1892b8f248734398d0d78d476e6a01dbc710a4000ec81bbdf533f0e14ea1c89b", func := "whorl/whorllaw10.EdgeExamples", spec := "edgeExamples", unfollowed := true, recurses := true, apart := false, narrowed := true }
def EdgeExamplesUptoSaid : Prop := edgeExamplesUptoRow.holds Try.pinned (OpenSpec.upto edgeExamplesSpec)

end Rows
end Go.Proofs.Ytalmeokljamhdaa
