/-
  NARROWER THAN 'FOR EVERY INPUT', by the rows' own cells (each row's printed sentence says how): SketchRecovers: laid · SketchCorrects: laid · SketchFar: laid · SketchLinear: laid · SketchVault: laid · SketchOne: laid · SketchHidden: laid · SketchPlaces: laid · SketchBack: laid · SketchOpened: laid · SketchCodes: laid · SketchLeft: laid · SketchGuessed: laid · SketchExamples: laid.
  DERIVED. THE GIVEN ROWS OF THIS SEAT. 14 by the template 'for every input the law returns true; each argument reads behind the call as it read before'; 0 by the template 'total and deterministic' (their statements: YtnienfgaidccpaaDoorTotals.lean).
  GIVEN WITH THE SEED: the statements are not yours to turn. If you find one false, say at which input.
  Laid BY PROGRAM, IN A SANDBOX (cutbox-rows.mjs): the forced cells as the released guide's own fill.sh prints them over the translation 54c0b11225f69fd3… (all of the seat's roots in one cut). By AI agents, Wed Nov 11 2026. No macro, syntax, notation, axiom, sorry.
-/
import Derived.Test.YtnienfgaidccpaaDoorChecked
import GoSem.Claim
import GoSem.ClaimJoined
import GoSem.ClaimMapViews
import Derived.JoinedTies
import Derived.KernelRfl
namespace Go.Proofs.YtnienfgaidccpaaDoor
/- THE CELL 'sum', in the pinned program and in every row, IS THE sha256 OF THE DUMP (.gsa) THAT YtnienfgaidccpaaDoorProg.lean LOADS. Nothing in Lean hashes anything: it is a label: what it is worth is what the hold of that sum in a sandbox is worth. -/
noncomputable def Tryd.pinned : Pinned := { name := "ytnienfgaidccpaadoor", sum := "54c0b11225f69fd3d472a7194ddae025959418d1da6778a66622dc89562041d8", checked := Tryd.checked }
namespace Rows
def none {H : Type} : Left H := { results := [], args := [] }

/- WHAT THE LISTED PACKAGE-LEVEL VARIABLES READ AS WHEN THE CALL BEGINS. Each datum BY PROGRAM (the guide's laid-datum.mjs) off the statement by which the dump's own 'gosem.cut.vars' lays the variable. In a bare row this is a premise. The card (YtnienfgaidccpaaDoorCards.lean) ties it to the program's text. -/
def laid_whorl_sketch_codes {H : Type} : DataW H := .agg [.agg [.lit (.int .u16 0), .lit (.int .i64 0), .lit (.int .i64 0)], .agg [.lit (.int .u16 19), .lit (.int .i64 11), .lit (.int .i64 1)], .agg [.lit (.int .u16 465), .lit (.int .i64 7), .lit (.int .i64 2)], .agg [.lit (.int .u16 1335), .lit (.int .i64 5), .lit (.int .i64 3)]]

/-- 'whorllaw05.SketchRecovers': WHATEVER THE INPUT: true; the input reads as it did. -/
def sketchRecoversSpec : ChangeSpec := { name := "sketchRecovers", fn := fun _ => fun
  | [d1, d2, d3, d4, d5, d6] => { results := [.lit (.bool true)], args := [d1, d2, d3, d4, d5, d6] }
  | _ => none }
def sketchRecoversRow : OpenClaim := { program := "ytnienfgaidccpaadoor", sum := "54c0b11225f69fd3d472a7194ddae025959418d1da6778a66622dc89562041d8", func := "whorl/whorllaw05.SketchRecovers", spec := "sketchRecovers", unfollowed := true, recurses := true, named := ["whorl/sketch.codes"], apart := false, laid := [("whorl/sketch.codes", laid_whorl_sketch_codes)] }
def SketchRecoversSaid : Prop := sketchRecoversRow.holds Tryd.pinned (OpenSpec.ofChange sketchRecoversSpec)

/-- ITS FALSE NEIGHBOUR: 'it returns false'. Refute it at one input. -/
def sketchRecoversWrong : ChangeSpec := { name := "sketchRecovers", fn := fun _ => fun
  | [d1, d2, d3, d4, d5, d6] => { results := [.lit (.bool false)], args := [d1, d2, d3, d4, d5, d6] }
  | _ => none }
def SketchRecoversWrongFalsely : Prop := sketchRecoversRow.holds Tryd.pinned (OpenSpec.ofChange sketchRecoversWrong)

/-- 'whorllaw05.SketchCorrects': WHATEVER THE INPUT: true; the input reads as it did. -/
def sketchCorrectsSpec : ChangeSpec := { name := "sketchCorrects", fn := fun _ => fun
  | [d1, d2, d3] => { results := [.lit (.bool true)], args := [d1, d2, d3] }
  | _ => none }
def sketchCorrectsRow : OpenClaim := { program := "ytnienfgaidccpaadoor", sum := "54c0b11225f69fd3d472a7194ddae025959418d1da6778a66622dc89562041d8", func := "whorl/whorllaw05.SketchCorrects", spec := "sketchCorrects", unfollowed := true, recurses := true, named := ["whorl/sketch.codes"], apart := false, laid := [("whorl/sketch.codes", laid_whorl_sketch_codes)] }
def SketchCorrectsSaid : Prop := sketchCorrectsRow.holds Tryd.pinned (OpenSpec.ofChange sketchCorrectsSpec)

/-- ITS FALSE NEIGHBOUR: 'it returns false'. Refute it at one input. -/
def sketchCorrectsWrong : ChangeSpec := { name := "sketchCorrects", fn := fun _ => fun
  | [d1, d2, d3] => { results := [.lit (.bool false)], args := [d1, d2, d3] }
  | _ => none }
def SketchCorrectsWrongFalsely : Prop := sketchCorrectsRow.holds Tryd.pinned (OpenSpec.ofChange sketchCorrectsWrong)

/-- 'whorllaw05.SketchFar': WHATEVER THE INPUT: true; the input reads as it did. -/
def sketchFarSpec : ChangeSpec := { name := "sketchFar", fn := fun _ => fun
  | [d1, d2, d3] => { results := [.lit (.bool true)], args := [d1, d2, d3] }
  | _ => none }
def sketchFarRow : OpenClaim := { program := "ytnienfgaidccpaadoor", sum := "54c0b11225f69fd3d472a7194ddae025959418d1da6778a66622dc89562041d8", func := "whorl/whorllaw05.SketchFar", spec := "sketchFar", unfollowed := true, recurses := true, named := ["whorl/sketch.codes"], apart := false, laid := [("whorl/sketch.codes", laid_whorl_sketch_codes)] }
def SketchFarSaid : Prop := sketchFarRow.holds Tryd.pinned (OpenSpec.ofChange sketchFarSpec)

/-- ITS FALSE NEIGHBOUR: 'it returns false'. Refute it at one input. -/
def sketchFarWrong : ChangeSpec := { name := "sketchFar", fn := fun _ => fun
  | [d1, d2, d3] => { results := [.lit (.bool false)], args := [d1, d2, d3] }
  | _ => none }
def SketchFarWrongFalsely : Prop := sketchFarRow.holds Tryd.pinned (OpenSpec.ofChange sketchFarWrong)

/-- 'whorllaw05.SketchLinear': WHATEVER THE INPUT: true; the input reads as it did. -/
def sketchLinearSpec : ChangeSpec := { name := "sketchLinear", fn := fun _ => fun
  | [d1, d2, d3] => { results := [.lit (.bool true)], args := [d1, d2, d3] }
  | _ => none }
def sketchLinearRow : OpenClaim := { program := "ytnienfgaidccpaadoor", sum := "54c0b11225f69fd3d472a7194ddae025959418d1da6778a66622dc89562041d8", func := "whorl/whorllaw05.SketchLinear", spec := "sketchLinear", unfollowed := true, recurses := true, named := ["whorl/sketch.codes"], apart := false, laid := [("whorl/sketch.codes", laid_whorl_sketch_codes)] }
def SketchLinearSaid : Prop := sketchLinearRow.holds Tryd.pinned (OpenSpec.ofChange sketchLinearSpec)

/-- ITS FALSE NEIGHBOUR: 'it returns false'. Refute it at one input. -/
def sketchLinearWrong : ChangeSpec := { name := "sketchLinear", fn := fun _ => fun
  | [d1, d2, d3] => { results := [.lit (.bool false)], args := [d1, d2, d3] }
  | _ => none }
def SketchLinearWrongFalsely : Prop := sketchLinearRow.holds Tryd.pinned (OpenSpec.ofChange sketchLinearWrong)

/-- 'whorllaw05.SketchVault': WHATEVER THE INPUT: true; the input reads as it did. -/
def sketchVaultSpec : ChangeSpec := { name := "sketchVault", fn := fun _ => fun
  | [d1, d2, d3, d4] => { results := [.lit (.bool true)], args := [d1, d2, d3, d4] }
  | _ => none }
def sketchVaultRow : OpenClaim := { program := "ytnienfgaidccpaadoor", sum := "54c0b11225f69fd3d472a7194ddae025959418d1da6778a66622dc89562041d8", func := "whorl/whorllaw05.SketchVault", spec := "sketchVault", unfollowed := true, recurses := true, named := ["whorl/sketch.codes"], apart := false, laid := [("whorl/sketch.codes", laid_whorl_sketch_codes)] }
def SketchVaultSaid : Prop := sketchVaultRow.holds Tryd.pinned (OpenSpec.ofChange sketchVaultSpec)

/-- ITS FALSE NEIGHBOUR: 'it returns false'. Refute it at one input. -/
def sketchVaultWrong : ChangeSpec := { name := "sketchVault", fn := fun _ => fun
  | [d1, d2, d3, d4] => { results := [.lit (.bool false)], args := [d1, d2, d3, d4] }
  | _ => none }
def SketchVaultWrongFalsely : Prop := sketchVaultRow.holds Tryd.pinned (OpenSpec.ofChange sketchVaultWrong)

/-- 'whorllaw05.SketchOne': WHATEVER THE INPUT: true; the input reads as it did. -/
def sketchOneSpec : ChangeSpec := { name := "sketchOne", fn := fun _ => fun
  | [d1, d2, d3] => { results := [.lit (.bool true)], args := [d1, d2, d3] }
  | _ => none }
def sketchOneRow : OpenClaim := { program := "ytnienfgaidccpaadoor", sum := "54c0b11225f69fd3d472a7194ddae025959418d1da6778a66622dc89562041d8", func := "whorl/whorllaw05.SketchOne", spec := "sketchOne", unfollowed := true, recurses := true, named := ["whorl/sketch.codes"], apart := false, laid := [("whorl/sketch.codes", laid_whorl_sketch_codes)] }
def SketchOneSaid : Prop := sketchOneRow.holds Tryd.pinned (OpenSpec.ofChange sketchOneSpec)

/-- ITS FALSE NEIGHBOUR: 'it returns false'. Refute it at one input. -/
def sketchOneWrong : ChangeSpec := { name := "sketchOne", fn := fun _ => fun
  | [d1, d2, d3] => { results := [.lit (.bool false)], args := [d1, d2, d3] }
  | _ => none }
def SketchOneWrongFalsely : Prop := sketchOneRow.holds Tryd.pinned (OpenSpec.ofChange sketchOneWrong)

/-- 'whorllaw05.SketchHidden': WHATEVER THE INPUT: true; the input reads as it did. -/
def sketchHiddenSpec : ChangeSpec := { name := "sketchHidden", fn := fun _ => fun
  | [d1, d2, d3, d4] => { results := [.lit (.bool true)], args := [d1, d2, d3, d4] }
  | _ => none }
def sketchHiddenRow : OpenClaim := { program := "ytnienfgaidccpaadoor", sum := "54c0b11225f69fd3d472a7194ddae025959418d1da6778a66622dc89562041d8", func := "whorl/whorllaw05.SketchHidden", spec := "sketchHidden", unfollowed := true, recurses := true, named := ["whorl/sketch.codes"], apart := false, laid := [("whorl/sketch.codes", laid_whorl_sketch_codes)] }
def SketchHiddenSaid : Prop := sketchHiddenRow.holds Tryd.pinned (OpenSpec.ofChange sketchHiddenSpec)

/-- ITS FALSE NEIGHBOUR: 'it returns false'. Refute it at one input. -/
def sketchHiddenWrong : ChangeSpec := { name := "sketchHidden", fn := fun _ => fun
  | [d1, d2, d3, d4] => { results := [.lit (.bool false)], args := [d1, d2, d3, d4] }
  | _ => none }
def SketchHiddenWrongFalsely : Prop := sketchHiddenRow.holds Tryd.pinned (OpenSpec.ofChange sketchHiddenWrong)

/-- 'whorllaw05.SketchPlaces': WHATEVER THE INPUT: true; the input reads as it did. -/
def sketchPlacesSpec : ChangeSpec := { name := "sketchPlaces", fn := fun _ => fun
  | [d1, d2, d3, d4] => { results := [.lit (.bool true)], args := [d1, d2, d3, d4] }
  | _ => none }
def sketchPlacesRow : OpenClaim := { program := "ytnienfgaidccpaadoor", sum := "54c0b11225f69fd3d472a7194ddae025959418d1da6778a66622dc89562041d8", func := "whorl/whorllaw05.SketchPlaces", spec := "sketchPlaces", unfollowed := true, recurses := true, named := ["whorl/sketch.codes"], apart := false, laid := [("whorl/sketch.codes", laid_whorl_sketch_codes)] }
def SketchPlacesSaid : Prop := sketchPlacesRow.holds Tryd.pinned (OpenSpec.ofChange sketchPlacesSpec)

/-- ITS FALSE NEIGHBOUR: 'it returns false'. Refute it at one input. -/
def sketchPlacesWrong : ChangeSpec := { name := "sketchPlaces", fn := fun _ => fun
  | [d1, d2, d3, d4] => { results := [.lit (.bool false)], args := [d1, d2, d3, d4] }
  | _ => none }
def SketchPlacesWrongFalsely : Prop := sketchPlacesRow.holds Tryd.pinned (OpenSpec.ofChange sketchPlacesWrong)

/-- 'whorllaw05.SketchBack': WHATEVER THE INPUT: true; the input reads as it did. -/
def sketchBackSpec : ChangeSpec := { name := "sketchBack", fn := fun _ => fun
  | [d1, d2, d3, d4] => { results := [.lit (.bool true)], args := [d1, d2, d3, d4] }
  | _ => none }
def sketchBackRow : OpenClaim := { program := "ytnienfgaidccpaadoor", sum := "54c0b11225f69fd3d472a7194ddae025959418d1da6778a66622dc89562041d8", func := "whorl/whorllaw05.SketchBack", spec := "sketchBack", unfollowed := true, recurses := true, named := ["whorl/sketch.codes"], apart := false, laid := [("whorl/sketch.codes", laid_whorl_sketch_codes)] }
def SketchBackSaid : Prop := sketchBackRow.holds Tryd.pinned (OpenSpec.ofChange sketchBackSpec)

/-- ITS FALSE NEIGHBOUR: 'it returns false'. Refute it at one input. -/
def sketchBackWrong : ChangeSpec := { name := "sketchBack", fn := fun _ => fun
  | [d1, d2, d3, d4] => { results := [.lit (.bool false)], args := [d1, d2, d3, d4] }
  | _ => none }
def SketchBackWrongFalsely : Prop := sketchBackRow.holds Tryd.pinned (OpenSpec.ofChange sketchBackWrong)

/-- 'whorllaw05.SketchOpened': WHATEVER THE INPUT: true; the input reads as it did. -/
def sketchOpenedSpec : ChangeSpec := { name := "sketchOpened", fn := fun _ => fun
  | [d1, d2] => { results := [.lit (.bool true)], args := [d1, d2] }
  | _ => none }
def sketchOpenedRow : OpenClaim := { program := "ytnienfgaidccpaadoor", sum := "54c0b11225f69fd3d472a7194ddae025959418d1da6778a66622dc89562041d8", func := "whorl/whorllaw05.SketchOpened", spec := "sketchOpened", unfollowed := true, recurses := true, named := ["whorl/sketch.codes"], apart := false, laid := [("whorl/sketch.codes", laid_whorl_sketch_codes)] }
def SketchOpenedSaid : Prop := sketchOpenedRow.holds Tryd.pinned (OpenSpec.ofChange sketchOpenedSpec)

/-- ITS FALSE NEIGHBOUR: 'it returns false'. Refute it at one input. -/
def sketchOpenedWrong : ChangeSpec := { name := "sketchOpened", fn := fun _ => fun
  | [d1, d2] => { results := [.lit (.bool false)], args := [d1, d2] }
  | _ => none }
def SketchOpenedWrongFalsely : Prop := sketchOpenedRow.holds Tryd.pinned (OpenSpec.ofChange sketchOpenedWrong)

/-- 'whorllaw05.SketchCodes': WHATEVER THE INPUT: true; the input reads as it did. -/
def sketchCodesSpec : ChangeSpec := { name := "sketchCodes", fn := fun _ => fun
  | [d1, d2, d3, d4, d5] => { results := [.lit (.bool true)], args := [d1, d2, d3, d4, d5] }
  | _ => none }
def sketchCodesRow : OpenClaim := { program := "ytnienfgaidccpaadoor", sum := "54c0b11225f69fd3d472a7194ddae025959418d1da6778a66622dc89562041d8", func := "whorl/whorllaw05.SketchCodes", spec := "sketchCodes", unfollowed := true, recurses := true, named := ["whorl/sketch.codes"], apart := false, laid := [("whorl/sketch.codes", laid_whorl_sketch_codes)] }
def SketchCodesSaid : Prop := sketchCodesRow.holds Tryd.pinned (OpenSpec.ofChange sketchCodesSpec)

/-- ITS FALSE NEIGHBOUR: 'it returns false'. Refute it at one input. -/
def sketchCodesWrong : ChangeSpec := { name := "sketchCodes", fn := fun _ => fun
  | [d1, d2, d3, d4, d5] => { results := [.lit (.bool false)], args := [d1, d2, d3, d4, d5] }
  | _ => none }
def SketchCodesWrongFalsely : Prop := sketchCodesRow.holds Tryd.pinned (OpenSpec.ofChange sketchCodesWrong)

/-- 'whorllaw05.SketchLeft': WHATEVER THE INPUT: true; the input reads as it did. -/
def sketchLeftSpec : ChangeSpec := { name := "sketchLeft", fn := fun _ => fun
  | [d1, d2] => { results := [.lit (.bool true)], args := [d1, d2] }
  | _ => none }
def sketchLeftRow : OpenClaim := { program := "ytnienfgaidccpaadoor", sum := "54c0b11225f69fd3d472a7194ddae025959418d1da6778a66622dc89562041d8", func := "whorl/whorllaw05.SketchLeft", spec := "sketchLeft", unfollowed := true, recurses := true, named := ["whorl/sketch.codes"], apart := false, laid := [("whorl/sketch.codes", laid_whorl_sketch_codes)] }
def SketchLeftSaid : Prop := sketchLeftRow.holds Tryd.pinned (OpenSpec.ofChange sketchLeftSpec)

/-- ITS FALSE NEIGHBOUR: 'it returns false'. Refute it at one input. -/
def sketchLeftWrong : ChangeSpec := { name := "sketchLeft", fn := fun _ => fun
  | [d1, d2] => { results := [.lit (.bool false)], args := [d1, d2] }
  | _ => none }
def SketchLeftWrongFalsely : Prop := sketchLeftRow.holds Tryd.pinned (OpenSpec.ofChange sketchLeftWrong)

/-- 'whorllaw05.SketchGuessed': WHATEVER THE INPUT: true; the input reads as it did. -/
def sketchGuessedSpec : ChangeSpec := { name := "sketchGuessed", fn := fun _ => fun
  | [d1, d2] => { results := [.lit (.bool true)], args := [d1, d2] }
  | _ => none }
def sketchGuessedRow : OpenClaim := { program := "ytnienfgaidccpaadoor", sum := "54c0b11225f69fd3d472a7194ddae025959418d1da6778a66622dc89562041d8", func := "whorl/whorllaw05.SketchGuessed", spec := "sketchGuessed", unfollowed := true, recurses := true, named := ["whorl/sketch.codes"], apart := false, laid := [("whorl/sketch.codes", laid_whorl_sketch_codes)] }
def SketchGuessedSaid : Prop := sketchGuessedRow.holds Tryd.pinned (OpenSpec.ofChange sketchGuessedSpec)

/-- ITS FALSE NEIGHBOUR: 'it returns false'. Refute it at one input. -/
def sketchGuessedWrong : ChangeSpec := { name := "sketchGuessed", fn := fun _ => fun
  | [d1, d2] => { results := [.lit (.bool false)], args := [d1, d2] }
  | _ => none }
def SketchGuessedWrongFalsely : Prop := sketchGuessedRow.holds Tryd.pinned (OpenSpec.ofChange sketchGuessedWrong)

/-- 'whorllaw05.SketchExamples': WHATEVER THE INPUT: true; the input reads as it did. -/
def sketchExamplesSpec : ChangeSpec := { name := "sketchExamples", fn := fun _ => fun
  | [] => { results := [.lit (.bool true)], args := [] }
  | _ => none }
def sketchExamplesRow : OpenClaim := { program := "ytnienfgaidccpaadoor", sum := "54c0b11225f69fd3d472a7194ddae025959418d1da6778a66622dc89562041d8", func := "whorl/whorllaw05.SketchExamples", spec := "sketchExamples", unfollowed := true, recurses := true, named := ["whorl/sketch.codes"], apart := false, laid := [("whorl/sketch.codes", laid_whorl_sketch_codes)] }
def SketchExamplesSaid : Prop := sketchExamplesRow.holds Tryd.pinned (OpenSpec.ofChange sketchExamplesSpec)

/-- ITS FALSE NEIGHBOUR: 'it returns false'. Refute it at one input. -/
def sketchExamplesWrong : ChangeSpec := { name := "sketchExamples", fn := fun _ => fun
  | [] => { results := [.lit (.bool false)], args := [] }
  | _ => none }
def SketchExamplesWrongFalsely : Prop := sketchExamplesRow.holds Tryd.pinned (OpenSpec.ofChange sketchExamplesWrong)

/- THE SECOND FORM. 'bulk': how many values and letters a reading holds, each counted each time it is reached (what is shared counts as often as it is met; a slice's spare places count too). A statement '..UptoSaid' is the law's where the arguments, and the package variables that the reading takes, are together of bulk at most 1048576: NARROWER than '..Said'. Prove '..Said' where nothing that the law and all that it calls make is longer than what came in: it says more and counts as full. Else prove '..UptoSaid'. A law counts once. -/
mutual
def uptoBulk {H : Type} : DataW H → Nat
  | .lit (.string bytes) => bytes.length + 1
  | .lit _ => 1
  | .nil => 1
  | .ptr d => uptoBulk d + 1
  | .slice elems spare => uptoBulkAll elems + uptoBulkAll spare + 1
  | .agg parts => uptoBulkAll parts + 1
  | .iface _ d => uptoBulk d + 1
  | .map entries => uptoBulkEntries entries + 1
  | .held _ => 1
def uptoBulkAll {H : Type} : List (DataW H) → Nat
  | [] => 0
  | d :: r => uptoBulk d + uptoBulkAll r
def uptoBulkEntries {H : Type} : List (Lit × DataW H) → Nat
  | [] => 0
  | x :: r => uptoBulkEntry x + uptoBulkEntries r
def uptoBulkEntry {H : Type} : Lit × DataW H → Nat
  | (.string bytes, d) => bytes.length + uptoBulk d + 1
  | (_, d) => uptoBulk d + 1
 end
def uptoSmall : (H : Type) → List (DataW H) → Bool := fun _ ds => decide (uptoBulkAll ds ≤ 1048576)
def OpenSpec.upto (s : _root_.Go.ChangeSpec) : _root_.Go.OpenSpec := { _root_.Go.OpenSpec.ofChange s with cond := some uptoSmall }

/-- 'whorllaw05.SketchRecovers', WHERE WHAT IT READS IS OF BULK AT MOST 1048576: true; the input reads as it did. -/
def sketchRecoversUptoRow : OpenClaim := { program := "ytnienfgaidccpaadoor", sum := "54c0b11225f69fd3d472a7194ddae025959418d1da6778a66622dc89562041d8", func := "whorl/whorllaw05.SketchRecovers", spec := "sketchRecovers", unfollowed := true, recurses := true, named := ["whorl/sketch.codes"], apart := false, laid := [("whorl/sketch.codes", laid_whorl_sketch_codes)], narrowed := true }
def SketchRecoversUptoSaid : Prop := sketchRecoversUptoRow.holds Tryd.pinned (OpenSpec.upto sketchRecoversSpec)

/-- 'whorllaw05.SketchCorrects', WHERE WHAT IT READS IS OF BULK AT MOST 1048576: true; the input reads as it did. -/
def sketchCorrectsUptoRow : OpenClaim := { program := "ytnienfgaidccpaadoor", sum := "54c0b11225f69fd3d472a7194ddae025959418d1da6778a66622dc89562041d8", func := "whorl/whorllaw05.SketchCorrects", spec := "sketchCorrects", unfollowed := true, recurses := true, named := ["whorl/sketch.codes"], apart := false, laid := [("whorl/sketch.codes", laid_whorl_sketch_codes)], narrowed := true }
def SketchCorrectsUptoSaid : Prop := sketchCorrectsUptoRow.holds Tryd.pinned (OpenSpec.upto sketchCorrectsSpec)

/-- 'whorllaw05.SketchFar', WHERE WHAT IT READS IS OF BULK AT MOST 1048576: true; the input reads as it did. -/
def sketchFarUptoRow : OpenClaim := { program := "ytnienfgaidccpaadoor", sum := "54c0b11225f69fd3d472a7194ddae025959418d1da6778a66622dc89562041d8", func := "whorl/whorllaw05.SketchFar", spec := "sketchFar", unfollowed := true, recurses := true, named := ["whorl/sketch.codes"], apart := false, laid := [("whorl/sketch.codes", laid_whorl_sketch_codes)], narrowed := true }
def SketchFarUptoSaid : Prop := sketchFarUptoRow.holds Tryd.pinned (OpenSpec.upto sketchFarSpec)

/-- 'whorllaw05.SketchLinear', WHERE WHAT IT READS IS OF BULK AT MOST 1048576: true; the input reads as it did. -/
def sketchLinearUptoRow : OpenClaim := { program := "ytnienfgaidccpaadoor", sum := "54c0b11225f69fd3d472a7194ddae025959418d1da6778a66622dc89562041d8", func := "whorl/whorllaw05.SketchLinear", spec := "sketchLinear", unfollowed := true, recurses := true, named := ["whorl/sketch.codes"], apart := false, laid := [("whorl/sketch.codes", laid_whorl_sketch_codes)], narrowed := true }
def SketchLinearUptoSaid : Prop := sketchLinearUptoRow.holds Tryd.pinned (OpenSpec.upto sketchLinearSpec)

/-- 'whorllaw05.SketchVault', WHERE WHAT IT READS IS OF BULK AT MOST 1048576: true; the input reads as it did. -/
def sketchVaultUptoRow : OpenClaim := { program := "ytnienfgaidccpaadoor", sum := "54c0b11225f69fd3d472a7194ddae025959418d1da6778a66622dc89562041d8", func := "whorl/whorllaw05.SketchVault", spec := "sketchVault", unfollowed := true, recurses := true, named := ["whorl/sketch.codes"], apart := false, laid := [("whorl/sketch.codes", laid_whorl_sketch_codes)], narrowed := true }
def SketchVaultUptoSaid : Prop := sketchVaultUptoRow.holds Tryd.pinned (OpenSpec.upto sketchVaultSpec)

/-- 'whorllaw05.SketchOne', WHERE WHAT IT READS IS OF BULK AT MOST 1048576: true; the input reads as it did. -/
def sketchOneUptoRow : OpenClaim := { program := "ytnienfgaidccpaadoor", sum := "54c0b11225f69fd3d472a7194ddae025959418d1da6778a66622dc89562041d8", func := "whorl/whorllaw05.SketchOne", spec := "sketchOne", unfollowed := true, recurses := true, named := ["whorl/sketch.codes"], apart := false, laid := [("whorl/sketch.codes", laid_whorl_sketch_codes)], narrowed := true }
def SketchOneUptoSaid : Prop := sketchOneUptoRow.holds Tryd.pinned (OpenSpec.upto sketchOneSpec)

/-- 'whorllaw05.SketchHidden', WHERE WHAT IT READS IS OF BULK AT MOST 1048576: true; the input reads as it did. -/
def sketchHiddenUptoRow : OpenClaim := { program := "ytnienfgaidccpaadoor", sum := "54c0b11225f69fd3d472a7194ddae025959418d1da6778a66622dc89562041d8", func := "whorl/whorllaw05.SketchHidden", spec := "sketchHidden", unfollowed := true, recurses := true, named := ["whorl/sketch.codes"], apart := false, laid := [("whorl/sketch.codes", laid_whorl_sketch_codes)], narrowed := true }
def SketchHiddenUptoSaid : Prop := sketchHiddenUptoRow.holds Tryd.pinned (OpenSpec.upto sketchHiddenSpec)

/-- 'whorllaw05.SketchPlaces', WHERE WHAT IT READS IS OF BULK AT MOST 1048576: true; the input reads as it did. -/
def sketchPlacesUptoRow : OpenClaim := { program := "ytnienfgaidccpaadoor", sum := "54c0b11225f69fd3d472a7194ddae025959418d1da6778a66622dc89562041d8", func := "whorl/whorllaw05.SketchPlaces", spec := "sketchPlaces", unfollowed := true, recurses := true, named := ["whorl/sketch.codes"], apart := false, laid := [("whorl/sketch.codes", laid_whorl_sketch_codes)], narrowed := true }
def SketchPlacesUptoSaid : Prop := sketchPlacesUptoRow.holds Tryd.pinned (OpenSpec.upto sketchPlacesSpec)

/-- 'whorllaw05.SketchBack', WHERE WHAT IT READS IS OF BULK AT MOST 1048576: true; the input reads as it did. -/
def sketchBackUptoRow : OpenClaim := { program := "ytnienfgaidccpaadoor", sum := "54c0b11225f69fd3d472a7194ddae025959418d1da6778a66622dc89562041d8", func := "whorl/whorllaw05.SketchBack", spec := "sketchBack", unfollowed := true, recurses := true, named := ["whorl/sketch.codes"], apart := false, laid := [("whorl/sketch.codes", laid_whorl_sketch_codes)], narrowed := true }
def SketchBackUptoSaid : Prop := sketchBackUptoRow.holds Tryd.pinned (OpenSpec.upto sketchBackSpec)

/-- 'whorllaw05.SketchOpened', WHERE WHAT IT READS IS OF BULK AT MOST 1048576: true; the input reads as it did. -/
def sketchOpenedUptoRow : OpenClaim := { program := "ytnienfgaidccpaadoor", sum := "54c0b11225f69fd3d472a7194ddae025959418d1da6778a66622dc89562041d8", func := "whorl/whorllaw05.SketchOpened", spec := "sketchOpened", unfollowed := true, recurses := true, named := ["whorl/sketch.codes"], apart := false, laid := [("whorl/sketch.codes", laid_whorl_sketch_codes)], narrowed := true }
def SketchOpenedUptoSaid : Prop := sketchOpenedUptoRow.holds Tryd.pinned (OpenSpec.upto sketchOpenedSpec)

/-- 'whorllaw05.SketchCodes', WHERE WHAT IT READS IS OF BULK AT MOST 1048576: true; the input reads as it did. -/
def sketchCodesUptoRow : OpenClaim := { program := "ytnienfgaidccpaadoor", sum := "54c0b11225f69fd3d472a7194ddae025959418d1da6778a66622dc89562041d8", func := "whorl/whorllaw05.SketchCodes", spec := "sketchCodes", unfollowed := true, recurses := true, named := ["whorl/sketch.codes"], apart := false, laid := [("whorl/sketch.codes", laid_whorl_sketch_codes)], narrowed := true }
def SketchCodesUptoSaid : Prop := sketchCodesUptoRow.holds Tryd.pinned (OpenSpec.upto sketchCodesSpec)

/-- 'whorllaw05.SketchLeft', WHERE WHAT IT READS IS OF BULK AT MOST 1048576: true; the input reads as it did. -/
def sketchLeftUptoRow : OpenClaim := { program := "ytnienfgaidccpaadoor", sum := "54c0b11225f69fd3d472a7194ddae025959418d1da6778a66622dc89562041d8", func := "whorl/whorllaw05.SketchLeft", spec := "sketchLeft", unfollowed := true, recurses := true, named := ["whorl/sketch.codes"], apart := false, laid := [("whorl/sketch.codes", laid_whorl_sketch_codes)], narrowed := true }
def SketchLeftUptoSaid : Prop := sketchLeftUptoRow.holds Tryd.pinned (OpenSpec.upto sketchLeftSpec)

/-- 'whorllaw05.SketchGuessed', WHERE WHAT IT READS IS OF BULK AT MOST 1048576: true; the input reads as it did. -/
def sketchGuessedUptoRow : OpenClaim := { program := "ytnienfgaidccpaadoor", sum := "54c0b11225f69fd3d472a7194ddae025959418d1da6778a66622dc89562041d8", func := "whorl/whorllaw05.SketchGuessed", spec := "sketchGuessed", unfollowed := true, recurses := true, named := ["whorl/sketch.codes"], apart := false, laid := [("whorl/sketch.codes", laid_whorl_sketch_codes)], narrowed := true }
def SketchGuessedUptoSaid : Prop := sketchGuessedUptoRow.holds Tryd.pinned (OpenSpec.upto sketchGuessedSpec)

/-- 'whorllaw05.SketchExamples', WHERE WHAT IT READS IS OF BULK AT MOST 1048576: true; the input reads as it did. -/
def sketchExamplesUptoRow : OpenClaim := { program := "ytnienfgaidccpaadoor", sum := "54c0b11225f69fd3d472a7194ddae025959418d1da6778a66622dc89562041d8", func := "whorl/whorllaw05.SketchExamples", spec := "sketchExamples", unfollowed := true, recurses := true, named := ["whorl/sketch.codes"], apart := false, laid := [("whorl/sketch.codes", laid_whorl_sketch_codes)], narrowed := true }
def SketchExamplesUptoSaid : Prop := sketchExamplesUptoRow.holds Tryd.pinned (OpenSpec.upto sketchExamplesSpec)

end Rows
end Go.Proofs.YtnienfgaidccpaaDoor
