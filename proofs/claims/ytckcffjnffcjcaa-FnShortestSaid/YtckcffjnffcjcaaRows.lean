/-
  No cell of these rows narrows 'for every input' (looked for: loops, veiled, ifaces, maps, wideKeys, modest, calm, conditions, laid).
  DERIVED. THE GIVEN ROWS OF THIS SEAT. 23 by the template 'for every input the law returns true; each argument reads behind the call as it read before'; 0 by the template 'total and deterministic' (their statements: YtckcffjnffcjcaaTotals.lean).
  GIVEN WITH THE SEED: the statements are not yours to turn. If you find one false, say at which input.
  Laid BY PROGRAM, IN A SANDBOX (cutbox-rows.mjs): the forced cells as the released guide's own fill.sh prints them over the translation 3c506d9aefef9902… (all of the seat's roots in one cut). By AI agents, Wed Nov 11 2026. No macro, syntax, notation, axiom, sorry.
-/
import Derived.Test.YtckcffjnffcjcaaChecked
import GoSem.Claim
import GoSem.ClaimJoined
import GoSem.ClaimMapViews
import Derived.JoinedTies
import Derived.KernelRfl
namespace Go.Proofs.Ytckcffjnffcjcaa
/- THE CELL 'sum', in the pinned program and in every row, IS THE sha256 OF THE DUMP (.gsa) THAT YtckcffjnffcjcaaProg.lean LOADS. Nothing in Lean hashes anything: it is a label: what it is worth is what the hold of that sum in a sandbox is worth. -/
noncomputable def Try.pinned : Pinned := { name := "ytckcffjnffcjcaa", sum := "3c506d9aefef9902e1aa80cab79e4679e1e3b6bdc4e5c14d5edc6fc29ffd34ac", checked := Try.checked }
namespace Rows
def none {H : Type} : Left H := { results := [], args := [] }

/-- 'laws.FnExactConstants': WHATEVER THE INPUT: true; the input reads as it did. -/
def fnExactConstantsSpec : ChangeSpec := { name := "fnExactConstants", fn := fun _ => fun
  | [] => { results := [.lit (.bool true)], args := [] }
  | _ => none }
def fnExactConstantsRow : OpenClaim := { program := "ytckcffjnffcjcaa", sum := "3c506d9aefef9902e1aa80cab79e4679e1e3b6bdc4e5c14d5edc6fc29ffd34ac", func := "loop.example/ballast/laws.FnExactConstants", spec := "fnExactConstants", plainKeys := false, apart := false }
def FnExactConstantsSaid : Prop := fnExactConstantsRow.holds Try.pinned (OpenSpec.ofChange fnExactConstantsSpec)

/-- ITS FALSE NEIGHBOUR: 'it returns false'. Refute it at one input. -/
def fnExactConstantsWrong : ChangeSpec := { name := "fnExactConstants", fn := fun _ => fun
  | [] => { results := [.lit (.bool false)], args := [] }
  | _ => none }
def FnExactConstantsWrongFalsely : Prop := fnExactConstantsRow.holds Try.pinned (OpenSpec.ofChange fnExactConstantsWrong)

/-- 'laws.FnExactPartsLen': WHATEVER THE INPUT: true; the input reads as it did. -/
def fnExactPartsLenSpec : ChangeSpec := { name := "fnExactPartsLen", fn := fun _ => fun
  | [d] => { results := [.lit (.bool true)], args := [d] }
  | _ => none }
def fnExactPartsLenRow : OpenClaim := { program := "ytckcffjnffcjcaa", sum := "3c506d9aefef9902e1aa80cab79e4679e1e3b6bdc4e5c14d5edc6fc29ffd34ac", func := "loop.example/ballast/laws.FnExactPartsLen", spec := "fnExactPartsLen", plainKeys := false, apart := false }
def FnExactPartsLenSaid : Prop := fnExactPartsLenRow.holds Try.pinned (OpenSpec.ofChange fnExactPartsLenSpec)

/-- ITS FALSE NEIGHBOUR: 'it returns false'. Refute it at one input. -/
def fnExactPartsLenWrong : ChangeSpec := { name := "fnExactPartsLen", fn := fun _ => fun
  | [d] => { results := [.lit (.bool false)], args := [d] }
  | _ => none }
def FnExactPartsLenWrongFalsely : Prop := fnExactPartsLenRow.holds Try.pinned (OpenSpec.ofChange fnExactPartsLenWrong)

/-- 'laws.FnExactTouch': WHATEVER THE INPUT: true; the input reads as it did. -/
def fnExactTouchSpec : ChangeSpec := { name := "fnExactTouch", fn := fun _ => fun
  | [d1, d2] => { results := [.lit (.bool true)], args := [d1, d2] }
  | _ => none }
def fnExactTouchRow : OpenClaim := { program := "ytckcffjnffcjcaa", sum := "3c506d9aefef9902e1aa80cab79e4679e1e3b6bdc4e5c14d5edc6fc29ffd34ac", func := "loop.example/ballast/laws.FnExactTouch", spec := "fnExactTouch", plainKeys := false, apart := false }
def FnExactTouchSaid : Prop := fnExactTouchRow.holds Try.pinned (OpenSpec.ofChange fnExactTouchSpec)

/-- ITS FALSE NEIGHBOUR: 'it returns false'. Refute it at one input. -/
def fnExactTouchWrong : ChangeSpec := { name := "fnExactTouch", fn := fun _ => fun
  | [d1, d2] => { results := [.lit (.bool false)], args := [d1, d2] }
  | _ => none }
def FnExactTouchWrongFalsely : Prop := fnExactTouchRow.holds Try.pinned (OpenSpec.ofChange fnExactTouchWrong)

/-- 'laws.FnTop': WHATEVER THE INPUT: true; the input reads as it did. -/
def fnTopSpec : ChangeSpec := { name := "fnTop", fn := fun _ => fun
  | [d1, d2] => { results := [.lit (.bool true)], args := [d1, d2] }
  | _ => none }
def fnTopRow : OpenClaim := { program := "ytckcffjnffcjcaa", sum := "3c506d9aefef9902e1aa80cab79e4679e1e3b6bdc4e5c14d5edc6fc29ffd34ac", func := "loop.example/ballast/laws.FnTop", spec := "fnTop", unfollowed := true, recurses := true, plainKeys := false, apart := false }
def FnTopSaid : Prop := fnTopRow.holds Try.pinned (OpenSpec.ofChange fnTopSpec)

/-- ITS FALSE NEIGHBOUR: 'it returns false'. Refute it at one input. -/
def fnTopWrong : ChangeSpec := { name := "fnTop", fn := fun _ => fun
  | [d1, d2] => { results := [.lit (.bool false)], args := [d1, d2] }
  | _ => none }
def FnTopWrongFalsely : Prop := fnTopRow.holds Try.pinned (OpenSpec.ofChange fnTopWrong)

/-- 'laws.FnExactNetOk': WHATEVER THE INPUT: true; the input reads as it did. -/
def fnExactNetOkSpec : ChangeSpec := { name := "fnExactNetOk", fn := fun _ => fun
  | [d] => { results := [.lit (.bool true)], args := [d] }
  | _ => none }
def fnExactNetOkRow : OpenClaim := { program := "ytckcffjnffcjcaa", sum := "3c506d9aefef9902e1aa80cab79e4679e1e3b6bdc4e5c14d5edc6fc29ffd34ac", func := "loop.example/ballast/laws.FnExactNetOk", spec := "fnExactNetOk", plainKeys := false, apart := false }
def FnExactNetOkSaid : Prop := fnExactNetOkRow.holds Try.pinned (OpenSpec.ofChange fnExactNetOkSpec)

/-- ITS FALSE NEIGHBOUR: 'it returns false'. Refute it at one input. -/
def fnExactNetOkWrong : ChangeSpec := { name := "fnExactNetOk", fn := fun _ => fun
  | [d] => { results := [.lit (.bool false)], args := [d] }
  | _ => none }
def FnExactNetOkWrongFalsely : Prop := fnExactNetOkRow.holds Try.pinned (OpenSpec.ofChange fnExactNetOkWrong)

/-- 'laws.FnExactSpotOk': WHATEVER THE INPUT: true; the input reads as it did. -/
def fnExactSpotOkSpec : ChangeSpec := { name := "fnExactSpotOk", fn := fun _ => fun
  | [d1, d2] => { results := [.lit (.bool true)], args := [d1, d2] }
  | _ => none }
def fnExactSpotOkRow : OpenClaim := { program := "ytckcffjnffcjcaa", sum := "3c506d9aefef9902e1aa80cab79e4679e1e3b6bdc4e5c14d5edc6fc29ffd34ac", func := "loop.example/ballast/laws.FnExactSpotOk", spec := "fnExactSpotOk", plainKeys := false, apart := false }
def FnExactSpotOkSaid : Prop := fnExactSpotOkRow.holds Try.pinned (OpenSpec.ofChange fnExactSpotOkSpec)

/-- ITS FALSE NEIGHBOUR: 'it returns false'. Refute it at one input. -/
def fnExactSpotOkWrong : ChangeSpec := { name := "fnExactSpotOk", fn := fun _ => fun
  | [d1, d2] => { results := [.lit (.bool false)], args := [d1, d2] }
  | _ => none }
def FnExactSpotOkWrongFalsely : Prop := fnExactSpotOkRow.holds Try.pinned (OpenSpec.ofChange fnExactSpotOkWrong)

/-- 'laws.FnExactJointAt': WHATEVER THE INPUT: true; the input reads as it did. -/
def fnExactJointAtSpec : ChangeSpec := { name := "fnExactJointAt", fn := fun _ => fun
  | [d1, d2] => { results := [.lit (.bool true)], args := [d1, d2] }
  | _ => none }
def fnExactJointAtRow : OpenClaim := { program := "ytckcffjnffcjcaa", sum := "3c506d9aefef9902e1aa80cab79e4679e1e3b6bdc4e5c14d5edc6fc29ffd34ac", func := "loop.example/ballast/laws.FnExactJointAt", spec := "fnExactJointAt", plainKeys := false, apart := false }
def FnExactJointAtSaid : Prop := fnExactJointAtRow.holds Try.pinned (OpenSpec.ofChange fnExactJointAtSpec)

/-- ITS FALSE NEIGHBOUR: 'it returns false'. Refute it at one input. -/
def fnExactJointAtWrong : ChangeSpec := { name := "fnExactJointAt", fn := fun _ => fun
  | [d1, d2] => { results := [.lit (.bool false)], args := [d1, d2] }
  | _ => none }
def FnExactJointAtWrongFalsely : Prop := fnExactJointAtRow.holds Try.pinned (OpenSpec.ofChange fnExactJointAtWrong)

/-- 'laws.FnExactTurn': WHATEVER THE INPUT: true; the input reads as it did. -/
def fnExactTurnSpec : ChangeSpec := { name := "fnExactTurn", fn := fun _ => fun
  | [d1, d2] => { results := [.lit (.bool true)], args := [d1, d2] }
  | _ => none }
def fnExactTurnRow : OpenClaim := { program := "ytckcffjnffcjcaa", sum := "3c506d9aefef9902e1aa80cab79e4679e1e3b6bdc4e5c14d5edc6fc29ffd34ac", func := "loop.example/ballast/laws.FnExactTurn", spec := "fnExactTurn", plainKeys := false, apart := false }
def FnExactTurnSaid : Prop := fnExactTurnRow.holds Try.pinned (OpenSpec.ofChange fnExactTurnSpec)

/-- ITS FALSE NEIGHBOUR: 'it returns false'. Refute it at one input. -/
def fnExactTurnWrong : ChangeSpec := { name := "fnExactTurn", fn := fun _ => fun
  | [d1, d2] => { results := [.lit (.bool false)], args := [d1, d2] }
  | _ => none }
def FnExactTurnWrongFalsely : Prop := fnExactTurnRow.holds Try.pinned (OpenSpec.ofChange fnExactTurnWrong)

/-- 'laws.FnExactAcross': WHATEVER THE INPUT: true; the input reads as it did. -/
def fnExactAcrossSpec : ChangeSpec := { name := "fnExactAcross", fn := fun _ => fun
  | [d1, d2] => { results := [.lit (.bool true)], args := [d1, d2] }
  | _ => none }
def fnExactAcrossRow : OpenClaim := { program := "ytckcffjnffcjcaa", sum := "3c506d9aefef9902e1aa80cab79e4679e1e3b6bdc4e5c14d5edc6fc29ffd34ac", func := "loop.example/ballast/laws.FnExactAcross", spec := "fnExactAcross", plainKeys := false, apart := false }
def FnExactAcrossSaid : Prop := fnExactAcrossRow.holds Try.pinned (OpenSpec.ofChange fnExactAcrossSpec)

/-- ITS FALSE NEIGHBOUR: 'it returns false'. Refute it at one input. -/
def fnExactAcrossWrong : ChangeSpec := { name := "fnExactAcross", fn := fun _ => fun
  | [d1, d2] => { results := [.lit (.bool false)], args := [d1, d2] }
  | _ => none }
def FnExactAcrossWrongFalsely : Prop := fnExactAcrossRow.holds Try.pinned (OpenSpec.ofChange fnExactAcrossWrong)

/-- 'laws.FnBack': WHATEVER THE INPUT: true; the input reads as it did. -/
def fnBackSpec : ChangeSpec := { name := "fnBack", fn := fun _ => fun
  | [d1, d2] => { results := [.lit (.bool true)], args := [d1, d2] }
  | _ => none }
def fnBackRow : OpenClaim := { program := "ytckcffjnffcjcaa", sum := "3c506d9aefef9902e1aa80cab79e4679e1e3b6bdc4e5c14d5edc6fc29ffd34ac", func := "loop.example/ballast/laws.FnBack", spec := "fnBack", unfollowed := true, recurses := true, plainKeys := false, apart := false }
def FnBackSaid : Prop := fnBackRow.holds Try.pinned (OpenSpec.ofChange fnBackSpec)

/-- ITS FALSE NEIGHBOUR: 'it returns false'. Refute it at one input. -/
def fnBackWrong : ChangeSpec := { name := "fnBack", fn := fun _ => fun
  | [d1, d2] => { results := [.lit (.bool false)], args := [d1, d2] }
  | _ => none }
def FnBackWrongFalsely : Prop := fnBackRow.holds Try.pinned (OpenSpec.ofChange fnBackWrong)

/-- 'laws.FnFlip': WHATEVER THE INPUT: true; the input reads as it did. -/
def fnFlipSpec : ChangeSpec := { name := "fnFlip", fn := fun _ => fun
  | [d1, d2] => { results := [.lit (.bool true)], args := [d1, d2] }
  | _ => none }
def fnFlipRow : OpenClaim := { program := "ytckcffjnffcjcaa", sum := "3c506d9aefef9902e1aa80cab79e4679e1e3b6bdc4e5c14d5edc6fc29ffd34ac", func := "loop.example/ballast/laws.FnFlip", spec := "fnFlip", unfollowed := true, recurses := true, plainKeys := false, apart := false }
def FnFlipSaid : Prop := fnFlipRow.holds Try.pinned (OpenSpec.ofChange fnFlipSpec)

/-- ITS FALSE NEIGHBOUR: 'it returns false'. Refute it at one input. -/
def fnFlipWrong : ChangeSpec := { name := "fnFlip", fn := fun _ => fun
  | [d1, d2] => { results := [.lit (.bool false)], args := [d1, d2] }
  | _ => none }
def FnFlipWrongFalsely : Prop := fnFlipRow.holds Try.pinned (OpenSpec.ofChange fnFlipWrong)

/-- 'laws.FnLoops': WHATEVER THE INPUT: true; the input reads as it did. -/
def fnLoopsSpec : ChangeSpec := { name := "fnLoops", fn := fun _ => fun
  | [d] => { results := [.lit (.bool true)], args := [d] }
  | _ => none }
def fnLoopsRow : OpenClaim := { program := "ytckcffjnffcjcaa", sum := "3c506d9aefef9902e1aa80cab79e4679e1e3b6bdc4e5c14d5edc6fc29ffd34ac", func := "loop.example/ballast/laws.FnLoops", spec := "fnLoops", unfollowed := true, recurses := true, plainKeys := false, apart := false }
def FnLoopsSaid : Prop := fnLoopsRow.holds Try.pinned (OpenSpec.ofChange fnLoopsSpec)

/-- ITS FALSE NEIGHBOUR: 'it returns false'. Refute it at one input. -/
def fnLoopsWrong : ChangeSpec := { name := "fnLoops", fn := fun _ => fun
  | [d] => { results := [.lit (.bool false)], args := [d] }
  | _ => none }
def FnLoopsWrongFalsely : Prop := fnLoopsRow.holds Try.pinned (OpenSpec.ofChange fnLoopsWrong)

/-- 'laws.FnParts': WHATEVER THE INPUT: true; the input reads as it did. -/
def fnPartsSpec : ChangeSpec := { name := "fnParts", fn := fun _ => fun
  | [d1, d2] => { results := [.lit (.bool true)], args := [d1, d2] }
  | _ => none }
def fnPartsRow : OpenClaim := { program := "ytckcffjnffcjcaa", sum := "3c506d9aefef9902e1aa80cab79e4679e1e3b6bdc4e5c14d5edc6fc29ffd34ac", func := "loop.example/ballast/laws.FnParts", spec := "fnParts", unfollowed := true, recurses := true, plainKeys := false, apart := false }
def FnPartsSaid : Prop := fnPartsRow.holds Try.pinned (OpenSpec.ofChange fnPartsSpec)

/-- ITS FALSE NEIGHBOUR: 'it returns false'. Refute it at one input. -/
def fnPartsWrong : ChangeSpec := { name := "fnParts", fn := fun _ => fun
  | [d1, d2] => { results := [.lit (.bool false)], args := [d1, d2] }
  | _ => none }
def FnPartsWrongFalsely : Prop := fnPartsRow.holds Try.pinned (OpenSpec.ofChange fnPartsWrong)

/-- 'laws.FnExactDrive': WHATEVER THE INPUT: true; the input reads as it did. -/
def fnExactDriveSpec : ChangeSpec := { name := "fnExactDrive", fn := fun _ => fun
  | [d1, d2, d3, d4] => { results := [.lit (.bool true)], args := [d1, d2, d3, d4] }
  | _ => none }
def fnExactDriveRow : OpenClaim := { program := "ytckcffjnffcjcaa", sum := "3c506d9aefef9902e1aa80cab79e4679e1e3b6bdc4e5c14d5edc6fc29ffd34ac", func := "loop.example/ballast/laws.FnExactDrive", spec := "fnExactDrive", unfollowed := true, recurses := true, plainKeys := false, apart := false }
def FnExactDriveSaid : Prop := fnExactDriveRow.holds Try.pinned (OpenSpec.ofChange fnExactDriveSpec)

/-- ITS FALSE NEIGHBOUR: 'it returns false'. Refute it at one input. -/
def fnExactDriveWrong : ChangeSpec := { name := "fnExactDrive", fn := fun _ => fun
  | [d1, d2, d3, d4] => { results := [.lit (.bool false)], args := [d1, d2, d3, d4] }
  | _ => none }
def FnExactDriveWrongFalsely : Prop := fnExactDriveRow.holds Try.pinned (OpenSpec.ofChange fnExactDriveWrong)

/-- 'laws.FnExactPathLies': WHATEVER THE INPUT: true; the input reads as it did. -/
def fnExactPathLiesSpec : ChangeSpec := { name := "fnExactPathLies", fn := fun _ => fun
  | [d1, d2] => { results := [.lit (.bool true)], args := [d1, d2] }
  | _ => none }
def fnExactPathLiesRow : OpenClaim := { program := "ytckcffjnffcjcaa", sum := "3c506d9aefef9902e1aa80cab79e4679e1e3b6bdc4e5c14d5edc6fc29ffd34ac", func := "loop.example/ballast/laws.FnExactPathLies", spec := "fnExactPathLies", unfollowed := true, recurses := true, plainKeys := false, apart := false }
def FnExactPathLiesSaid : Prop := fnExactPathLiesRow.holds Try.pinned (OpenSpec.ofChange fnExactPathLiesSpec)

/-- ITS FALSE NEIGHBOUR: 'it returns false'. Refute it at one input. -/
def fnExactPathLiesWrong : ChangeSpec := { name := "fnExactPathLies", fn := fun _ => fun
  | [d1, d2] => { results := [.lit (.bool false)], args := [d1, d2] }
  | _ => none }
def FnExactPathLiesWrongFalsely : Prop := fnExactPathLiesRow.holds Try.pinned (OpenSpec.ofChange fnExactPathLiesWrong)

/-- 'laws.FnExactAhead': WHATEVER THE INPUT: true; the input reads as it did. -/
def fnExactAheadSpec : ChangeSpec := { name := "fnExactAhead", fn := fun _ => fun
  | [d1, d2, d3, d4] => { results := [.lit (.bool true)], args := [d1, d2, d3, d4] }
  | _ => none }
def fnExactAheadRow : OpenClaim := { program := "ytckcffjnffcjcaa", sum := "3c506d9aefef9902e1aa80cab79e4679e1e3b6bdc4e5c14d5edc6fc29ffd34ac", func := "loop.example/ballast/laws.FnExactAhead", spec := "fnExactAhead", unfollowed := true, recurses := true, plainKeys := false, apart := false }
def FnExactAheadSaid : Prop := fnExactAheadRow.holds Try.pinned (OpenSpec.ofChange fnExactAheadSpec)

/-- ITS FALSE NEIGHBOUR: 'it returns false'. Refute it at one input. -/
def fnExactAheadWrong : ChangeSpec := { name := "fnExactAhead", fn := fun _ => fun
  | [d1, d2, d3, d4] => { results := [.lit (.bool false)], args := [d1, d2, d3, d4] }
  | _ => none }
def FnExactAheadWrongFalsely : Prop := fnExactAheadRow.holds Try.pinned (OpenSpec.ofChange fnExactAheadWrong)

/-- 'laws.FnExactBehind': WHATEVER THE INPUT: true; the input reads as it did. -/
def fnExactBehindSpec : ChangeSpec := { name := "fnExactBehind", fn := fun _ => fun
  | [d1, d2, d3, d4] => { results := [.lit (.bool true)], args := [d1, d2, d3, d4] }
  | _ => none }
def fnExactBehindRow : OpenClaim := { program := "ytckcffjnffcjcaa", sum := "3c506d9aefef9902e1aa80cab79e4679e1e3b6bdc4e5c14d5edc6fc29ffd34ac", func := "loop.example/ballast/laws.FnExactBehind", spec := "fnExactBehind", unfollowed := true, recurses := true, plainKeys := false, apart := false }
def FnExactBehindSaid : Prop := fnExactBehindRow.holds Try.pinned (OpenSpec.ofChange fnExactBehindSpec)

/-- ITS FALSE NEIGHBOUR: 'it returns false'. Refute it at one input. -/
def fnExactBehindWrong : ChangeSpec := { name := "fnExactBehind", fn := fun _ => fun
  | [d1, d2, d3, d4] => { results := [.lit (.bool false)], args := [d1, d2, d3, d4] }
  | _ => none }
def FnExactBehindWrongFalsely : Prop := fnExactBehindRow.holds Try.pinned (OpenSpec.ofChange fnExactBehindWrong)

/-- 'laws.FnExactLoops': WHATEVER THE INPUT: true; the input reads as it did. -/
def fnExactLoopsSpec : ChangeSpec := { name := "fnExactLoops", fn := fun _ => fun
  | [d] => { results := [.lit (.bool true)], args := [d] }
  | _ => none }
def fnExactLoopsRow : OpenClaim := { program := "ytckcffjnffcjcaa", sum := "3c506d9aefef9902e1aa80cab79e4679e1e3b6bdc4e5c14d5edc6fc29ffd34ac", func := "loop.example/ballast/laws.FnExactLoops", spec := "fnExactLoops", unfollowed := true, recurses := true, plainKeys := false, apart := false }
def FnExactLoopsSaid : Prop := fnExactLoopsRow.holds Try.pinned (OpenSpec.ofChange fnExactLoopsSpec)

/-- ITS FALSE NEIGHBOUR: 'it returns false'. Refute it at one input. -/
def fnExactLoopsWrong : ChangeSpec := { name := "fnExactLoops", fn := fun _ => fun
  | [d] => { results := [.lit (.bool false)], args := [d] }
  | _ => none }
def FnExactLoopsWrongFalsely : Prop := fnExactLoopsRow.holds Try.pinned (OpenSpec.ofChange fnExactLoopsWrong)

/-- 'laws.FnShortest': WHATEVER THE INPUT: true; the input reads as it did. -/
def fnShortestSpec : ChangeSpec := { name := "fnShortest", fn := fun _ => fun
  | [d1, d2] => { results := [.lit (.bool true)], args := [d1, d2] }
  | _ => none }
def fnShortestRow : OpenClaim := { program := "ytckcffjnffcjcaa", sum := "3c506d9aefef9902e1aa80cab79e4679e1e3b6bdc4e5c14d5edc6fc29ffd34ac", func := "loop.example/ballast/laws.FnShortest", spec := "fnShortest", unfollowed := true, recurses := true, plainKeys := false, apart := false }
def FnShortestSaid : Prop := fnShortestRow.holds Try.pinned (OpenSpec.ofChange fnShortestSpec)

/-- ITS FALSE NEIGHBOUR: 'it returns false'. Refute it at one input. -/
def fnShortestWrong : ChangeSpec := { name := "fnShortest", fn := fun _ => fun
  | [d1, d2] => { results := [.lit (.bool false)], args := [d1, d2] }
  | _ => none }
def FnShortestWrongFalsely : Prop := fnShortestRow.holds Try.pinned (OpenSpec.ofChange fnShortestWrong)

/-- 'laws.FnExactStretch': WHATEVER THE INPUT: true; the input reads as it did. -/
def fnExactStretchSpec : ChangeSpec := { name := "fnExactStretch", fn := fun _ => fun
  | [d1, d2, d3] => { results := [.lit (.bool true)], args := [d1, d2, d3] }
  | _ => none }
def fnExactStretchRow : OpenClaim := { program := "ytckcffjnffcjcaa", sum := "3c506d9aefef9902e1aa80cab79e4679e1e3b6bdc4e5c14d5edc6fc29ffd34ac", func := "loop.example/ballast/laws.FnExactStretch", spec := "fnExactStretch", unfollowed := true, recurses := true, plainKeys := false, apart := false }
def FnExactStretchSaid : Prop := fnExactStretchRow.holds Try.pinned (OpenSpec.ofChange fnExactStretchSpec)

/-- ITS FALSE NEIGHBOUR: 'it returns false'. Refute it at one input. -/
def fnExactStretchWrong : ChangeSpec := { name := "fnExactStretch", fn := fun _ => fun
  | [d1, d2, d3] => { results := [.lit (.bool false)], args := [d1, d2, d3] }
  | _ => none }
def FnExactStretchWrongFalsely : Prop := fnExactStretchRow.holds Try.pinned (OpenSpec.ofChange fnExactStretchWrong)

/-- 'laws.FnExactShortest': WHATEVER THE INPUT: true; the input reads as it did. -/
def fnExactShortestSpec : ChangeSpec := { name := "fnExactShortest", fn := fun _ => fun
  | [d1, d2, d3] => { results := [.lit (.bool true)], args := [d1, d2, d3] }
  | _ => none }
def fnExactShortestRow : OpenClaim := { program := "ytckcffjnffcjcaa", sum := "3c506d9aefef9902e1aa80cab79e4679e1e3b6bdc4e5c14d5edc6fc29ffd34ac", func := "loop.example/ballast/laws.FnExactShortest", spec := "fnExactShortest", unfollowed := true, recurses := true, plainKeys := false, apart := false }
def FnExactShortestSaid : Prop := fnExactShortestRow.holds Try.pinned (OpenSpec.ofChange fnExactShortestSpec)

/-- ITS FALSE NEIGHBOUR: 'it returns false'. Refute it at one input. -/
def fnExactShortestWrong : ChangeSpec := { name := "fnExactShortest", fn := fun _ => fun
  | [d1, d2, d3] => { results := [.lit (.bool false)], args := [d1, d2, d3] }
  | _ => none }
def FnExactShortestWrongFalsely : Prop := fnExactShortestRow.holds Try.pinned (OpenSpec.ofChange fnExactShortestWrong)

/-- 'laws.FnExactReach': WHATEVER THE INPUT: true; the input reads as it did. -/
def fnExactReachSpec : ChangeSpec := { name := "fnExactReach", fn := fun _ => fun
  | [d1, d2, d3] => { results := [.lit (.bool true)], args := [d1, d2, d3] }
  | _ => none }
def fnExactReachRow : OpenClaim := { program := "ytckcffjnffcjcaa", sum := "3c506d9aefef9902e1aa80cab79e4679e1e3b6bdc4e5c14d5edc6fc29ffd34ac", func := "loop.example/ballast/laws.FnExactReach", spec := "fnExactReach", unfollowed := true, recurses := true, plainKeys := false, apart := false }
def FnExactReachSaid : Prop := fnExactReachRow.holds Try.pinned (OpenSpec.ofChange fnExactReachSpec)

/-- ITS FALSE NEIGHBOUR: 'it returns false'. Refute it at one input. -/
def fnExactReachWrong : ChangeSpec := { name := "fnExactReach", fn := fun _ => fun
  | [d1, d2, d3] => { results := [.lit (.bool false)], args := [d1, d2, d3] }
  | _ => none }
def FnExactReachWrongFalsely : Prop := fnExactReachRow.holds Try.pinned (OpenSpec.ofChange fnExactReachWrong)

/-- 'laws.FnReach': WHATEVER THE INPUT: true; the input reads as it did. -/
def fnReachSpec : ChangeSpec := { name := "fnReach", fn := fun _ => fun
  | [d1, d2] => { results := [.lit (.bool true)], args := [d1, d2] }
  | _ => none }
def fnReachRow : OpenClaim := { program := "ytckcffjnffcjcaa", sum := "3c506d9aefef9902e1aa80cab79e4679e1e3b6bdc4e5c14d5edc6fc29ffd34ac", func := "loop.example/ballast/laws.FnReach", spec := "fnReach", unfollowed := true, recurses := true, plainKeys := false, apart := false }
def FnReachSaid : Prop := fnReachRow.holds Try.pinned (OpenSpec.ofChange fnReachSpec)

/-- ITS FALSE NEIGHBOUR: 'it returns false'. Refute it at one input. -/
def fnReachWrong : ChangeSpec := { name := "fnReach", fn := fun _ => fun
  | [d1, d2] => { results := [.lit (.bool false)], args := [d1, d2] }
  | _ => none }
def FnReachWrongFalsely : Prop := fnReachRow.holds Try.pinned (OpenSpec.ofChange fnReachWrong)

/- THE SECOND FORM. 'bulk': how many values and letters a reading holds, each counted each time it is reached (what is shared counts as often as it is met; a slice's spare places count too). A statement '..UptoSaid' is the law's where the arguments, and the package variables that the reading takes, are together of bulk at most 1048576: NARROWER than '..Said'. Prove '..Said' where nothing that the law and all that it calls make is longer than what came in: it says more and counts as full. Else prove '..UptoSaid'. A law counts once. -/
mutual
def uptoBulk {H : Type} : DataW H → Nat
  | .lit (.string bytes) => bytes.length + 1
  | .lit _ => 1
  | .nil => 1
  | .ptr d => uptoBulk d + 1
  | .slice elems spare => uptoBulkAll elems + uptoBulkAll spare + 1
  | .agg parts => uptoBulkAll parts + 1
  | .iface _ d => uptoBulk d + 1
  | .map entries => uptoBulkEntries entries + 1
  | .held _ => 1
def uptoBulkAll {H : Type} : List (DataW H) → Nat
  | [] => 0
  | d :: r => uptoBulk d + uptoBulkAll r
def uptoBulkEntries {H : Type} : List (Lit × DataW H) → Nat
  | [] => 0
  | x :: r => uptoBulkEntry x + uptoBulkEntries r
def uptoBulkEntry {H : Type} : Lit × DataW H → Nat
  | (.string bytes, d) => bytes.length + uptoBulk d + 1
  | (_, d) => uptoBulk d + 1
 end
def uptoSmall : (H : Type) → List (DataW H) → Bool := fun _ ds => decide (uptoBulkAll ds ≤ 1048576)
def OpenSpec.upto (s : _root_.Go.ChangeSpec) : _root_.Go.OpenSpec := { _root_.Go.OpenSpec.ofChange s with cond := some uptoSmall }

/-- 'laws.FnExactConstants', WHERE WHAT IT READS IS OF BULK AT MOST 1048576: true; the input reads as it did. -/
def fnExactConstantsUptoRow : OpenClaim := { program := "ytckcffjnffcjcaa", sum := "3c506d9aefef9902e1aa80cab79e4679e1e3b6bdc4e5c14d5edc6fc29ffd34ac", func := "loop.example/ballast/laws.FnExactConstants", spec := "fnExactConstants", plainKeys := false, apart := false, narrowed := true }
def FnExactConstantsUptoSaid : Prop := fnExactConstantsUptoRow.holds Try.pinned (OpenSpec.upto fnExactConstantsSpec)

/-- 'laws.FnExactPartsLen', WHERE WHAT IT READS IS OF BULK AT MOST 1048576: true; the input reads as it did. -/
def fnExactPartsLenUptoRow : OpenClaim := { program := "ytckcffjnffcjcaa", sum := "3c506d9aefef9902e1aa80cab79e4679e1e3b6bdc4e5c14d5edc6fc29ffd34ac", func := "loop.example/ballast/laws.FnExactPartsLen", spec := "fnExactPartsLen", plainKeys := false, apart := false, narrowed := true }
def FnExactPartsLenUptoSaid : Prop := fnExactPartsLenUptoRow.holds Try.pinned (OpenSpec.upto fnExactPartsLenSpec)

/-- 'laws.FnExactTouch', WHERE WHAT IT READS IS OF BULK AT MOST 1048576: true; the input reads as it did. -/
def fnExactTouchUptoRow : OpenClaim := { program := "ytckcffjnffcjcaa", sum := "3c506d9aefef9902e1aa80cab79e4679e1e3b6bdc4e5c14d5edc6fc29ffd34ac", func := "loop.example/ballast/laws.FnExactTouch", spec := "fnExactTouch", plainKeys := false, apart := false, narrowed := true }
def FnExactTouchUptoSaid : Prop := fnExactTouchUptoRow.holds Try.pinned (OpenSpec.upto fnExactTouchSpec)

/-- 'laws.FnTop', WHERE WHAT IT READS IS OF BULK AT MOST 1048576: true; the input reads as it did. -/
def fnTopUptoRow : OpenClaim := { program := "ytckcffjnffcjcaa", sum := "3c506d9aefef9902e1aa80cab79e4679e1e3b6bdc4e5c14d5edc6fc29ffd34ac", func := "loop.example/ballast/laws.FnTop", spec := "fnTop", unfollowed := true, recurses := true, plainKeys := false, apart := false, narrowed := true }
def FnTopUptoSaid : Prop := fnTopUptoRow.holds Try.pinned (OpenSpec.upto fnTopSpec)

/-- 'laws.FnExactNetOk', WHERE WHAT IT READS IS OF BULK AT MOST 1048576: true; the input reads as it did. -/
def fnExactNetOkUptoRow : OpenClaim := { program := "ytckcffjnffcjcaa", sum := "3c506d9aefef9902e1aa80cab79e4679e1e3b6bdc4e5c14d5edc6fc29ffd34ac", func := "loop.example/ballast/laws.FnExactNetOk", spec := "fnExactNetOk", plainKeys := false, apart := false, narrowed := true }
def FnExactNetOkUptoSaid : Prop := fnExactNetOkUptoRow.holds Try.pinned (OpenSpec.upto fnExactNetOkSpec)

/-- 'laws.FnExactSpotOk', WHERE WHAT IT READS IS OF BULK AT MOST 1048576: true; the input reads as it did. -/
def fnExactSpotOkUptoRow : OpenClaim := { program := "ytckcffjnffcjcaa", sum := "3c506d9aefef9902e1aa80cab79e4679e1e3b6bdc4e5c14d5edc6fc29ffd34ac", func := "loop.example/ballast/laws.FnExactSpotOk", spec := "fnExactSpotOk", plainKeys := false, apart := false, narrowed := true }
def FnExactSpotOkUptoSaid : Prop := fnExactSpotOkUptoRow.holds Try.pinned (OpenSpec.upto fnExactSpotOkSpec)

/-- 'laws.FnExactJointAt', WHERE WHAT IT READS IS OF BULK AT MOST 1048576: true; the input reads as it did. -/
def fnExactJointAtUptoRow : OpenClaim := { program := "ytckcffjnffcjcaa", sum := "3c506d9aefef9902e1aa80cab79e4679e1e3b6bdc4e5c14d5edc6fc29ffd34ac", func := "loop.example/ballast/laws.FnExactJointAt", spec := "fnExactJointAt", plainKeys := false, apart := false, narrowed := true }
def FnExactJointAtUptoSaid : Prop := fnExactJointAtUptoRow.holds Try.pinned (OpenSpec.upto fnExactJointAtSpec)

/-- 'laws.FnExactTurn', WHERE WHAT IT READS IS OF BULK AT MOST 1048576: true; the input reads as it did. -/
def fnExactTurnUptoRow : OpenClaim := { program := "ytckcffjnffcjcaa", sum := "3c506d9aefef9902e1aa80cab79e4679e1e3b6bdc4e5c14d5edc6fc29ffd34ac", func := "loop.example/ballast/laws.FnExactTurn", spec := "fnExactTurn", plainKeys := false, apart := false, narrowed := true }
def FnExactTurnUptoSaid : Prop := fnExactTurnUptoRow.holds Try.pinned (OpenSpec.upto fnExactTurnSpec)

/-- 'laws.FnExactAcross', WHERE WHAT IT READS IS OF BULK AT MOST 1048576: true; the input reads as it did. -/
def fnExactAcrossUptoRow : OpenClaim := { program := "ytckcffjnffcjcaa", sum := "3c506d9aefef9902e1aa80cab79e4679e1e3b6bdc4e5c14d5edc6fc29ffd34ac", func := "loop.example/ballast/laws.FnExactAcross", spec := "fnExactAcross", plainKeys := false, apart := false, narrowed := true }
def FnExactAcrossUptoSaid : Prop := fnExactAcrossUptoRow.holds Try.pinned (OpenSpec.upto fnExactAcrossSpec)

/-- 'laws.FnBack', WHERE WHAT IT READS IS OF BULK AT MOST 1048576: true; the input reads as it did. -/
def fnBackUptoRow : OpenClaim := { program := "ytckcffjnffcjcaa", sum := "3c506d9aefef9902e1aa80cab79e4679e1e3b6bdc4e5c14d5edc6fc29ffd34ac", func := "loop.example/ballast/laws.FnBack", spec := "fnBack", unfollowed := true, recurses := true, plainKeys := false, apart := false, narrowed := true }
def FnBackUptoSaid : Prop := fnBackUptoRow.holds Try.pinned (OpenSpec.upto fnBackSpec)

/-- 'laws.FnFlip', WHERE WHAT IT READS IS OF BULK AT MOST 1048576: true; the input reads as it did. -/
def fnFlipUptoRow : OpenClaim := { program := "ytckcffjnffcjcaa", sum := "3c506d9aefef9902e1aa80cab79e4679e1e3b6bdc4e5c14d5edc6fc29ffd34ac", func := "loop.example/ballast/laws.FnFlip", spec := "fnFlip", unfollowed := true, recurses := true, plainKeys := false, apart := false, narrowed := true }
def FnFlipUptoSaid : Prop := fnFlipUptoRow.holds Try.pinned (OpenSpec.upto fnFlipSpec)

/-- 'laws.FnLoops', WHERE WHAT IT READS IS OF BULK AT MOST 1048576: true; the input reads as it did. -/
def fnLoopsUptoRow : OpenClaim := { program := "ytckcffjnffcjcaa", sum := "3c506d9aefef9902e1aa80cab79e4679e1e3b6bdc4e5c14d5edc6fc29ffd34ac", func := "loop.example/ballast/laws.FnLoops", spec := "fnLoops", unfollowed := true, recurses := true, plainKeys := false, apart := false, narrowed := true }
def FnLoopsUptoSaid : Prop := fnLoopsUptoRow.holds Try.pinned (OpenSpec.upto fnLoopsSpec)

/-- 'laws.FnParts', WHERE WHAT IT READS IS OF BULK AT MOST 1048576: true; the input reads as it did. -/
def fnPartsUptoRow : OpenClaim := { program := "ytckcffjnffcjcaa", sum := "3c506d9aefef9902e1aa80cab79e4679e1e3b6bdc4e5c14d5edc6fc29ffd34ac", func := "loop.example/ballast/laws.FnParts", spec := "fnParts", unfollowed := true, recurses := true, plainKeys := false, apart := false, narrowed := true }
def FnPartsUptoSaid : Prop := fnPartsUptoRow.holds Try.pinned (OpenSpec.upto fnPartsSpec)

/-- 'laws.FnExactDrive', WHERE WHAT IT READS IS OF BULK AT MOST 1048576: true; the input reads as it did. -/
def fnExactDriveUptoRow : OpenClaim := { program := "ytckcffjnffcjcaa", sum := "3c506d9aefef9902e1aa80cab79e4679e1e3b6bdc4e5c14d5edc6fc29ffd34ac", func := "loop.example/ballast/laws.FnExactDrive", spec := "fnExactDrive", unfollowed := true, recurses := true, plainKeys := false, apart := false, narrowed := true }
def FnExactDriveUptoSaid : Prop := fnExactDriveUptoRow.holds Try.pinned (OpenSpec.upto fnExactDriveSpec)

/-- 'laws.FnExactPathLies', WHERE WHAT IT READS IS OF BULK AT MOST 1048576: true; the input reads as it did. -/
def fnExactPathLiesUptoRow : OpenClaim := { program := "ytckcffjnffcjcaa", sum := "3c506d9aefef9902e1aa80cab79e4679e1e3b6bdc4e5c14d5edc6fc29ffd34ac", func := "loop.example/ballast/laws.FnExactPathLies", spec := "fnExactPathLies", unfollowed := true, recurses := true, plainKeys := false, apart := false, narrowed := true }
def FnExactPathLiesUptoSaid : Prop := fnExactPathLiesUptoRow.holds Try.pinned (OpenSpec.upto fnExactPathLiesSpec)

/-- 'laws.FnExactAhead', WHERE WHAT IT READS IS OF BULK AT MOST 1048576: true; the input reads as it did. -/
def fnExactAheadUptoRow : OpenClaim := { program := "ytckcffjnffcjcaa", sum := "3c506d9aefef9902e1aa80cab79e4679e1e3b6bdc4e5c14d5edc6fc29ffd34ac", func := "loop.example/ballast/laws.FnExactAhead", spec := "fnExactAhead", unfollowed := true, recurses := true, plainKeys := false, apart := false, narrowed := true }
def FnExactAheadUptoSaid : Prop := fnExactAheadUptoRow.holds Try.pinned (OpenSpec.upto fnExactAheadSpec)

/-- 'laws.FnExactBehind', WHERE WHAT IT READS IS OF BULK AT MOST 1048576: true; the input reads as it did. -/
def fnExactBehindUptoRow : OpenClaim := { program := "ytckcffjnffcjcaa", sum := "3c506d9aefef9902e1aa80cab79e4679e1e3b6bdc4e5c14d5edc6fc29ffd34ac", func := "loop.example/ballast/laws.FnExactBehind", spec := "fnExactBehind", unfollowed := true, recurses := true, plainKeys := false, apart := false, narrowed := true }
def FnExactBehindUptoSaid : Prop := fnExactBehindUptoRow.holds Try.pinned (OpenSpec.upto fnExactBehindSpec)

/-- 'laws.FnExactLoops', WHERE WHAT IT READS IS OF BULK AT MOST 1048576: true; the input reads as it did. -/
def fnExactLoopsUptoRow : OpenClaim := { program := "ytckcffjnffcjcaa", sum := "3c506d9aefef9902e1aa80cab79e4679e1e3b6bdc4e5c14d5edc6fc29ffd34ac", func := "loop.example/ballast/laws.FnExactLoops", spec := "fnExactLoops", unfollowed := true, recurses := true, plainKeys := false, apart := false, narrowed := true }
def FnExactLoopsUptoSaid : Prop := fnExactLoopsUptoRow.holds Try.pinned (OpenSpec.upto fnExactLoopsSpec)

/-- 'laws.FnShortest', WHERE WHAT IT READS IS OF BULK AT MOST 1048576: true; the input reads as it did. -/
def fnShortestUptoRow : OpenClaim := { program := "ytckcffjnffcjcaa", sum := "3c506d9aefef9902e1aa80cab79e4679e1e3b6bdc4e5c14d5edc6fc29ffd34ac", func := "loop.example/ballast/laws.FnShortest", spec := "fnShortest", unfollowed := true, recurses := true, plainKeys := false, apart := false, narrowed := true }
def FnShortestUptoSaid : Prop := fnShortestUptoRow.holds Try.pinned (OpenSpec.upto fnShortestSpec)

/-- 'laws.FnExactStretch', WHERE WHAT IT READS IS OF BULK AT MOST 1048576: true; the input reads as it did. -/
def fnExactStretchUptoRow : OpenClaim := { program := "ytckcffjnffcjcaa", sum := "3c506d9aefef9902e1aa80cab79e4679e1e3b6bdc4e5c14d5edc6fc29ffd34ac", func := "loop.example/ballast/laws.FnExactStretch", spec := "fnExactStretch", unfollowed := true, recurses := true, plainKeys := false, apart := false, narrowed := true }
def FnExactStretchUptoSaid : Prop := fnExactStretchUptoRow.holds Try.pinned (OpenSpec.upto fnExactStretchSpec)

/-- 'laws.FnExactShortest', WHERE WHAT IT READS IS OF BULK AT MOST 1048576: true; the input reads as it did. -/
def fnExactShortestUptoRow : OpenClaim := { program := "ytckcffjnffcjcaa", sum := "3c506d9aefef9902e1aa80cab79e4679e1e3b6bdc4e5c14d5edc6fc29ffd34ac", func := "loop.example/ballast/laws.FnExactShortest", spec := "fnExactShortest", unfollowed := true, recurses := true, plainKeys := false, apart := false, narrowed := true }
def FnExactShortestUptoSaid : Prop := fnExactShortestUptoRow.holds Try.pinned (OpenSpec.upto fnExactShortestSpec)

/-- 'laws.FnExactReach', WHERE WHAT IT READS IS OF BULK AT MOST 1048576: true; the input reads as it did. -/
def fnExactReachUptoRow : OpenClaim := { program := "ytckcffjnffcjcaa", sum := "3c506d9aefef9902e1aa80cab79e4679e1e3b6bdc4e5c14d5edc6fc29ffd34ac", func := "loop.example/ballast/laws.FnExactReach", spec := "fnExactReach", unfollowed := true, recurses := true, plainKeys := false, apart := false, narrowed := true }
def FnExactReachUptoSaid : Prop := fnExactReachUptoRow.holds Try.pinned (OpenSpec.upto fnExactReachSpec)

/-- 'laws.FnReach', WHERE WHAT IT READS IS OF BULK AT MOST 1048576: true; the input reads as it did. -/
def fnReachUptoRow : OpenClaim := { program := "ytckcffjnffcjcaa", sum := "3c506d9aefef9902e1aa80cab79e4679e1e3b6bdc4e5c14d5edc6fc29ffd34ac", func := "loop.example/ballast/laws.FnReach", spec := "fnReach", unfollowed := true, recurses := true, plainKeys := false, apart := false, narrowed := true }
def FnReachUptoSaid : Prop := fnReachUptoRow.holds Try.pinned (OpenSpec.upto fnReachSpec)

end Rows
end Go.Proofs.Ytckcffjnffcjcaa
