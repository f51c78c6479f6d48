/-
  No cell of these rows narrows 'for every input' (looked for: loops, veiled, ifaces, maps, wideKeys, modest, calm, conditions, laid).
  DERIVED. THE GIVEN ROWS OF THIS SEAT. 14 by the template 'for every input the law returns true; each argument reads behind the call as it read before'; 0 by the template 'total and deterministic' (their statements: Qxb6500474aTotals.lean).
  GIVEN WITH THE SEED: the statements are not yours to turn. If you find one false, say at which input.
  Laid BY PROGRAM, IN A SANDBOX (cutbox-rows.mjs): the forced cells as the released guide's own fill.sh prints them over the translation 42521b36b6e58644… (all of the seat's roots in one cut). By AI agents, Wed Nov 11 2026. No macro, syntax, notation, axiom, sorry.
-/
import Derived.Test.Qxb6500474aChecked
import GoSem.Claim
import GoSem.ClaimJoined
import GoSem.ClaimMapViews
import Derived.JoinedTies
import Derived.KernelRfl
namespace Go.Proofs.Qxb6500474a
/- THE CELL 'sum', in the pinned program and in every row, IS THE sha256 OF THE DUMP (.gsa) THAT Qxb6500474aProg.lean LOADS. Nothing in Lean hashes anything: it is a label: what it is worth is what the hold of that sum in a sandbox is worth. -/
noncomputable def Try.pinned : Pinned := { name := "qxb6500474a", sum := "42521b36b6e586444a2f335b43c3dc3a1c92635a53c0b4cfa2d0d2e09865da9a", checked := Try.checked }
namespace Rows
def none {H : Type} : Left H := { results := [], args := [] }

/-- 'gatelaw.Keeps': WHATEVER THE INPUT: true; the input reads as it did. -/
def keepsSpec : ChangeSpec := { name := "keeps", fn := fun _ => fun
  | [d] => { results := [.lit (.bool true)], args := [d] }
  | _ => none }
def keepsRow : OpenClaim := { program := "qxb6500474a", sum := "42521b36b6e586444a2f335b43c3dc3a1c92635a53c0b4cfa2d0d2e09865da9a", func := "e2e/gatelaw.Keeps", spec := "keeps", unfollowed := true, recurses := true, apart := false }
def KeepsSaid : Prop := keepsRow.holds Try.pinned (OpenSpec.ofChange keepsSpec)

/-- ITS FALSE NEIGHBOUR: 'it returns false'. Refute it at one input. -/
def keepsWrong : ChangeSpec := { name := "keeps", fn := fun _ => fun
  | [d] => { results := [.lit (.bool false)], args := [d] }
  | _ => none }
def KeepsWrongFalsely : Prop := keepsRow.holds Try.pinned (OpenSpec.ofChange keepsWrong)

/-- 'gatelaw.KeepsQuiet': WHATEVER THE INPUT: true; the input reads as it did. -/
def keepsQuietSpec : ChangeSpec := { name := "keepsQuiet", fn := fun _ => fun
  | [d] => { results := [.lit (.bool true)], args := [d] }
  | _ => none }
def keepsQuietRow : OpenClaim := { program := "qxb6500474a", sum := "42521b36b6e586444a2f335b43c3dc3a1c92635a53c0b4cfa2d0d2e09865da9a", func := "e2e/gatelaw.KeepsQuiet", spec := "keepsQuiet", unfollowed := true, recurses := true, apart := false }
def KeepsQuietSaid : Prop := keepsQuietRow.holds Try.pinned (OpenSpec.ofChange keepsQuietSpec)

/-- ITS FALSE NEIGHBOUR: 'it returns false'. Refute it at one input. -/
def keepsQuietWrong : ChangeSpec := { name := "keepsQuiet", fn := fun _ => fun
  | [d] => { results := [.lit (.bool false)], args := [d] }
  | _ => none }
def KeepsQuietWrongFalsely : Prop := keepsQuietRow.holds Try.pinned (OpenSpec.ofChange keepsQuietWrong)

/-- 'gatelaw.Refines': WHATEVER THE INPUT: true; the input reads as it did. -/
def refinesSpec : ChangeSpec := { name := "refines", fn := fun _ => fun
  | [d] => { results := [.lit (.bool true)], args := [d] }
  | _ => none }
def refinesRow : OpenClaim := { program := "qxb6500474a", sum := "42521b36b6e586444a2f335b43c3dc3a1c92635a53c0b4cfa2d0d2e09865da9a", func := "e2e/gatelaw.Refines", spec := "refines", unfollowed := true, recurses := true, apart := false }
def RefinesSaid : Prop := refinesRow.holds Try.pinned (OpenSpec.ofChange refinesSpec)

/-- ITS FALSE NEIGHBOUR: 'it returns false'. Refute it at one input. -/
def refinesWrong : ChangeSpec := { name := "refines", fn := fun _ => fun
  | [d] => { results := [.lit (.bool false)], args := [d] }
  | _ => none }
def RefinesWrongFalsely : Prop := refinesRow.holds Try.pinned (OpenSpec.ofChange refinesWrong)

/-- 'gatelaw.RefinesQuiet': WHATEVER THE INPUT: true; the input reads as it did. -/
def refinesQuietSpec : ChangeSpec := { name := "refinesQuiet", fn := fun _ => fun
  | [d] => { results := [.lit (.bool true)], args := [d] }
  | _ => none }
def refinesQuietRow : OpenClaim := { program := "qxb6500474a", sum := "42521b36b6e586444a2f335b43c3dc3a1c92635a53c0b4cfa2d0d2e09865da9a", func := "e2e/gatelaw.RefinesQuiet", spec := "refinesQuiet", unfollowed := true, recurses := true, apart := false }
def RefinesQuietSaid : Prop := refinesQuietRow.holds Try.pinned (OpenSpec.ofChange refinesQuietSpec)

/-- ITS FALSE NEIGHBOUR: 'it returns false'. Refute it at one input. -/
def refinesQuietWrong : ChangeSpec := { name := "refinesQuiet", fn := fun _ => fun
  | [d] => { results := [.lit (.bool false)], args := [d] }
  | _ => none }
def RefinesQuietWrongFalsely : Prop := refinesQuietRow.holds Try.pinned (OpenSpec.ofChange refinesQuietWrong)

/-- 'gatelaw.EdgeNoRow': WHATEVER THE INPUT: true; the input reads as it did. -/
def edgeNoRowSpec : ChangeSpec := { name := "edgeNoRow", fn := fun _ => fun
  | [] => { results := [.lit (.bool true)], args := [] }
  | _ => none }
def edgeNoRowRow : OpenClaim := { program := "qxb6500474a", sum := "42521b36b6e586444a2f335b43c3dc3a1c92635a53c0b4cfa2d0d2e09865da9a", func := "e2e/gatelaw.EdgeNoRow", spec := "edgeNoRow", unfollowed := true, recurses := true, apart := false }
def EdgeNoRowSaid : Prop := edgeNoRowRow.holds Try.pinned (OpenSpec.ofChange edgeNoRowSpec)

/-- ITS FALSE NEIGHBOUR: 'it returns false'. Refute it at one input. -/
def edgeNoRowWrong : ChangeSpec := { name := "edgeNoRow", fn := fun _ => fun
  | [] => { results := [.lit (.bool false)], args := [] }
  | _ => none }
def EdgeNoRowWrongFalsely : Prop := edgeNoRowRow.holds Try.pinned (OpenSpec.ofChange edgeNoRowWrong)

/-- 'gatelaw.EdgeOneRow': WHATEVER THE INPUT: true; the input reads as it did. -/
def edgeOneRowSpec : ChangeSpec := { name := "edgeOneRow", fn := fun _ => fun
  | [] => { results := [.lit (.bool true)], args := [] }
  | _ => none }
def edgeOneRowRow : OpenClaim := { program := "qxb6500474a", sum := "42521b36b6e586444a2f335b43c3dc3a1c92635a53c0b4cfa2d0d2e09865da9a", func := "e2e/gatelaw.EdgeOneRow", spec := "edgeOneRow", unfollowed := true, recurses := true, apart := false }
def EdgeOneRowSaid : Prop := edgeOneRowRow.holds Try.pinned (OpenSpec.ofChange edgeOneRowSpec)

/-- ITS FALSE NEIGHBOUR: 'it returns false'. Refute it at one input. -/
def edgeOneRowWrong : ChangeSpec := { name := "edgeOneRow", fn := fun _ => fun
  | [] => { results := [.lit (.bool false)], args := [] }
  | _ => none }
def EdgeOneRowWrongFalsely : Prop := edgeOneRowRow.holds Try.pinned (OpenSpec.ofChange edgeOneRowWrong)

/-- 'gatelaw.EdgeThreeRows': WHATEVER THE INPUT: true; the input reads as it did. -/
def edgeThreeRowsSpec : ChangeSpec := { name := "edgeThreeRows", fn := fun _ => fun
  | [] => { results := [.lit (.bool true)], args := [] }
  | _ => none }
def edgeThreeRowsRow : OpenClaim := { program := "qxb6500474a", sum := "42521b36b6e586444a2f335b43c3dc3a1c92635a53c0b4cfa2d0d2e09865da9a", func := "e2e/gatelaw.EdgeThreeRows", spec := "edgeThreeRows", unfollowed := true, recurses := true, apart := false }
def EdgeThreeRowsSaid : Prop := edgeThreeRowsRow.holds Try.pinned (OpenSpec.ofChange edgeThreeRowsSpec)

/-- ITS FALSE NEIGHBOUR: 'it returns false'. Refute it at one input. -/
def edgeThreeRowsWrong : ChangeSpec := { name := "edgeThreeRows", fn := fun _ => fun
  | [] => { results := [.lit (.bool false)], args := [] }
  | _ => none }
def EdgeThreeRowsWrongFalsely : Prop := edgeThreeRowsRow.holds Try.pinned (OpenSpec.ofChange edgeThreeRowsWrong)

/-- 'gatelaw.EdgeSixteen': WHATEVER THE INPUT: true; the input reads as it did. -/
def edgeSixteenSpec : ChangeSpec := { name := "edgeSixteen", fn := fun _ => fun
  | [] => { results := [.lit (.bool true)], args := [] }
  | _ => none }
def edgeSixteenRow : OpenClaim := { program := "qxb6500474a", sum := "42521b36b6e586444a2f335b43c3dc3a1c92635a53c0b4cfa2d0d2e09865da9a", func := "e2e/gatelaw.EdgeSixteen", spec := "edgeSixteen", unfollowed := true, recurses := true, apart := false }
def EdgeSixteenSaid : Prop := edgeSixteenRow.holds Try.pinned (OpenSpec.ofChange edgeSixteenSpec)

/-- ITS FALSE NEIGHBOUR: 'it returns false'. Refute it at one input. -/
def edgeSixteenWrong : ChangeSpec := { name := "edgeSixteen", fn := fun _ => fun
  | [] => { results := [.lit (.bool false)], args := [] }
  | _ => none }
def EdgeSixteenWrongFalsely : Prop := edgeSixteenRow.holds Try.pinned (OpenSpec.ofChange edgeSixteenWrong)

/-- 'gatelaw.EdgeWrittenBehindTheGo': WHATEVER THE INPUT: true; the input reads as it did. -/
def edgeWrittenBehindTheGoSpec : ChangeSpec := { name := "edgeWrittenBehindTheGo", fn := fun _ => fun
  | [] => { results := [.lit (.bool true)], args := [] }
  | _ => none }
def edgeWrittenBehindTheGoRow : OpenClaim := { program := "qxb6500474a", sum := "42521b36b6e586444a2f335b43c3dc3a1c92635a53c0b4cfa2d0d2e09865da9a", func := "e2e/gatelaw.EdgeWrittenBehindTheGo", spec := "edgeWrittenBehindTheGo", unfollowed := true, recurses := true, apart := false }
def EdgeWrittenBehindTheGoSaid : Prop := edgeWrittenBehindTheGoRow.holds Try.pinned (OpenSpec.ofChange edgeWrittenBehindTheGoSpec)

/-- ITS FALSE NEIGHBOUR: 'it returns false'. Refute it at one input. -/
def edgeWrittenBehindTheGoWrong : ChangeSpec := { name := "edgeWrittenBehindTheGo", fn := fun _ => fun
  | [] => { results := [.lit (.bool false)], args := [] }
  | _ => none }
def EdgeWrittenBehindTheGoWrongFalsely : Prop := edgeWrittenBehindTheGoRow.holds Try.pinned (OpenSpec.ofChange edgeWrittenBehindTheGoWrong)

/-- 'gatelaw.EdgeOwnId': WHATEVER THE INPUT: true; the input reads as it did. -/
def edgeOwnIdSpec : ChangeSpec := { name := "edgeOwnId", fn := fun _ => fun
  | [] => { results := [.lit (.bool true)], args := [] }
  | _ => none }
def edgeOwnIdRow : OpenClaim := { program := "qxb6500474a", sum := "42521b36b6e586444a2f335b43c3dc3a1c92635a53c0b4cfa2d0d2e09865da9a", func := "e2e/gatelaw.EdgeOwnId", spec := "edgeOwnId", unfollowed := true, recurses := true, apart := false }
def EdgeOwnIdSaid : Prop := edgeOwnIdRow.holds Try.pinned (OpenSpec.ofChange edgeOwnIdSpec)

/-- ITS FALSE NEIGHBOUR: 'it returns false'. Refute it at one input. -/
def edgeOwnIdWrong : ChangeSpec := { name := "edgeOwnId", fn := fun _ => fun
  | [] => { results := [.lit (.bool false)], args := [] }
  | _ => none }
def EdgeOwnIdWrongFalsely : Prop := edgeOwnIdRow.holds Try.pinned (OpenSpec.ofChange edgeOwnIdWrong)

/-- 'gatelaw.EdgeHanded': WHATEVER THE INPUT: true; the input reads as it did. -/
def edgeHandedSpec : ChangeSpec := { name := "edgeHanded", fn := fun _ => fun
  | [] => { results := [.lit (.bool true)], args := [] }
  | _ => none }
def edgeHandedRow : OpenClaim := { program := "qxb6500474a", sum := "42521b36b6e586444a2f335b43c3dc3a1c92635a53c0b4cfa2d0d2e09865da9a", func := "e2e/gatelaw.EdgeHanded", spec := "edgeHanded", unfollowed := true, recurses := true, apart := false }
def EdgeHandedSaid : Prop := edgeHandedRow.holds Try.pinned (OpenSpec.ofChange edgeHandedSpec)

/-- ITS FALSE NEIGHBOUR: 'it returns false'. Refute it at one input. -/
def edgeHandedWrong : ChangeSpec := { name := "edgeHanded", fn := fun _ => fun
  | [] => { results := [.lit (.bool false)], args := [] }
  | _ => none }
def EdgeHandedWrongFalsely : Prop := edgeHandedRow.holds Try.pinned (OpenSpec.ofChange edgeHandedWrong)

/-- 'gatelaw.EdgeBackToBack': WHATEVER THE INPUT: true; the input reads as it did. -/
def edgeBackToBackSpec : ChangeSpec := { name := "edgeBackToBack", fn := fun _ => fun
  | [] => { results := [.lit (.bool true)], args := [] }
  | _ => none }
def edgeBackToBackRow : OpenClaim := { program := "qxb6500474a", sum := "42521b36b6e586444a2f335b43c3dc3a1c92635a53c0b4cfa2d0d2e09865da9a", func := "e2e/gatelaw.EdgeBackToBack", spec := "edgeBackToBack", unfollowed := true, recurses := true, apart := false }
def EdgeBackToBackSaid : Prop := edgeBackToBackRow.holds Try.pinned (OpenSpec.ofChange edgeBackToBackSpec)

/-- ITS FALSE NEIGHBOUR: 'it returns false'. Refute it at one input. -/
def edgeBackToBackWrong : ChangeSpec := { name := "edgeBackToBack", fn := fun _ => fun
  | [] => { results := [.lit (.bool false)], args := [] }
  | _ => none }
def EdgeBackToBackWrongFalsely : Prop := edgeBackToBackRow.holds Try.pinned (OpenSpec.ofChange edgeBackToBackWrong)

/-- 'gatelaw.EdgeSweepTotal': WHATEVER THE INPUT: true; the input reads as it did. -/
def edgeSweepTotalSpec : ChangeSpec := { name := "edgeSweepTotal", fn := fun _ => fun
  | [] => { results := [.lit (.bool true)], args := [] }
  | _ => none }
def edgeSweepTotalRow : OpenClaim := { program := "qxb6500474a", sum := "42521b36b6e586444a2f335b43c3dc3a1c92635a53c0b4cfa2d0d2e09865da9a", func := "e2e/gatelaw.EdgeSweepTotal", spec := "edgeSweepTotal", apart := false }
def EdgeSweepTotalSaid : Prop := edgeSweepTotalRow.holds Try.pinned (OpenSpec.ofChange edgeSweepTotalSpec)

/-- ITS FALSE NEIGHBOUR: 'it returns false'. Refute it at one input. -/
def edgeSweepTotalWrong : ChangeSpec := { name := "edgeSweepTotal", fn := fun _ => fun
  | [] => { results := [.lit (.bool false)], args := [] }
  | _ => none }
def EdgeSweepTotalWrongFalsely : Prop := edgeSweepTotalRow.holds Try.pinned (OpenSpec.ofChange edgeSweepTotalWrong)

/-- 'gatelaw.EdgeMerge': WHATEVER THE INPUT: true; the input reads as it did. -/
def edgeMergeSpec : ChangeSpec := { name := "edgeMerge", fn := fun _ => fun
  | [] => { results := [.lit (.bool true)], args := [] }
  | _ => none }
def edgeMergeRow : OpenClaim := { program := "qxb6500474a", sum := "42521b36b6e586444a2f335b43c3dc3a1c92635a53c0b4cfa2d0d2e09865da9a", func := "e2e/gatelaw.EdgeMerge", spec := "edgeMerge", apart := false }
def EdgeMergeSaid : Prop := edgeMergeRow.holds Try.pinned (OpenSpec.ofChange edgeMergeSpec)

/-- ITS FALSE NEIGHBOUR: 'it returns false'. Refute it at one input. -/
def edgeMergeWrong : ChangeSpec := { name := "edgeMerge", fn := fun _ => fun
  | [] => { results := [.lit (.bool false)], args := [] }
  | _ => none }
def EdgeMergeWrongFalsely : Prop := edgeMergeRow.holds Try.pinned (OpenSpec.ofChange edgeMergeWrong)

end Rows
end Go.Proofs.Qxb6500474a
