/-
  No cell of these rows narrows 'for every input' (looked for: loops, veiled, ifaces, maps, wideKeys, modest, calm, conditions, laid).
  DERIVED. THE GIVEN ROWS OF THIS SEAT. 19 by the template 'for every input the law returns true; each argument reads behind the call as it read before'; 0 by the template 'total and deterministic' (their statements: Qxb6500470aTotals.lean).
  GIVEN WITH THE SEED: the statements are not yours to turn. If you find one false, say at which input.
  Laid BY PROGRAM, IN A SANDBOX (cutbox-rows.mjs): the forced cells as the released guide's own fill.sh prints them over the translation 8351d63347023739… (all of the seat's roots in one cut). By AI agents, Wed Nov 11 2026. No macro, syntax, notation, axiom, sorry.
-/
import Derived.Test.Qxb6500470aChecked
import GoSem.Claim
import GoSem.ClaimJoined
import GoSem.ClaimMapViews
import Derived.JoinedTies
import Derived.KernelRfl
namespace Go.Proofs.Qxb6500470a
/- THE CELL 'sum', in the pinned program and in every row, IS THE sha256 OF THE DUMP (.gsa) THAT Qxb6500470aProg.lean LOADS. Nothing in Lean hashes anything: it is a label: what it is worth is what the hold of that sum in a sandbox is worth. -/
noncomputable def Try.pinned : Pinned := { name := "qxb6500470a", sum := "8351d6334702373920a338e4b6fcfe09a6e287dfb802e279b55e10f39fef516d", checked := Try.checked }
namespace Rows
def none {H : Type} : Left H := { results := [], args := [] }

/-- 'calclaw.Keeps': WHATEVER THE INPUT: true; the input reads as it did. -/
def keepsSpec : ChangeSpec := { name := "keeps", fn := fun _ => fun
  | [d] => { results := [.lit (.bool true)], args := [d] }
  | _ => none }
def keepsRow : OpenClaim := { program := "qxb6500470a", sum := "8351d6334702373920a338e4b6fcfe09a6e287dfb802e279b55e10f39fef516d", func := "e2e/calclaw.Keeps", spec := "keeps", unfollowed := true, recurses := true, apart := false }
def KeepsSaid : Prop := keepsRow.holds Try.pinned (OpenSpec.ofChange keepsSpec)

/-- ITS FALSE NEIGHBOUR: 'it returns false'. Refute it at one input. -/
def keepsWrong : ChangeSpec := { name := "keeps", fn := fun _ => fun
  | [d] => { results := [.lit (.bool false)], args := [d] }
  | _ => none }
def KeepsWrongFalsely : Prop := keepsRow.holds Try.pinned (OpenSpec.ofChange keepsWrong)

/-- 'calclaw.KeepsQuiet': WHATEVER THE INPUT: true; the input reads as it did. -/
def keepsQuietSpec : ChangeSpec := { name := "keepsQuiet", fn := fun _ => fun
  | [d] => { results := [.lit (.bool true)], args := [d] }
  | _ => none }
def keepsQuietRow : OpenClaim := { program := "qxb6500470a", sum := "8351d6334702373920a338e4b6fcfe09a6e287dfb802e279b55e10f39fef516d", func := "e2e/calclaw.KeepsQuiet", spec := "keepsQuiet", unfollowed := true, recurses := true, apart := false }
def KeepsQuietSaid : Prop := keepsQuietRow.holds Try.pinned (OpenSpec.ofChange keepsQuietSpec)

/-- ITS FALSE NEIGHBOUR: 'it returns false'. Refute it at one input. -/
def keepsQuietWrong : ChangeSpec := { name := "keepsQuiet", fn := fun _ => fun
  | [d] => { results := [.lit (.bool false)], args := [d] }
  | _ => none }
def KeepsQuietWrongFalsely : Prop := keepsQuietRow.holds Try.pinned (OpenSpec.ofChange keepsQuietWrong)

/-- 'calclaw.Refines': WHATEVER THE INPUT: true; the input reads as it did. -/
def refinesSpec : ChangeSpec := { name := "refines", fn := fun _ => fun
  | [d] => { results := [.lit (.bool true)], args := [d] }
  | _ => none }
def refinesRow : OpenClaim := { program := "qxb6500470a", sum := "8351d6334702373920a338e4b6fcfe09a6e287dfb802e279b55e10f39fef516d", func := "e2e/calclaw.Refines", spec := "refines", unfollowed := true, recurses := true, apart := false }
def RefinesSaid : Prop := refinesRow.holds Try.pinned (OpenSpec.ofChange refinesSpec)

/-- ITS FALSE NEIGHBOUR: 'it returns false'. Refute it at one input. -/
def refinesWrong : ChangeSpec := { name := "refines", fn := fun _ => fun
  | [d] => { results := [.lit (.bool false)], args := [d] }
  | _ => none }
def RefinesWrongFalsely : Prop := refinesRow.holds Try.pinned (OpenSpec.ofChange refinesWrong)

/-- 'calclaw.RefinesQuiet': WHATEVER THE INPUT: true; the input reads as it did. -/
def refinesQuietSpec : ChangeSpec := { name := "refinesQuiet", fn := fun _ => fun
  | [d] => { results := [.lit (.bool true)], args := [d] }
  | _ => none }
def refinesQuietRow : OpenClaim := { program := "qxb6500470a", sum := "8351d6334702373920a338e4b6fcfe09a6e287dfb802e279b55e10f39fef516d", func := "e2e/calclaw.RefinesQuiet", spec := "refinesQuiet", unfollowed := true, recurses := true, apart := false }
def RefinesQuietSaid : Prop := refinesQuietRow.holds Try.pinned (OpenSpec.ofChange refinesQuietSpec)

/-- ITS FALSE NEIGHBOUR: 'it returns false'. Refute it at one input. -/
def refinesQuietWrong : ChangeSpec := { name := "refinesQuiet", fn := fun _ => fun
  | [d] => { results := [.lit (.bool false)], args := [d] }
  | _ => none }
def RefinesQuietWrongFalsely : Prop := refinesQuietRow.holds Try.pinned (OpenSpec.ofChange refinesQuietWrong)

/-- 'calclaw.EdgePlus': WHATEVER THE INPUT: true; the input reads as it did. -/
def edgePlusSpec : ChangeSpec := { name := "edgePlus", fn := fun _ => fun
  | [] => { results := [.lit (.bool true)], args := [] }
  | _ => none }
def edgePlusRow : OpenClaim := { program := "qxb6500470a", sum := "8351d6334702373920a338e4b6fcfe09a6e287dfb802e279b55e10f39fef516d", func := "e2e/calclaw.EdgePlus", spec := "edgePlus", unfollowed := true, recurses := true, apart := false }
def EdgePlusSaid : Prop := edgePlusRow.holds Try.pinned (OpenSpec.ofChange edgePlusSpec)

/-- ITS FALSE NEIGHBOUR: 'it returns false'. Refute it at one input. -/
def edgePlusWrong : ChangeSpec := { name := "edgePlus", fn := fun _ => fun
  | [] => { results := [.lit (.bool false)], args := [] }
  | _ => none }
def EdgePlusWrongFalsely : Prop := edgePlusRow.holds Try.pinned (OpenSpec.ofChange edgePlusWrong)

/-- 'calclaw.EdgeLeast': WHATEVER THE INPUT: true; the input reads as it did. -/
def edgeLeastSpec : ChangeSpec := { name := "edgeLeast", fn := fun _ => fun
  | [] => { results := [.lit (.bool true)], args := [] }
  | _ => none }
def edgeLeastRow : OpenClaim := { program := "qxb6500470a", sum := "8351d6334702373920a338e4b6fcfe09a6e287dfb802e279b55e10f39fef516d", func := "e2e/calclaw.EdgeLeast", spec := "edgeLeast", unfollowed := true, recurses := true, apart := false }
def EdgeLeastSaid : Prop := edgeLeastRow.holds Try.pinned (OpenSpec.ofChange edgeLeastSpec)

/-- ITS FALSE NEIGHBOUR: 'it returns false'. Refute it at one input. -/
def edgeLeastWrong : ChangeSpec := { name := "edgeLeast", fn := fun _ => fun
  | [] => { results := [.lit (.bool false)], args := [] }
  | _ => none }
def EdgeLeastWrongFalsely : Prop := edgeLeastRow.holds Try.pinned (OpenSpec.ofChange edgeLeastWrong)

/-- 'calclaw.EdgeDivZero': WHATEVER THE INPUT: true; the input reads as it did. -/
def edgeDivZeroSpec : ChangeSpec := { name := "edgeDivZero", fn := fun _ => fun
  | [] => { results := [.lit (.bool true)], args := [] }
  | _ => none }
def edgeDivZeroRow : OpenClaim := { program := "qxb6500470a", sum := "8351d6334702373920a338e4b6fcfe09a6e287dfb802e279b55e10f39fef516d", func := "e2e/calclaw.EdgeDivZero", spec := "edgeDivZero", unfollowed := true, recurses := true, apart := false }
def EdgeDivZeroSaid : Prop := edgeDivZeroRow.holds Try.pinned (OpenSpec.ofChange edgeDivZeroSpec)

/-- ITS FALSE NEIGHBOUR: 'it returns false'. Refute it at one input. -/
def edgeDivZeroWrong : ChangeSpec := { name := "edgeDivZero", fn := fun _ => fun
  | [] => { results := [.lit (.bool false)], args := [] }
  | _ => none }
def EdgeDivZeroWrongFalsely : Prop := edgeDivZeroRow.holds Try.pinned (OpenSpec.ofChange edgeDivZeroWrong)

/-- 'calclaw.EdgeDivCuts': WHATEVER THE INPUT: true; the input reads as it did. -/
def edgeDivCutsSpec : ChangeSpec := { name := "edgeDivCuts", fn := fun _ => fun
  | [] => { results := [.lit (.bool true)], args := [] }
  | _ => none }
def edgeDivCutsRow : OpenClaim := { program := "qxb6500470a", sum := "8351d6334702373920a338e4b6fcfe09a6e287dfb802e279b55e10f39fef516d", func := "e2e/calclaw.EdgeDivCuts", spec := "edgeDivCuts", unfollowed := true, recurses := true, apart := false }
def EdgeDivCutsSaid : Prop := edgeDivCutsRow.holds Try.pinned (OpenSpec.ofChange edgeDivCutsSpec)

/-- ITS FALSE NEIGHBOUR: 'it returns false'. Refute it at one input. -/
def edgeDivCutsWrong : ChangeSpec := { name := "edgeDivCuts", fn := fun _ => fun
  | [] => { results := [.lit (.bool false)], args := [] }
  | _ => none }
def EdgeDivCutsWrongFalsely : Prop := edgeDivCutsRow.holds Try.pinned (OpenSpec.ofChange edgeDivCutsWrong)

/-- 'calclaw.EdgeDivLeast': WHATEVER THE INPUT: true; the input reads as it did. -/
def edgeDivLeastSpec : ChangeSpec := { name := "edgeDivLeast", fn := fun _ => fun
  | [] => { results := [.lit (.bool true)], args := [] }
  | _ => none }
def edgeDivLeastRow : OpenClaim := { program := "qxb6500470a", sum := "8351d6334702373920a338e4b6fcfe09a6e287dfb802e279b55e10f39fef516d", func := "e2e/calclaw.EdgeDivLeast", spec := "edgeDivLeast", unfollowed := true, recurses := true, apart := false }
def EdgeDivLeastSaid : Prop := edgeDivLeastRow.holds Try.pinned (OpenSpec.ofChange edgeDivLeastSpec)

/-- ITS FALSE NEIGHBOUR: 'it returns false'. Refute it at one input. -/
def edgeDivLeastWrong : ChangeSpec := { name := "edgeDivLeast", fn := fun _ => fun
  | [] => { results := [.lit (.bool false)], args := [] }
  | _ => none }
def EdgeDivLeastWrongFalsely : Prop := edgeDivLeastRow.holds Try.pinned (OpenSpec.ofChange edgeDivLeastWrong)

/-- 'calclaw.EdgeFalls': WHATEVER THE INPUT: true; the input reads as it did. -/
def edgeFallsSpec : ChangeSpec := { name := "edgeFalls", fn := fun _ => fun
  | [] => { results := [.lit (.bool true)], args := [] }
  | _ => none }
def edgeFallsRow : OpenClaim := { program := "qxb6500470a", sum := "8351d6334702373920a338e4b6fcfe09a6e287dfb802e279b55e10f39fef516d", func := "e2e/calclaw.EdgeFalls", spec := "edgeFalls", unfollowed := true, recurses := true, apart := false }
def EdgeFallsSaid : Prop := edgeFallsRow.holds Try.pinned (OpenSpec.ofChange edgeFallsSpec)

/-- ITS FALSE NEIGHBOUR: 'it returns false'. Refute it at one input. -/
def edgeFallsWrong : ChangeSpec := { name := "edgeFalls", fn := fun _ => fun
  | [] => { results := [.lit (.bool false)], args := [] }
  | _ => none }
def EdgeFallsWrongFalsely : Prop := edgeFallsRow.holds Try.pinned (OpenSpec.ofChange edgeFallsWrong)

/-- 'calclaw.EdgeFallsNot': WHATEVER THE INPUT: true; the input reads as it did. -/
def edgeFallsNotSpec : ChangeSpec := { name := "edgeFallsNot", fn := fun _ => fun
  | [] => { results := [.lit (.bool true)], args := [] }
  | _ => none }
def edgeFallsNotRow : OpenClaim := { program := "qxb6500470a", sum := "8351d6334702373920a338e4b6fcfe09a6e287dfb802e279b55e10f39fef516d", func := "e2e/calclaw.EdgeFallsNot", spec := "edgeFallsNot", unfollowed := true, recurses := true, apart := false }
def EdgeFallsNotSaid : Prop := edgeFallsNotRow.holds Try.pinned (OpenSpec.ofChange edgeFallsNotSpec)

/-- ITS FALSE NEIGHBOUR: 'it returns false'. Refute it at one input. -/
def edgeFallsNotWrong : ChangeSpec := { name := "edgeFallsNot", fn := fun _ => fun
  | [] => { results := [.lit (.bool false)], args := [] }
  | _ => none }
def EdgeFallsNotWrongFalsely : Prop := edgeFallsNotRow.holds Try.pinned (OpenSpec.ofChange edgeFallsNotWrong)

/-- 'calclaw.EdgeNilCell': WHATEVER THE INPUT: true; the input reads as it did. -/
def edgeNilCellSpec : ChangeSpec := { name := "edgeNilCell", fn := fun _ => fun
  | [] => { results := [.lit (.bool true)], args := [] }
  | _ => none }
def edgeNilCellRow : OpenClaim := { program := "qxb6500470a", sum := "8351d6334702373920a338e4b6fcfe09a6e287dfb802e279b55e10f39fef516d", func := "e2e/calclaw.EdgeNilCell", spec := "edgeNilCell", unfollowed := true, recurses := true, apart := false }
def EdgeNilCellSaid : Prop := edgeNilCellRow.holds Try.pinned (OpenSpec.ofChange edgeNilCellSpec)

/-- ITS FALSE NEIGHBOUR: 'it returns false'. Refute it at one input. -/
def edgeNilCellWrong : ChangeSpec := { name := "edgeNilCell", fn := fun _ => fun
  | [] => { results := [.lit (.bool false)], args := [] }
  | _ => none }
def EdgeNilCellWrongFalsely : Prop := edgeNilCellRow.holds Try.pinned (OpenSpec.ofChange edgeNilCellWrong)

/-- 'calclaw.EdgeUnbound': WHATEVER THE INPUT: true; the input reads as it did. -/
def edgeUnboundSpec : ChangeSpec := { name := "edgeUnbound", fn := fun _ => fun
  | [] => { results := [.lit (.bool true)], args := [] }
  | _ => none }
def edgeUnboundRow : OpenClaim := { program := "qxb6500470a", sum := "8351d6334702373920a338e4b6fcfe09a6e287dfb802e279b55e10f39fef516d", func := "e2e/calclaw.EdgeUnbound", spec := "edgeUnbound", unfollowed := true, recurses := true, apart := false }
def EdgeUnboundSaid : Prop := edgeUnboundRow.holds Try.pinned (OpenSpec.ofChange edgeUnboundSpec)

/-- ITS FALSE NEIGHBOUR: 'it returns false'. Refute it at one input. -/
def edgeUnboundWrong : ChangeSpec := { name := "edgeUnbound", fn := fun _ => fun
  | [] => { results := [.lit (.bool false)], args := [] }
  | _ => none }
def EdgeUnboundWrongFalsely : Prop := edgeUnboundRow.holds Try.pinned (OpenSpec.ofChange edgeUnboundWrong)

/-- 'calclaw.EdgeLong': WHATEVER THE INPUT: true; the input reads as it did. -/
def edgeLongSpec : ChangeSpec := { name := "edgeLong", fn := fun _ => fun
  | [] => { results := [.lit (.bool true)], args := [] }
  | _ => none }
def edgeLongRow : OpenClaim := { program := "qxb6500470a", sum := "8351d6334702373920a338e4b6fcfe09a6e287dfb802e279b55e10f39fef516d", func := "e2e/calclaw.EdgeLong", spec := "edgeLong", unfollowed := true, recurses := true, apart := false }
def EdgeLongSaid : Prop := edgeLongRow.holds Try.pinned (OpenSpec.ofChange edgeLongSpec)

/-- ITS FALSE NEIGHBOUR: 'it returns false'. Refute it at one input. -/
def edgeLongWrong : ChangeSpec := { name := "edgeLong", fn := fun _ => fun
  | [] => { results := [.lit (.bool false)], args := [] }
  | _ => none }
def EdgeLongWrongFalsely : Prop := edgeLongRow.holds Try.pinned (OpenSpec.ofChange edgeLongWrong)

/-- 'calclaw.EdgeBlank': WHATEVER THE INPUT: true; the input reads as it did. -/
def edgeBlankSpec : ChangeSpec := { name := "edgeBlank", fn := fun _ => fun
  | [] => { results := [.lit (.bool true)], args := [] }
  | _ => none }
def edgeBlankRow : OpenClaim := { program := "qxb6500470a", sum := "8351d6334702373920a338e4b6fcfe09a6e287dfb802e279b55e10f39fef516d", func := "e2e/calclaw.EdgeBlank", spec := "edgeBlank", unfollowed := true, recurses := true, apart := false }
def EdgeBlankSaid : Prop := edgeBlankRow.holds Try.pinned (OpenSpec.ofChange edgeBlankSpec)

/-- ITS FALSE NEIGHBOUR: 'it returns false'. Refute it at one input. -/
def edgeBlankWrong : ChangeSpec := { name := "edgeBlank", fn := fun _ => fun
  | [] => { results := [.lit (.bool false)], args := [] }
  | _ => none }
def EdgeBlankWrongFalsely : Prop := edgeBlankRow.holds Try.pinned (OpenSpec.ofChange edgeBlankWrong)

/-- 'calclaw.EdgeLit': WHATEVER THE INPUT: true; the input reads as it did. -/
def edgeLitSpec : ChangeSpec := { name := "edgeLit", fn := fun _ => fun
  | [] => { results := [.lit (.bool true)], args := [] }
  | _ => none }
def edgeLitRow : OpenClaim := { program := "qxb6500470a", sum := "8351d6334702373920a338e4b6fcfe09a6e287dfb802e279b55e10f39fef516d", func := "e2e/calclaw.EdgeLit", spec := "edgeLit", unfollowed := true, recurses := true, apart := false }
def EdgeLitSaid : Prop := edgeLitRow.holds Try.pinned (OpenSpec.ofChange edgeLitSpec)

/-- ITS FALSE NEIGHBOUR: 'it returns false'. Refute it at one input. -/
def edgeLitWrong : ChangeSpec := { name := "edgeLit", fn := fun _ => fun
  | [] => { results := [.lit (.bool false)], args := [] }
  | _ => none }
def EdgeLitWrongFalsely : Prop := edgeLitRow.holds Try.pinned (OpenSpec.ofChange edgeLitWrong)

/-- 'calclaw.EdgeUnlooked': WHATEVER THE INPUT: true; the input reads as it did. -/
def edgeUnlookedSpec : ChangeSpec := { name := "edgeUnlooked", fn := fun _ => fun
  | [] => { results := [.lit (.bool true)], args := [] }
  | _ => none }
def edgeUnlookedRow : OpenClaim := { program := "qxb6500470a", sum := "8351d6334702373920a338e4b6fcfe09a6e287dfb802e279b55e10f39fef516d", func := "e2e/calclaw.EdgeUnlooked", spec := "edgeUnlooked", unfollowed := true, recurses := true, apart := false }
def EdgeUnlookedSaid : Prop := edgeUnlookedRow.holds Try.pinned (OpenSpec.ofChange edgeUnlookedSpec)

/-- ITS FALSE NEIGHBOUR: 'it returns false'. Refute it at one input. -/
def edgeUnlookedWrong : ChangeSpec := { name := "edgeUnlooked", fn := fun _ => fun
  | [] => { results := [.lit (.bool false)], args := [] }
  | _ => none }
def EdgeUnlookedWrongFalsely : Prop := edgeUnlookedRow.holds Try.pinned (OpenSpec.ofChange edgeUnlookedWrong)

/-- 'calclaw.EdgeDefaultFirst': WHATEVER THE INPUT: true; the input reads as it did. -/
def edgeDefaultFirstSpec : ChangeSpec := { name := "edgeDefaultFirst", fn := fun _ => fun
  | [] => { results := [.lit (.bool true)], args := [] }
  | _ => none }
def edgeDefaultFirstRow : OpenClaim := { program := "qxb6500470a", sum := "8351d6334702373920a338e4b6fcfe09a6e287dfb802e279b55e10f39fef516d", func := "e2e/calclaw.EdgeDefaultFirst", spec := "edgeDefaultFirst", unfollowed := true, recurses := true, apart := false }
def EdgeDefaultFirstSaid : Prop := edgeDefaultFirstRow.holds Try.pinned (OpenSpec.ofChange edgeDefaultFirstSpec)

/-- ITS FALSE NEIGHBOUR: 'it returns false'. Refute it at one input. -/
def edgeDefaultFirstWrong : ChangeSpec := { name := "edgeDefaultFirst", fn := fun _ => fun
  | [] => { results := [.lit (.bool false)], args := [] }
  | _ => none }
def EdgeDefaultFirstWrongFalsely : Prop := edgeDefaultFirstRow.holds Try.pinned (OpenSpec.ofChange edgeDefaultFirstWrong)

/-- 'calclaw.EdgeNew': WHATEVER THE INPUT: true; the input reads as it did. -/
def edgeNewSpec : ChangeSpec := { name := "edgeNew", fn := fun _ => fun
  | [] => { results := [.lit (.bool true)], args := [] }
  | _ => none }
def edgeNewRow : OpenClaim := { program := "qxb6500470a", sum := "8351d6334702373920a338e4b6fcfe09a6e287dfb802e279b55e10f39fef516d", func := "e2e/calclaw.EdgeNew", spec := "edgeNew", unfollowed := true, recurses := true, apart := false }
def EdgeNewSaid : Prop := edgeNewRow.holds Try.pinned (OpenSpec.ofChange edgeNewSpec)

/-- ITS FALSE NEIGHBOUR: 'it returns false'. Refute it at one input. -/
def edgeNewWrong : ChangeSpec := { name := "edgeNew", fn := fun _ => fun
  | [] => { results := [.lit (.bool false)], args := [] }
  | _ => none }
def EdgeNewWrongFalsely : Prop := edgeNewRow.holds Try.pinned (OpenSpec.ofChange edgeNewWrong)

end Rows
end Go.Proofs.Qxb6500470a
