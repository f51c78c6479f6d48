/-
  No cell of these rows narrows 'for every input' (looked for: loops, veiled, ifaces, maps, wideKeys, modest, calm, conditions, laid).
  DERIVED. THE GIVEN ROWS OF THIS SEAT. 22 by the template 'for every input the law returns true; each argument reads behind the call as it read before'; 0 by the template 'total and deterministic' (their statements: Qxb6500475aTotals.lean).
  GIVEN WITH THE SEED: the statements are not yours to turn. If you find one false, say at which input.
  Laid BY PROGRAM, IN A SANDBOX (cutbox-rows.mjs): the forced cells as the released guide's own fill.sh prints them over the translation ad24285e3a6792d7… (all of the seat's roots in one cut). By AI agents, Wed Nov 11 2026. No macro, syntax, notation, axiom, sorry.
-/
import Derived.Test.Qxb6500475aChecked
import GoSem.Claim
import GoSem.ClaimJoined
import GoSem.ClaimMapViews
import Derived.JoinedTies
import Derived.KernelRfl
namespace Go.Proofs.Qxb6500475a
/- THE CELL 'sum', in the pinned program and in every row, IS THE sha256 OF THE DUMP (.gsa) THAT Qxb6500475aProg.lean LOADS. Nothing in Lean hashes anything: it is a label: what it is worth is what the hold of that sum in a sandbox is worth. -/
noncomputable def Try.pinned : Pinned := { name := "qxb6500475a", sum := "ad24285e3a6792d76e223659365b71b7d9bb63bb0fd663342eb82e62de30ae41", checked := Try.checked }
namespace Rows
def none {H : Type} : Left H := { results := [], args := [] }

/-- 'scanlaw.Keeps': WHATEVER THE INPUT: true; the input reads as it did. -/
def keepsSpec : ChangeSpec := { name := "keeps", fn := fun _ => fun
  | [d] => { results := [.lit (.bool true)], args := [d] }
  | _ => none }
def keepsRow : OpenClaim := { program := "qxb6500475a", sum := "ad24285e3a6792d76e223659365b71b7d9bb63bb0fd663342eb82e62de30ae41", func := "e2e/scanlaw.Keeps", spec := "keeps", apart := false }
def KeepsSaid : Prop := keepsRow.holds Try.pinned (OpenSpec.ofChange keepsSpec)

/-- ITS FALSE NEIGHBOUR: 'it returns false'. Refute it at one input. -/
def keepsWrong : ChangeSpec := { name := "keeps", fn := fun _ => fun
  | [d] => { results := [.lit (.bool false)], args := [d] }
  | _ => none }
def KeepsWrongFalsely : Prop := keepsRow.holds Try.pinned (OpenSpec.ofChange keepsWrong)

/-- 'scanlaw.KeepsQuiet': WHATEVER THE INPUT: true; the input reads as it did. -/
def keepsQuietSpec : ChangeSpec := { name := "keepsQuiet", fn := fun _ => fun
  | [d] => { results := [.lit (.bool true)], args := [d] }
  | _ => none }
def keepsQuietRow : OpenClaim := { program := "qxb6500475a", sum := "ad24285e3a6792d76e223659365b71b7d9bb63bb0fd663342eb82e62de30ae41", func := "e2e/scanlaw.KeepsQuiet", spec := "keepsQuiet", apart := false }
def KeepsQuietSaid : Prop := keepsQuietRow.holds Try.pinned (OpenSpec.ofChange keepsQuietSpec)

/-- ITS FALSE NEIGHBOUR: 'it returns false'. Refute it at one input. -/
def keepsQuietWrong : ChangeSpec := { name := "keepsQuiet", fn := fun _ => fun
  | [d] => { results := [.lit (.bool false)], args := [d] }
  | _ => none }
def KeepsQuietWrongFalsely : Prop := keepsQuietRow.holds Try.pinned (OpenSpec.ofChange keepsQuietWrong)

/-- 'scanlaw.Refines': WHATEVER THE INPUT: true; the input reads as it did. -/
def refinesSpec : ChangeSpec := { name := "refines", fn := fun _ => fun
  | [d] => { results := [.lit (.bool true)], args := [d] }
  | _ => none }
def refinesRow : OpenClaim := { program := "qxb6500475a", sum := "ad24285e3a6792d76e223659365b71b7d9bb63bb0fd663342eb82e62de30ae41", func := "e2e/scanlaw.Refines", spec := "refines", apart := false }
def RefinesSaid : Prop := refinesRow.holds Try.pinned (OpenSpec.ofChange refinesSpec)

/-- ITS FALSE NEIGHBOUR: 'it returns false'. Refute it at one input. -/
def refinesWrong : ChangeSpec := { name := "refines", fn := fun _ => fun
  | [d] => { results := [.lit (.bool false)], args := [d] }
  | _ => none }
def RefinesWrongFalsely : Prop := refinesRow.holds Try.pinned (OpenSpec.ofChange refinesWrong)

/-- 'scanlaw.RefinesQuiet': WHATEVER THE INPUT: true; the input reads as it did. -/
def refinesQuietSpec : ChangeSpec := { name := "refinesQuiet", fn := fun _ => fun
  | [d] => { results := [.lit (.bool true)], args := [d] }
  | _ => none }
def refinesQuietRow : OpenClaim := { program := "qxb6500475a", sum := "ad24285e3a6792d76e223659365b71b7d9bb63bb0fd663342eb82e62de30ae41", func := "e2e/scanlaw.RefinesQuiet", spec := "refinesQuiet", apart := false }
def RefinesQuietSaid : Prop := refinesQuietRow.holds Try.pinned (OpenSpec.ofChange refinesQuietSpec)

/-- ITS FALSE NEIGHBOUR: 'it returns false'. Refute it at one input. -/
def refinesQuietWrong : ChangeSpec := { name := "refinesQuiet", fn := fun _ => fun
  | [d] => { results := [.lit (.bool false)], args := [d] }
  | _ => none }
def RefinesQuietWrongFalsely : Prop := refinesQuietRow.holds Try.pinned (OpenSpec.ofChange refinesQuietWrong)

/-- 'scanlaw.EdgeShutAtOnce': WHATEVER THE INPUT: true; the input reads as it did. -/
def edgeShutAtOnceSpec : ChangeSpec := { name := "edgeShutAtOnce", fn := fun _ => fun
  | [] => { results := [.lit (.bool true)], args := [] }
  | _ => none }
def edgeShutAtOnceRow : OpenClaim := { program := "qxb6500475a", sum := "ad24285e3a6792d76e223659365b71b7d9bb63bb0fd663342eb82e62de30ae41", func := "e2e/scanlaw.EdgeShutAtOnce", spec := "edgeShutAtOnce", apart := false }
def EdgeShutAtOnceSaid : Prop := edgeShutAtOnceRow.holds Try.pinned (OpenSpec.ofChange edgeShutAtOnceSpec)

/-- ITS FALSE NEIGHBOUR: 'it returns false'. Refute it at one input. -/
def edgeShutAtOnceWrong : ChangeSpec := { name := "edgeShutAtOnce", fn := fun _ => fun
  | [] => { results := [.lit (.bool false)], args := [] }
  | _ => none }
def EdgeShutAtOnceWrongFalsely : Prop := edgeShutAtOnceRow.holds Try.pinned (OpenSpec.ofChange edgeShutAtOnceWrong)

/-- 'scanlaw.EdgeDrain': WHATEVER THE INPUT: true; the input reads as it did. -/
def edgeDrainSpec : ChangeSpec := { name := "edgeDrain", fn := fun _ => fun
  | [] => { results := [.lit (.bool true)], args := [] }
  | _ => none }
def edgeDrainRow : OpenClaim := { program := "qxb6500475a", sum := "ad24285e3a6792d76e223659365b71b7d9bb63bb0fd663342eb82e62de30ae41", func := "e2e/scanlaw.EdgeDrain", spec := "edgeDrain", apart := false }
def EdgeDrainSaid : Prop := edgeDrainRow.holds Try.pinned (OpenSpec.ofChange edgeDrainSpec)

/-- ITS FALSE NEIGHBOUR: 'it returns false'. Refute it at one input. -/
def edgeDrainWrong : ChangeSpec := { name := "edgeDrain", fn := fun _ => fun
  | [] => { results := [.lit (.bool false)], args := [] }
  | _ => none }
def EdgeDrainWrongFalsely : Prop := edgeDrainRow.holds Try.pinned (OpenSpec.ofChange edgeDrainWrong)

/-- 'scanlaw.EdgeQueued': WHATEVER THE INPUT: true; the input reads as it did. -/
def edgeQueuedSpec : ChangeSpec := { name := "edgeQueued", fn := fun _ => fun
  | [] => { results := [.lit (.bool true)], args := [] }
  | _ => none }
def edgeQueuedRow : OpenClaim := { program := "qxb6500475a", sum := "ad24285e3a6792d76e223659365b71b7d9bb63bb0fd663342eb82e62de30ae41", func := "e2e/scanlaw.EdgeQueued", spec := "edgeQueued", apart := false }
def EdgeQueuedSaid : Prop := edgeQueuedRow.holds Try.pinned (OpenSpec.ofChange edgeQueuedSpec)

/-- ITS FALSE NEIGHBOUR: 'it returns false'. Refute it at one input. -/
def edgeQueuedWrong : ChangeSpec := { name := "edgeQueued", fn := fun _ => fun
  | [] => { results := [.lit (.bool false)], args := [] }
  | _ => none }
def EdgeQueuedWrongFalsely : Prop := edgeQueuedRow.holds Try.pinned (OpenSpec.ofChange edgeQueuedWrong)

/-- 'scanlaw.EdgeClosedZero': WHATEVER THE INPUT: true; the input reads as it did. -/
def edgeClosedZeroSpec : ChangeSpec := { name := "edgeClosedZero", fn := fun _ => fun
  | [] => { results := [.lit (.bool true)], args := [] }
  | _ => none }
def edgeClosedZeroRow : OpenClaim := { program := "qxb6500475a", sum := "ad24285e3a6792d76e223659365b71b7d9bb63bb0fd663342eb82e62de30ae41", func := "e2e/scanlaw.EdgeClosedZero", spec := "edgeClosedZero", apart := false }
def EdgeClosedZeroSaid : Prop := edgeClosedZeroRow.holds Try.pinned (OpenSpec.ofChange edgeClosedZeroSpec)

/-- ITS FALSE NEIGHBOUR: 'it returns false'. Refute it at one input. -/
def edgeClosedZeroWrong : ChangeSpec := { name := "edgeClosedZero", fn := fun _ => fun
  | [] => { results := [.lit (.bool false)], args := [] }
  | _ => none }
def EdgeClosedZeroWrongFalsely : Prop := edgeClosedZeroRow.holds Try.pinned (OpenSpec.ofChange edgeClosedZeroWrong)

/-- 'scanlaw.EdgeCopied': WHATEVER THE INPUT: true; the input reads as it did. -/
def edgeCopiedSpec : ChangeSpec := { name := "edgeCopied", fn := fun _ => fun
  | [] => { results := [.lit (.bool true)], args := [] }
  | _ => none }
def edgeCopiedRow : OpenClaim := { program := "qxb6500475a", sum := "ad24285e3a6792d76e223659365b71b7d9bb63bb0fd663342eb82e62de30ae41", func := "e2e/scanlaw.EdgeCopied", spec := "edgeCopied", apart := false }
def EdgeCopiedSaid : Prop := edgeCopiedRow.holds Try.pinned (OpenSpec.ofChange edgeCopiedSpec)

/-- ITS FALSE NEIGHBOUR: 'it returns false'. Refute it at one input. -/
def edgeCopiedWrong : ChangeSpec := { name := "edgeCopied", fn := fun _ => fun
  | [] => { results := [.lit (.bool false)], args := [] }
  | _ => none }
def EdgeCopiedWrongFalsely : Prop := edgeCopiedRow.holds Try.pinned (OpenSpec.ofChange edgeCopiedWrong)

/-- 'scanlaw.EdgeEvalTotal': WHATEVER THE INPUT: true; the input reads as it did. -/
def edgeEvalTotalSpec : ChangeSpec := { name := "edgeEvalTotal", fn := fun _ => fun
  | [] => { results := [.lit (.bool true)], args := [] }
  | _ => none }
def edgeEvalTotalRow : OpenClaim := { program := "qxb6500475a", sum := "ad24285e3a6792d76e223659365b71b7d9bb63bb0fd663342eb82e62de30ae41", func := "e2e/scanlaw.EdgeEvalTotal", spec := "edgeEvalTotal", apart := false }
def EdgeEvalTotalSaid : Prop := edgeEvalTotalRow.holds Try.pinned (OpenSpec.ofChange edgeEvalTotalSpec)

/-- ITS FALSE NEIGHBOUR: 'it returns false'. Refute it at one input. -/
def edgeEvalTotalWrong : ChangeSpec := { name := "edgeEvalTotal", fn := fun _ => fun
  | [] => { results := [.lit (.bool false)], args := [] }
  | _ => none }
def EdgeEvalTotalWrongFalsely : Prop := edgeEvalTotalRow.holds Try.pinned (OpenSpec.ofChange edgeEvalTotalWrong)

/-- 'scanlaw.EdgeCheckBites': WHATEVER THE INPUT: true; the input reads as it did. -/
def edgeCheckBitesSpec : ChangeSpec := { name := "edgeCheckBites", fn := fun _ => fun
  | [] => { results := [.lit (.bool true)], args := [] }
  | _ => none }
def edgeCheckBitesRow : OpenClaim := { program := "qxb6500475a", sum := "ad24285e3a6792d76e223659365b71b7d9bb63bb0fd663342eb82e62de30ae41", func := "e2e/scanlaw.EdgeCheckBites", spec := "edgeCheckBites", apart := false }
def EdgeCheckBitesSaid : Prop := edgeCheckBitesRow.holds Try.pinned (OpenSpec.ofChange edgeCheckBitesSpec)

/-- ITS FALSE NEIGHBOUR: 'it returns false'. Refute it at one input. -/
def edgeCheckBitesWrong : ChangeSpec := { name := "edgeCheckBites", fn := fun _ => fun
  | [] => { results := [.lit (.bool false)], args := [] }
  | _ => none }
def EdgeCheckBitesWrongFalsely : Prop := edgeCheckBitesRow.holds Try.pinned (OpenSpec.ofChange edgeCheckBitesWrong)

/-- 'scanlaw.EdgeOneWorker': WHATEVER THE INPUT: true; the input reads as it did. -/
def edgeOneWorkerSpec : ChangeSpec := { name := "edgeOneWorker", fn := fun _ => fun
  | [] => { results := [.lit (.bool true)], args := [] }
  | _ => none }
def edgeOneWorkerRow : OpenClaim := { program := "qxb6500475a", sum := "ad24285e3a6792d76e223659365b71b7d9bb63bb0fd663342eb82e62de30ae41", func := "e2e/scanlaw.EdgeOneWorker", spec := "edgeOneWorker", apart := false }
def EdgeOneWorkerSaid : Prop := edgeOneWorkerRow.holds Try.pinned (OpenSpec.ofChange edgeOneWorkerSpec)

/-- ITS FALSE NEIGHBOUR: 'it returns false'. Refute it at one input. -/
def edgeOneWorkerWrong : ChangeSpec := { name := "edgeOneWorker", fn := fun _ => fun
  | [] => { results := [.lit (.bool false)], args := [] }
  | _ => none }
def EdgeOneWorkerWrongFalsely : Prop := edgeOneWorkerRow.holds Try.pinned (OpenSpec.ofChange edgeOneWorkerWrong)

/-- 'scanlaw.EdgeMeeting': WHATEVER THE INPUT: true; the input reads as it did. -/
def edgeMeetingSpec : ChangeSpec := { name := "edgeMeeting", fn := fun _ => fun
  | [] => { results := [.lit (.bool true)], args := [] }
  | _ => none }
def edgeMeetingRow : OpenClaim := { program := "qxb6500475a", sum := "ad24285e3a6792d76e223659365b71b7d9bb63bb0fd663342eb82e62de30ae41", func := "e2e/scanlaw.EdgeMeeting", spec := "edgeMeeting", apart := false }
def EdgeMeetingSaid : Prop := edgeMeetingRow.holds Try.pinned (OpenSpec.ofChange edgeMeetingSpec)

/-- ITS FALSE NEIGHBOUR: 'it returns false'. Refute it at one input. -/
def edgeMeetingWrong : ChangeSpec := { name := "edgeMeeting", fn := fun _ => fun
  | [] => { results := [.lit (.bool false)], args := [] }
  | _ => none }
def EdgeMeetingWrongFalsely : Prop := edgeMeetingRow.holds Try.pinned (OpenSpec.ofChange edgeMeetingWrong)

/-- 'scanlaw.EdgeFullBuffer': WHATEVER THE INPUT: true; the input reads as it did. -/
def edgeFullBufferSpec : ChangeSpec := { name := "edgeFullBuffer", fn := fun _ => fun
  | [] => { results := [.lit (.bool true)], args := [] }
  | _ => none }
def edgeFullBufferRow : OpenClaim := { program := "qxb6500475a", sum := "ad24285e3a6792d76e223659365b71b7d9bb63bb0fd663342eb82e62de30ae41", func := "e2e/scanlaw.EdgeFullBuffer", spec := "edgeFullBuffer", apart := false }
def EdgeFullBufferSaid : Prop := edgeFullBufferRow.holds Try.pinned (OpenSpec.ofChange edgeFullBufferSpec)

/-- ITS FALSE NEIGHBOUR: 'it returns false'. Refute it at one input. -/
def edgeFullBufferWrong : ChangeSpec := { name := "edgeFullBuffer", fn := fun _ => fun
  | [] => { results := [.lit (.bool false)], args := [] }
  | _ => none }
def EdgeFullBufferWrongFalsely : Prop := edgeFullBufferRow.holds Try.pinned (OpenSpec.ofChange edgeFullBufferWrong)

/-- 'scanlaw.EdgeRoomPublishes': WHATEVER THE INPUT: true; the input reads as it did. -/
def edgeRoomPublishesSpec : ChangeSpec := { name := "edgeRoomPublishes", fn := fun _ => fun
  | [] => { results := [.lit (.bool true)], args := [] }
  | _ => none }
def edgeRoomPublishesRow : OpenClaim := { program := "qxb6500475a", sum := "ad24285e3a6792d76e223659365b71b7d9bb63bb0fd663342eb82e62de30ae41", func := "e2e/scanlaw.EdgeRoomPublishes", spec := "edgeRoomPublishes", apart := false }
def EdgeRoomPublishesSaid : Prop := edgeRoomPublishesRow.holds Try.pinned (OpenSpec.ofChange edgeRoomPublishesSpec)

/-- ITS FALSE NEIGHBOUR: 'it returns false'. Refute it at one input. -/
def edgeRoomPublishesWrong : ChangeSpec := { name := "edgeRoomPublishes", fn := fun _ => fun
  | [] => { results := [.lit (.bool false)], args := [] }
  | _ => none }
def EdgeRoomPublishesWrongFalsely : Prop := edgeRoomPublishesRow.holds Try.pinned (OpenSpec.ofChange edgeRoomPublishesWrong)

/-- 'scanlaw.EdgeEmptyTable': WHATEVER THE INPUT: true; the input reads as it did. -/
def edgeEmptyTableSpec : ChangeSpec := { name := "edgeEmptyTable", fn := fun _ => fun
  | [] => { results := [.lit (.bool true)], args := [] }
  | _ => none }
def edgeEmptyTableRow : OpenClaim := { program := "qxb6500475a", sum := "ad24285e3a6792d76e223659365b71b7d9bb63bb0fd663342eb82e62de30ae41", func := "e2e/scanlaw.EdgeEmptyTable", spec := "edgeEmptyTable", apart := false }
def EdgeEmptyTableSaid : Prop := edgeEmptyTableRow.holds Try.pinned (OpenSpec.ofChange edgeEmptyTableSpec)

/-- ITS FALSE NEIGHBOUR: 'it returns false'. Refute it at one input. -/
def edgeEmptyTableWrong : ChangeSpec := { name := "edgeEmptyTable", fn := fun _ => fun
  | [] => { results := [.lit (.bool false)], args := [] }
  | _ => none }
def EdgeEmptyTableWrongFalsely : Prop := edgeEmptyTableRow.holds Try.pinned (OpenSpec.ofChange edgeEmptyTableWrong)

/-- 'scanlaw.EdgeOneRow': WHATEVER THE INPUT: true; the input reads as it did. -/
def edgeOneRowSpec : ChangeSpec := { name := "edgeOneRow", fn := fun _ => fun
  | [] => { results := [.lit (.bool true)], args := [] }
  | _ => none }
def edgeOneRowRow : OpenClaim := { program := "qxb6500475a", sum := "ad24285e3a6792d76e223659365b71b7d9bb63bb0fd663342eb82e62de30ae41", func := "e2e/scanlaw.EdgeOneRow", spec := "edgeOneRow", apart := false }
def EdgeOneRowSaid : Prop := edgeOneRowRow.holds Try.pinned (OpenSpec.ofChange edgeOneRowSpec)

/-- ITS FALSE NEIGHBOUR: 'it returns false'. Refute it at one input. -/
def edgeOneRowWrong : ChangeSpec := { name := "edgeOneRow", fn := fun _ => fun
  | [] => { results := [.lit (.bool false)], args := [] }
  | _ => none }
def EdgeOneRowWrongFalsely : Prop := edgeOneRowRow.holds Try.pinned (OpenSpec.ofChange edgeOneRowWrong)

/-- 'scanlaw.EdgeIdsAtTheGo': WHATEVER THE INPUT: true; the input reads as it did. -/
def edgeIdsAtTheGoSpec : ChangeSpec := { name := "edgeIdsAtTheGo", fn := fun _ => fun
  | [] => { results := [.lit (.bool true)], args := [] }
  | _ => none }
def edgeIdsAtTheGoRow : OpenClaim := { program := "qxb6500475a", sum := "ad24285e3a6792d76e223659365b71b7d9bb63bb0fd663342eb82e62de30ae41", func := "e2e/scanlaw.EdgeIdsAtTheGo", spec := "edgeIdsAtTheGo", apart := false }
def EdgeIdsAtTheGoSaid : Prop := edgeIdsAtTheGoRow.holds Try.pinned (OpenSpec.ofChange edgeIdsAtTheGoSpec)

/-- ITS FALSE NEIGHBOUR: 'it returns false'. Refute it at one input. -/
def edgeIdsAtTheGoWrong : ChangeSpec := { name := "edgeIdsAtTheGo", fn := fun _ => fun
  | [] => { results := [.lit (.bool false)], args := [] }
  | _ => none }
def EdgeIdsAtTheGoWrongFalsely : Prop := edgeIdsAtTheGoRow.holds Try.pinned (OpenSpec.ofChange edgeIdsAtTheGoWrong)

/-- 'scanlaw.EdgeSevenRows': WHATEVER THE INPUT: true; the input reads as it did. -/
def edgeSevenRowsSpec : ChangeSpec := { name := "edgeSevenRows", fn := fun _ => fun
  | [] => { results := [.lit (.bool true)], args := [] }
  | _ => none }
def edgeSevenRowsRow : OpenClaim := { program := "qxb6500475a", sum := "ad24285e3a6792d76e223659365b71b7d9bb63bb0fd663342eb82e62de30ae41", func := "e2e/scanlaw.EdgeSevenRows", spec := "edgeSevenRows", apart := false }
def EdgeSevenRowsSaid : Prop := edgeSevenRowsRow.holds Try.pinned (OpenSpec.ofChange edgeSevenRowsSpec)

/-- ITS FALSE NEIGHBOUR: 'it returns false'. Refute it at one input. -/
def edgeSevenRowsWrong : ChangeSpec := { name := "edgeSevenRows", fn := fun _ => fun
  | [] => { results := [.lit (.bool false)], args := [] }
  | _ => none }
def EdgeSevenRowsWrongFalsely : Prop := edgeSevenRowsRow.holds Try.pinned (OpenSpec.ofChange edgeSevenRowsWrong)

/-- 'scanlaw.EdgeTenRows': WHATEVER THE INPUT: true; the input reads as it did. -/
def edgeTenRowsSpec : ChangeSpec := { name := "edgeTenRows", fn := fun _ => fun
  | [] => { results := [.lit (.bool true)], args := [] }
  | _ => none }
def edgeTenRowsRow : OpenClaim := { program := "qxb6500475a", sum := "ad24285e3a6792d76e223659365b71b7d9bb63bb0fd663342eb82e62de30ae41", func := "e2e/scanlaw.EdgeTenRows", spec := "edgeTenRows", apart := false }
def EdgeTenRowsSaid : Prop := edgeTenRowsRow.holds Try.pinned (OpenSpec.ofChange edgeTenRowsSpec)

/-- ITS FALSE NEIGHBOUR: 'it returns false'. Refute it at one input. -/
def edgeTenRowsWrong : ChangeSpec := { name := "edgeTenRows", fn := fun _ => fun
  | [] => { results := [.lit (.bool false)], args := [] }
  | _ => none }
def EdgeTenRowsWrongFalsely : Prop := edgeTenRowsRow.holds Try.pinned (OpenSpec.ofChange edgeTenRowsWrong)

/-- 'scanlaw.EdgeFullTable': WHATEVER THE INPUT: true; the input reads as it did. -/
def edgeFullTableSpec : ChangeSpec := { name := "edgeFullTable", fn := fun _ => fun
  | [] => { results := [.lit (.bool true)], args := [] }
  | _ => none }
def edgeFullTableRow : OpenClaim := { program := "qxb6500475a", sum := "ad24285e3a6792d76e223659365b71b7d9bb63bb0fd663342eb82e62de30ae41", func := "e2e/scanlaw.EdgeFullTable", spec := "edgeFullTable", apart := false }
def EdgeFullTableSaid : Prop := edgeFullTableRow.holds Try.pinned (OpenSpec.ofChange edgeFullTableSpec)

/-- ITS FALSE NEIGHBOUR: 'it returns false'. Refute it at one input. -/
def edgeFullTableWrong : ChangeSpec := { name := "edgeFullTable", fn := fun _ => fun
  | [] => { results := [.lit (.bool false)], args := [] }
  | _ => none }
def EdgeFullTableWrongFalsely : Prop := edgeFullTableRow.holds Try.pinned (OpenSpec.ofChange edgeFullTableWrong)

/-- 'scanlaw.EdgeBackToBack': WHATEVER THE INPUT: true; the input reads as it did. -/
def edgeBackToBackSpec : ChangeSpec := { name := "edgeBackToBack", fn := fun _ => fun
  | [] => { results := [.lit (.bool true)], args := [] }
  | _ => none }
def edgeBackToBackRow : OpenClaim := { program := "qxb6500475a", sum := "ad24285e3a6792d76e223659365b71b7d9bb63bb0fd663342eb82e62de30ae41", func := "e2e/scanlaw.EdgeBackToBack", spec := "edgeBackToBack", apart := false }
def EdgeBackToBackSaid : Prop := edgeBackToBackRow.holds Try.pinned (OpenSpec.ofChange edgeBackToBackSpec)

/-- ITS FALSE NEIGHBOUR: 'it returns false'. Refute it at one input. -/
def edgeBackToBackWrong : ChangeSpec := { name := "edgeBackToBack", fn := fun _ => fun
  | [] => { results := [.lit (.bool false)], args := [] }
  | _ => none }
def EdgeBackToBackWrongFalsely : Prop := edgeBackToBackRow.holds Try.pinned (OpenSpec.ofChange edgeBackToBackWrong)

end Rows
end Go.Proofs.Qxb6500475a
