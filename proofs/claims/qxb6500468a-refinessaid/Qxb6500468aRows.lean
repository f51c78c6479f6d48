/-
  No cell of these rows narrows 'for every input' (looked for: loops, veiled, ifaces, maps, wideKeys, modest, calm, conditions, laid).
  DERIVED. THE GIVEN ROWS OF THIS SEAT. 7 by the template 'for every input the law returns true; each argument reads behind the call as it read before'; 0 by the template 'total and deterministic' (their statements: Qxb6500468aTotals.lean).
  GIVEN WITH THE SEED: the statements are not yours to turn. If you find one false, say at which input.
  Laid BY PROGRAM, IN A SANDBOX (cutbox-rows.mjs): the forced cells as the released guide's own fill.sh prints them over the translation 9e44c12a19113bb6… (all of the seat's roots in one cut). By AI agents, Wed Nov 11 2026. No macro, syntax, notation, axiom, sorry.
-/
import Derived.Test.Qxb6500468aChecked
import GoSem.Claim
import GoSem.ClaimJoined
import GoSem.ClaimMapViews
import Derived.JoinedTies
import Derived.KernelRfl
namespace Go.Proofs.Qxb6500468a
/- THE CELL 'sum', in the pinned program and in every row, IS THE sha256 OF THE DUMP (.gsa) THAT Qxb6500468aProg.lean LOADS. Nothing in Lean hashes anything: it is a label: what it is worth is what the hold of that sum in a sandbox is worth. -/
noncomputable def Try.pinned : Pinned := { name := "qxb6500468a", sum := "9e44c12a19113bb6b59838116f03fca3ed09fbd597ab6457c8fef18a0b152623", checked := Try.checked }
namespace Rows
def none {H : Type} : Left H := { results := [], args := [] }

/-- 'packlaw.Codec': WHATEVER THE INPUT: true; the input reads as it did. -/
def codecSpec : ChangeSpec := { name := "codec", fn := fun _ => fun
  | [d] => { results := [.lit (.bool true)], args := [d] }
  | _ => none }
def codecRow : OpenClaim := { program := "qxb6500468a", sum := "9e44c12a19113bb6b59838116f03fca3ed09fbd597ab6457c8fef18a0b152623", func := "e2e/packlaw.Codec", spec := "codec", apart := false }
def CodecSaid : Prop := codecRow.holds Try.pinned (OpenSpec.ofChange codecSpec)

/-- ITS FALSE NEIGHBOUR: 'it returns false'. Refute it at one input. -/
def codecWrong : ChangeSpec := { name := "codec", fn := fun _ => fun
  | [d] => { results := [.lit (.bool false)], args := [d] }
  | _ => none }
def CodecWrongFalsely : Prop := codecRow.holds Try.pinned (OpenSpec.ofChange codecWrong)

/-- 'packlaw.Keeps': WHATEVER THE INPUT: true; the input reads as it did. -/
def keepsSpec : ChangeSpec := { name := "keeps", fn := fun _ => fun
  | [d] => { results := [.lit (.bool true)], args := [d] }
  | _ => none }
def keepsRow : OpenClaim := { program := "qxb6500468a", sum := "9e44c12a19113bb6b59838116f03fca3ed09fbd597ab6457c8fef18a0b152623", func := "e2e/packlaw.Keeps", spec := "keeps", apart := false }
def KeepsSaid : Prop := keepsRow.holds Try.pinned (OpenSpec.ofChange keepsSpec)

/-- ITS FALSE NEIGHBOUR: 'it returns false'. Refute it at one input. -/
def keepsWrong : ChangeSpec := { name := "keeps", fn := fun _ => fun
  | [d] => { results := [.lit (.bool false)], args := [d] }
  | _ => none }
def KeepsWrongFalsely : Prop := keepsRow.holds Try.pinned (OpenSpec.ofChange keepsWrong)

/-- 'packlaw.Refines': WHATEVER THE INPUT: true; the input reads as it did. -/
def refinesSpec : ChangeSpec := { name := "refines", fn := fun _ => fun
  | [d] => { results := [.lit (.bool true)], args := [d] }
  | _ => none }
def refinesRow : OpenClaim := { program := "qxb6500468a", sum := "9e44c12a19113bb6b59838116f03fca3ed09fbd597ab6457c8fef18a0b152623", func := "e2e/packlaw.Refines", spec := "refines", apart := false }
def RefinesSaid : Prop := refinesRow.holds Try.pinned (OpenSpec.ofChange refinesSpec)

/-- ITS FALSE NEIGHBOUR: 'it returns false'. Refute it at one input. -/
def refinesWrong : ChangeSpec := { name := "refines", fn := fun _ => fun
  | [d] => { results := [.lit (.bool false)], args := [d] }
  | _ => none }
def RefinesWrongFalsely : Prop := refinesRow.holds Try.pinned (OpenSpec.ofChange refinesWrong)

/-- 'packlaw.RefinesQuiet': WHATEVER THE INPUT: true; the input reads as it did. -/
def refinesQuietSpec : ChangeSpec := { name := "refinesQuiet", fn := fun _ => fun
  | [d] => { results := [.lit (.bool true)], args := [d] }
  | _ => none }
def refinesQuietRow : OpenClaim := { program := "qxb6500468a", sum := "9e44c12a19113bb6b59838116f03fca3ed09fbd597ab6457c8fef18a0b152623", func := "e2e/packlaw.RefinesQuiet", spec := "refinesQuiet", apart := false }
def RefinesQuietSaid : Prop := refinesQuietRow.holds Try.pinned (OpenSpec.ofChange refinesQuietSpec)

/-- ITS FALSE NEIGHBOUR: 'it returns false'. Refute it at one input. -/
def refinesQuietWrong : ChangeSpec := { name := "refinesQuiet", fn := fun _ => fun
  | [d] => { results := [.lit (.bool false)], args := [d] }
  | _ => none }
def RefinesQuietWrongFalsely : Prop := refinesQuietRow.holds Try.pinned (OpenSpec.ofChange refinesQuietWrong)

/-- 'packlaw.PackFacts': WHATEVER THE INPUT: true; the input reads as it did. -/
def packFactsSpec : ChangeSpec := { name := "packFacts", fn := fun _ => fun
  | [] => { results := [.lit (.bool true)], args := [] }
  | _ => none }
def packFactsRow : OpenClaim := { program := "qxb6500468a", sum := "9e44c12a19113bb6b59838116f03fca3ed09fbd597ab6457c8fef18a0b152623", func := "e2e/packlaw.PackFacts", spec := "packFacts", apart := false }
def PackFactsSaid : Prop := packFactsRow.holds Try.pinned (OpenSpec.ofChange packFactsSpec)

/-- ITS FALSE NEIGHBOUR: 'it returns false'. Refute it at one input. -/
def packFactsWrong : ChangeSpec := { name := "packFacts", fn := fun _ => fun
  | [] => { results := [.lit (.bool false)], args := [] }
  | _ => none }
def PackFactsWrongFalsely : Prop := packFactsRow.holds Try.pinned (OpenSpec.ofChange packFactsWrong)

/-- 'packlaw.TextFacts': WHATEVER THE INPUT: true; the input reads as it did. -/
def textFactsSpec : ChangeSpec := { name := "textFacts", fn := fun _ => fun
  | [] => { results := [.lit (.bool true)], args := [] }
  | _ => none }
def textFactsRow : OpenClaim := { program := "qxb6500468a", sum := "9e44c12a19113bb6b59838116f03fca3ed09fbd597ab6457c8fef18a0b152623", func := "e2e/packlaw.TextFacts", spec := "textFacts", apart := false }
def TextFactsSaid : Prop := textFactsRow.holds Try.pinned (OpenSpec.ofChange textFactsSpec)

/-- ITS FALSE NEIGHBOUR: 'it returns false'. Refute it at one input. -/
def textFactsWrong : ChangeSpec := { name := "textFacts", fn := fun _ => fun
  | [] => { results := [.lit (.bool false)], args := [] }
  | _ => none }
def TextFactsWrongFalsely : Prop := textFactsRow.holds Try.pinned (OpenSpec.ofChange textFactsWrong)

/-- 'packlaw.Facts': WHATEVER THE INPUT: true; the input reads as it did. -/
def factsSpec : ChangeSpec := { name := "facts", fn := fun _ => fun
  | [] => { results := [.lit (.bool true)], args := [] }
  | _ => none }
def factsRow : OpenClaim := { program := "qxb6500468a", sum := "9e44c12a19113bb6b59838116f03fca3ed09fbd597ab6457c8fef18a0b152623", func := "e2e/packlaw.Facts", spec := "facts", apart := false }
def FactsSaid : Prop := factsRow.holds Try.pinned (OpenSpec.ofChange factsSpec)

/-- ITS FALSE NEIGHBOUR: 'it returns false'. Refute it at one input. -/
def factsWrong : ChangeSpec := { name := "facts", fn := fun _ => fun
  | [] => { results := [.lit (.bool false)], args := [] }
  | _ => none }
def FactsWrongFalsely : Prop := factsRow.holds Try.pinned (OpenSpec.ofChange factsWrong)

end Rows
end Go.Proofs.Qxb6500468a
