import Derived.Test.Qxb6500470aRows
import Derived.WalkKit
import Derived.ProofKit
import Derived.OpenShut
import Derived.ShutString
import Derived.ChangeOld
import Derived.Below
import Derived.Test.Qxb6500470aCal13
namespace Go.Proofs.Qxb6500470a.edgeDefaultFirst
open Go.ChangeShapes Go.WideShapes Go.ChangeAt Go.RowKit
open Go.ChangeMaps (open_string shut_string)
set_option linter.unusedVariables false      -- a walk need not use every 'w<i>' (that an integer argument fits its kind)

theorem own : ownKnob Try.prog.godebug = none := by kernel_rfl

set_option maxRecDepth 100000 in
set_option maxHeartbeats 2000000 in
theorem walk (w : World) :
    Calls Try.prog 20 #[] w fun e w' => e = .returned (.bool true) ∧ Below w.heap.size w w' := by
  go_enter Try.func20, Try.ntmps20
  go_wp2_with fail
  refine (says_any w [] [91] 1 0 [97, 99, 99, 61, 48, 32, 124, 32, 49, 32, 91, 93] (by decide) (by decide) (by decide +kernel)).mono ?_
  rintro r w1 ⟨rfl, b1⟩
  go_wp2_with fail
  refine (says_any w1 [35, 49] [59] 1 0 [97, 99, 99, 61, 48, 32, 124, 32, 48] (by decide) (by decide) (by decide +kernel)).mono ?_
  rintro r w2 ⟨rfl, b2⟩
  have b2 := b1.trans (b2.mono b1.size)
  go_wp2_with fail
  refine (says_any w2 [35, 49, 83, 35, 49] [33] 1 0 [97, 99, 99, 61, 48, 32, 124, 32, 48] (by decide) (by decide) (by decide +kernel)).mono ?_
  rintro r w3 ⟨rfl, b3⟩
  have b3 := b2.trans (b3.mono b2.size)
  go_wp2_with fail
  refine (says_any w3 [] [35, 49, 39, 97] 4 0 [97, 99, 99, 61, 48, 32, 124, 32, 50, 32, 49, 32, 49, 58, 97] (by decide) (by decide) (by decide +kernel)).mono ?_
  rintro r w4 ⟨rfl, b4⟩
  have b4 := b3.trans (b4.mono b3.size)
  go_wp2_with fail
  refine (noWord_any w4 63 (by decide +kernel)).mono ?_
  rintro r w5 ⟨rfl, b5⟩
  have b5 := b4.trans (b5.mono b4.size)
  go_wp2_with fail
  refine (noWord_any w5 126 (by decide +kernel)).mono ?_
  rintro r w6 ⟨rfl, b6⟩
  have b6 := b5.trans (b6.mono b5.size)
  go_wp2
  go_ret
  exact ⟨rfl, b6⟩

/-! ### THE ROW's STEP: WRITTEN OUT: LEAVE IT -/
set_option maxRecDepth 100000 in
theorem lifted (os : Os) (started : os.Started) (H : Type) (enc : TypeId × Value → H) :
    ReturnsInHanded {} Try.checked os 20 .any (Rows.edgeDefaultFirstSpec.pre6 enc Try.prog Try.f20 Rows.edgeDefaultFirstRow.domain false) (Rows.edgeDefaultFirstSpec.post enc Try.prog Try.f20 false true false false) := by
  refine returnsInHanded_of_change (C := Try.checked) own started (by kernel_rfl) Try.func20
    (ChangeSpec.witness6 (enc := enc) (C := Try.checked) false ⟨#[], #[], []⟩ 8 (by kernel_rfl) (by kernel_rfl) (by kernel_rfl) (by kernel_rfl)) ?_
  intro W base args ds gs before hval0 hW hcnd _
  have hval : ∀ (j : Nat) t v, Try.f20.params[j]? = some t → args[j]? = some v → Value.okWide Try.prog W .any base t v := hval0
  have hW' := hW
  obtain ⟨p, q, hA0, hV, rfl, hfz, hnd⟩ := hW
  have hA : DataW.TrodAll enc Try.prog W 0 (fun _ => true) true Try.f20.params.toList args.toList ds p := hA0
  rw [Try.params20] at hA hval
  obtain ⟨rfl, rfl, rfl⟩ := trodAll_none hA
  obtain ⟨rfl, rfl⟩ := trodVars_none hV
  clear hA0 hval0
  simp only [List.append_nil] at hW'
  refine (walk  W).mono fun e W' ⟨he, hg⟩ => ?_
  subst he
  exact ⟨_, rfl, _, _, _, [], [], [], hW', trodAll_mk1 (shut_bool Try.underlying4 _), trodAll_mk0, rfl, hg.frame _, fun h => by cases h⟩

theorem over : Rows.edgeDefaultFirstRow.holds Try.pinned (OpenSpec.ofChange Rows.edgeDefaultFirstSpec) :=
  OpenClaim.holds_of_wide 20 Try.f20 rfl rfl rfl rfl rfl rfl rfl ⟨rfl, rfl, rfl, rfl, rfl⟩ rfl rfl rfl rfl rfl (by kernel_rfl) Try.func20 (by kernel_rfl)
    (of_decide_eq_true (by kernel_rfl)) (by unfold Func.isWrapper; first | (rw [if_pos (by decide +kernel)]; kernel_rfl) | (rw [if_neg (by decide +kernel)]; exact ⟨rfl, rfl⟩))
    (fun os started H enc _ => lifted os started H enc)

/-- ████ THE STATEMENT ████ -/
theorem proved : Rows.EdgeDefaultFirstSaid :=
  over
end Go.Proofs.Qxb6500470a.edgeDefaultFirst
