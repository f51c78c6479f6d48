import Derived.Test.Qxb6500475aRows
import Derived.WalkKit
import Derived.ProofKit
import Derived.OpenShut
import Derived.ShutString
import Derived.ChangeOld
import Derived.Below
import Derived.Test.Qxb6500475aEval
namespace Go.Proofs.Qxb6500475a.edgeEvalTotal
open Go.ChangeShapes Go.WideShapes Go.ChangeAt Go.RowKit
open Go.ChangeMaps (open_string shut_string)
set_option linter.unusedVariables false      -- a walk need not use every 'w<i>' (that an integer argument fits its kind)

theorem own : ownKnob Try.prog.godebug = none := by kernel_rfl

theorem eq6 (w : World) : (Op.equalIn 9999 29 (.agg #[I 6, I 0, I 0, I 0]) (.agg #[I 6, I 0, I 0, I 0])).run Try.prog w = .ok true w := by kernel_rfl
theorem eq0 (w : World) : (Op.equalIn 9999 29 (.agg #[I 0, I 0, I 0, I 0]) (.agg #[I 0, I 0, I 0, I 0])).run Try.prog w = .ok true w := by kernel_rfl
set_option maxRecDepth 100000 in
set_option maxHeartbeats 4000000 in
theorem walk (w : World) :
    Calls Try.prog 12 #[] w fun e w' => e = .returned (.bool true) ∧ Below w.heap.size w w' := by
  have q6 := eq6
  have q0 := eq0
  go_enter Try.func12, Try.ntmps12
  go_wp2_with fail
  have P0 : Blk (w.alloc (.cells #[I 1, I 2, I 3] 35)) w.heap.size #[I 1, I 2, I 3] 35 := Blk.new rfl
  have hbb := (Below.refl w.heap.size w).alloc (Nat.le_refl _) (.cells #[I 1, I 2, I 3] 35)
  refine (eval_nine _).mono ?_
  rintro e w1 ⟨rfl, hb1⟩
  replace P0 := P0.below hb1 P0.lt
  replace hbb := hbb.trans (hb1.mono (by simp <;> omega))
  have ll1 := P0.lt
  obtain ⟨cP0, fP0, mP0⟩ := P0.facts
  go_wp2_with fail
  clear cP0 fP0 mP0
  replace P0 := P0.old (.cells #[I 4, I 3, I 6, I 0, I 0, I 0] 31)
  have P1 : Blk (w1.alloc (.cells #[I 4, I 3, I 6, I 0, I 0, I 0] 31)) w1.heap.size #[I 4, I 3, I 6, I 0, I 0, I 0] 31 := Blk.new rfl
  replace hbb := hbb.alloc (by omega) (.cells #[I 4, I 3, I 6, I 0, I 0, I 0] 31)
  refine (eval_neg 5 1 0 (-1) 1 2 3 _ (by decide)).mono ?_
  rintro e w2 ⟨rfl, hb2⟩
  replace P0 := P0.below hb2 P0.lt
  replace P1 := P1.below hb2 P1.lt
  replace hbb := hbb.trans (hb2.mono (by simp <;> omega))
  have ll2 := P0.lt
  obtain ⟨cP0, fP0, mP0⟩ := P0.facts
  obtain ⟨cP1, fP1, mP1⟩ := P1.facts
  go_wp2_with fail
  clear cP0 fP0 mP0 cP1 fP1 mP1
  replace P0 := P0.old (.cells #[I 5, I 0, I 0, I 0, I 0, I 0] 31)
  replace P1 := P1.old (.cells #[I 5, I 0, I 0, I 0, I 0, I 0] 31)
  have P2 : Blk (w2.alloc (.cells #[I 5, I 0, I 0, I 0, I 0, I 0] 31)) w2.heap.size #[I 5, I 0, I 0, I 0, I 0, I 0] 31 := Blk.new rfl
  replace hbb := hbb.alloc (by omega) (.cells #[I 5, I 0, I 0, I 0, I 0, I 0] 31)
  refine (eval_zero 6 3 0 1 2 3 _).mono ?_
  rintro e w3 ⟨rfl, hb3⟩
  replace P0 := P0.below hb3 P0.lt
  replace P1 := P1.below hb3 P1.lt
  replace P2 := P2.below hb3 P2.lt
  replace hbb := hbb.trans (hb3.mono (by simp <;> omega))
  have ll3 := P0.lt
  obtain ⟨cP0, fP0, mP0⟩ := P0.facts
  obtain ⟨cP1, fP1, mP1⟩ := P1.facts
  obtain ⟨cP2, fP2, mP2⟩ := P2.facts
  go_wp2_with fail
  clear cP0 fP0 mP0 cP1 fP1 mP1 cP2 fP2 mP2
  replace P0 := P0.old (.cells #[I 6, I 0, I 0, I 0, I 0, I 0] 31)
  replace P1 := P1.old (.cells #[I 6, I 0, I 0, I 0, I 0, I 0] 31)
  replace P2 := P2.old (.cells #[I 6, I 0, I 0, I 0, I 0, I 0] 31)
  have P3 : Blk (w3.alloc (.cells #[I 6, I 0, I 0, I 0, I 0, I 0] 31)) w3.heap.size #[I 6, I 0, I 0, I 0, I 0, I 0] 31 := Blk.new rfl
  replace hbb := hbb.alloc (by omega) (.cells #[I 6, I 0, I 0, I 0, I 0, I 0] 31)
  refine (eval_99 7 0 1 2 3 _).mono ?_
  rintro e w4 ⟨rfl, hb4⟩
  replace P0 := P0.below hb4 P0.lt
  replace P1 := P1.below hb4 P1.lt
  replace P2 := P2.below hb4 P2.lt
  replace P3 := P3.below hb4 P3.lt
  replace hbb := hbb.trans (hb4.mono (by simp <;> omega))
  have ll4 := P0.lt
  obtain ⟨cP0, fP0, mP0⟩ := P0.facts
  obtain ⟨cP1, fP1, mP1⟩ := P1.facts
  obtain ⟨cP2, fP2, mP2⟩ := P2.facts
  obtain ⟨cP3, fP3, mP3⟩ := P3.facts
  go_wp2
  go_ret
  exact ⟨rfl, hbb.alloc (by omega) _⟩

/-! ### THE ROW's STEP: WRITTEN OUT: LEAVE IT -/
set_option maxRecDepth 100000 in
theorem lifted (os : Os) (started : os.Started) (H : Type) (enc : TypeId × Value → H) :
    ReturnsInHanded {} Try.checked os 12 .any (Rows.edgeEvalTotalSpec.pre6 enc Try.prog Try.f12 Rows.edgeEvalTotalRow.domain false) (Rows.edgeEvalTotalSpec.post enc Try.prog Try.f12 false true false false) := by
  refine returnsInHanded_of_change (C := Try.checked) own started (by kernel_rfl) Try.func12
    (ChangeSpec.witness6 (enc := enc) (C := Try.checked) false ⟨#[], #[], []⟩ 8 (by kernel_rfl) (by kernel_rfl) (by kernel_rfl) (by kernel_rfl)) ?_
  intro W base args ds gs before hval0 hW hcnd _
  have hval : ∀ (j : Nat) t v, Try.f12.params[j]? = some t → args[j]? = some v → Value.okWide Try.prog W .any base t v := hval0
  have hW' := hW
  obtain ⟨p, q, hA0, hV, rfl, hfz, hnd⟩ := hW
  have hA : DataW.TrodAll enc Try.prog W 0 (fun _ => true) true Try.f12.params.toList args.toList ds p := hA0
  rw [Try.params12] at hA hval
  obtain ⟨rfl, rfl, rfl⟩ := trodAll_none hA
  obtain ⟨rfl, rfl⟩ := trodVars_none hV
  clear hA0 hval0
  simp only [List.append_nil] at hW'
  refine (walk  W).mono fun e W' ⟨he, hg⟩ => ?_
  subst he
  exact ⟨_, rfl, _, _, _, [], [], [], hW', trodAll_mk1 (shut_bool Try.underlying4 _), trodAll_mk0, rfl, hg.frame _, fun h => by cases h⟩

theorem over : Rows.edgeEvalTotalRow.holds Try.pinned (OpenSpec.ofChange Rows.edgeEvalTotalSpec) :=
  OpenClaim.holds_of_wide 12 Try.f12 rfl rfl rfl rfl rfl rfl rfl ⟨rfl, rfl, rfl, rfl, rfl⟩ rfl rfl rfl rfl rfl (by kernel_rfl) Try.func12 (by kernel_rfl)
    (of_decide_eq_true (by kernel_rfl)) (by unfold Func.isWrapper; first | (rw [if_pos (by decide +kernel)]; kernel_rfl) | (rw [if_neg (by decide +kernel)]; exact ⟨rfl, rfl⟩))
    (fun os started H enc _ => lifted os started H enc)

/-- ████ THE STATEMENT ████ -/
theorem proved : Rows.EdgeEvalTotalSaid :=
  over
end Go.Proofs.Qxb6500475a.edgeEvalTotal
