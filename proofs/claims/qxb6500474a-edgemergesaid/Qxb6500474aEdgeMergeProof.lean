import Derived.Test.Qxb6500474aRows
import Derived.WalkKit
import Derived.ProofKit
import Derived.OpenShut
import Derived.ShutString
import Derived.ChangeOld
import Derived.Below
import Derived.Test.Qxb6500474aWalks
namespace Go.Proofs.Qxb6500474a.edgeMerge
open Go.ChangeShapes Go.WideShapes Go.ChangeAt Go.RowKit
open Go.ChangeMaps (open_string shut_string)
set_option linter.unusedVariables false      -- a walk need not use every 'w<i>' (that an integer argument fits its kind)

theorem own : ownKnob Try.prog.godebug = none := by kernel_rfl

set_option maxHeartbeats 4000000 in
theorem walk (w : World) :
    Calls Try.prog 16 #[] w fun e w' => e = .returned (.bool true) ∧ Below w.heap.size w w' := by
  go_enter Try.func16, Try.ntmps16
  go_wp2_with fail
  refine (merge 2 (-3) 9 1 1 4 4 0 _ (by decide) (by decide) (by decide) (by decide) (by decide) (by decide) (by decide) (by decide)).mono ?_
  rintro e w1 ⟨rfl, hb1⟩
  rw [show mN 2 1 = 3 from rfl, show mL 2 (-3) 1 4 = (-3) from rfl, show mH 2 9 1 4 = 9 from rfl, show mE 2 1 1 0 = 1 from rfl]
  obtain ⟨hc1, hf1⟩ := bcell hb1
  have hz1 := hb1.size
  simp only [World.size_alloc] at hz1 hc1 hf1
  have g0 : w.heap.size < w1.heap.size := by omega
  have g1 : w.heap.size + 1 < w1.heap.size := by omega
  have g2 : w.heap.size + 1 + 1 < w1.heap.size := by omega
  go_wp2_with fail
  refine (merge 1 4 4 0 2 (-3) 9 1 _ (by decide) (by decide) (by decide) (by decide) (by decide) (by decide) (by decide) (by decide)).mono ?_
  rintro e w2 ⟨rfl, hb2⟩
  rw [show mN 1 2 = 3 from rfl, show mL 1 4 2 (-3) = (-3) from rfl, show mH 1 4 2 9 = 9 from rfl, show mE 1 0 2 1 = 1 from rfl]
  obtain ⟨hc2, hf2⟩ := bcell hb2
  have hz2 := hb2.size
  simp only [World.size_alloc] at hz2 hc2 hf2
  have g0 : w.heap.size < w2.heap.size := by omega
  have g1 : w.heap.size + 1 < w2.heap.size := by omega
  have g2 : w.heap.size + 1 + 1 < w2.heap.size := by omega
  have k1 : w1.heap.size < w2.heap.size := by omega
  go_wp2_with fail
  refine (merge 1 4 4 0 3 (-8) 2 2 _ (by decide) (by decide) (by decide) (by decide) (by decide) (by decide) (by decide) (by decide)).mono ?_
  rintro e w3 ⟨rfl, hb3⟩
  rw [show mN 1 3 = 4 from rfl, show mL 1 4 3 (-8) = (-8) from rfl, show mH 1 4 3 2 = 4 from rfl, show mE 1 0 3 2 = 2 from rfl]
  obtain ⟨hc3, hf3⟩ := bcell hb3
  have hz3 := hb3.size
  simp only [World.size_alloc] at hz3 hc3 hf3
  have g0 : w.heap.size < w3.heap.size := by omega
  have g1 : w.heap.size + 1 < w3.heap.size := by omega
  have g2 : w.heap.size + 1 + 1 < w3.heap.size := by omega
  have k1 : w1.heap.size < w3.heap.size := by omega
  have k2 : w2.heap.size < w3.heap.size := by omega
  go_wp2_with fail
  refine (merge 3 (-3) 9 1 3 (-8) 2 2 _ (by decide) (by decide) (by decide) (by decide) (by decide) (by decide) (by decide) (by decide)).mono ?_
  rintro e w4 ⟨rfl, hb4⟩
  rw [show mN 3 3 = 6 from rfl, show mL 3 (-3) 3 (-8) = (-8) from rfl, show mH 3 9 3 2 = 9 from rfl, show mE 3 1 3 2 = 3 from rfl]
  obtain ⟨hc4, hf4⟩ := bcell hb4
  have hz4 := hb4.size
  simp only [World.size_alloc] at hz4 hc4 hf4
  have g0 : w.heap.size < w4.heap.size := by omega
  have g1 : w.heap.size + 1 < w4.heap.size := by omega
  have g2 : w.heap.size + 1 + 1 < w4.heap.size := by omega
  have k1 : w1.heap.size < w4.heap.size := by omega
  have k2 : w2.heap.size < w4.heap.size := by omega
  have k3 : w3.heap.size < w4.heap.size := by omega
  go_wp2_with fail
  refine (merge 2 (-3) 9 1 4 (-8) 4 2 _ (by decide) (by decide) (by decide) (by decide) (by decide) (by decide) (by decide) (by decide)).mono ?_
  rintro e w5 ⟨rfl, hb5⟩
  rw [show mN 2 4 = 6 from rfl, show mL 2 (-3) 4 (-8) = (-8) from rfl, show mH 2 9 4 4 = 9 from rfl, show mE 2 1 4 2 = 3 from rfl]
  obtain ⟨hc5, hf5⟩ := bcell hb5
  have hz5 := hb5.size
  simp only [World.size_alloc] at hz5 hc5 hf5
  have g0 : w.heap.size < w5.heap.size := by omega
  have g1 : w.heap.size + 1 < w5.heap.size := by omega
  have g2 : w.heap.size + 1 + 1 < w5.heap.size := by omega
  have k1 : w1.heap.size < w5.heap.size := by omega
  have k2 : w2.heap.size < w5.heap.size := by omega
  have k3 : w3.heap.size < w5.heap.size := by omega
  have k4 : w4.heap.size < w5.heap.size := by omega
  go_wp2_with fail
  refine (merge 2 (-3) 9 1 0 0 0 0 _ (by decide) (by decide) (by decide) (by decide) (by decide) (by decide) (by decide) (by decide)).mono ?_
  rintro e w6 ⟨rfl, hb6⟩
  rw [show mN 2 0 = 2 from rfl, show mL 2 (-3) 0 0 = (-3) from rfl, show mH 2 9 0 0 = 9 from rfl, show mE 2 1 0 0 = 1 from rfl]
  obtain ⟨hc6, hf6⟩ := bcell hb6
  have hz6 := hb6.size
  simp only [World.size_alloc] at hz6 hc6 hf6
  have g0 : w.heap.size < w6.heap.size := by omega
  have g1 : w.heap.size + 1 < w6.heap.size := by omega
  have g2 : w.heap.size + 1 + 1 < w6.heap.size := by omega
  have k1 : w1.heap.size < w6.heap.size := by omega
  have k2 : w2.heap.size < w6.heap.size := by omega
  have k3 : w3.heap.size < w6.heap.size := by omega
  have k4 : w4.heap.size < w6.heap.size := by omega
  have k5 : w5.heap.size < w6.heap.size := by omega
  go_wp2_with fail
  refine (merge 0 0 0 0 2 (-3) 9 1 _ (by decide) (by decide) (by decide) (by decide) (by decide) (by decide) (by decide) (by decide)).mono ?_
  rintro e w7 ⟨rfl, hb7⟩
  rw [show mN 0 2 = 2 from rfl, show mL 0 0 2 (-3) = (-3) from rfl, show mH 0 0 2 9 = 9 from rfl, show mE 0 0 2 1 = 1 from rfl]
  obtain ⟨hc7, hf7⟩ := bcell hb7
  have hz7 := hb7.size
  simp only [World.size_alloc] at hz7 hc7 hf7
  have g0 : w.heap.size < w7.heap.size := by omega
  have g1 : w.heap.size + 1 < w7.heap.size := by omega
  have g2 : w.heap.size + 1 + 1 < w7.heap.size := by omega
  have k1 : w1.heap.size < w7.heap.size := by omega
  have k2 : w2.heap.size < w7.heap.size := by omega
  have k3 : w3.heap.size < w7.heap.size := by omega
  have k4 : w4.heap.size < w7.heap.size := by omega
  have k5 : w5.heap.size < w7.heap.size := by omega
  have k6 : w6.heap.size < w7.heap.size := by omega
  go_wp2_with fail
  go_ret
  refine ⟨rfl, ?_⟩
  have a0 := Below.refl w.heap.size w
  have a1 := (((a0.alloc (Nat.le_refl _) (.cells #[I 2, I (-3), I 9, I 1] 41)).alloc (by simp) (.cells #[I 1, I 4, I 4, I 0] 41)).alloc (by simp; omega) (.cells #[I 3, I (-8), I 2, I 2] 41)).trans (hb1.mono (by simp; omega))
  have a2 := (a1.alloc (by omega) _).trans (hb2.mono (by simp; omega))
  have a3 := (a2.alloc (by omega) _).trans (hb3.mono (by simp; omega))
  have a4 := (a3.alloc (by omega) _).trans (hb4.mono (by simp; omega))
  have a5 := (a4.alloc (by omega) _).trans (hb5.mono (by simp; omega))
  have a6 := (a5.alloc (by omega) _).trans (hb6.mono (by simp; omega))
  have a7 := (a6.alloc (by omega) _).trans (hb7.mono (by simp; omega))
  exact a7.alloc (by omega) _

/-! ### THE ROW's STEP: WRITTEN OUT: LEAVE IT -/
set_option maxRecDepth 100000 in
theorem lifted (os : Os) (started : os.Started) (H : Type) (enc : TypeId × Value → H) :
    ReturnsInHanded {} Try.checked os 16 .any (Rows.edgeMergeSpec.pre6 enc Try.prog Try.f16 Rows.edgeMergeRow.domain false) (Rows.edgeMergeSpec.post enc Try.prog Try.f16 false true false false) := by
  refine returnsInHanded_of_change (C := Try.checked) own started (by kernel_rfl) Try.func16
    (ChangeSpec.witness6 (enc := enc) (C := Try.checked) false ⟨#[], #[], []⟩ 8 (by kernel_rfl) (by kernel_rfl) (by kernel_rfl) (by kernel_rfl)) ?_
  intro W base args ds gs before hval0 hW hcnd _
  have hval : ∀ (j : Nat) t v, Try.f16.params[j]? = some t → args[j]? = some v → Value.okWide Try.prog W .any base t v := hval0
  have hW' := hW
  obtain ⟨p, q, hA0, hV, rfl, hfz, hnd⟩ := hW
  have hA : DataW.TrodAll enc Try.prog W 0 (fun _ => true) true Try.f16.params.toList args.toList ds p := hA0
  rw [Try.params16] at hA hval
  obtain ⟨rfl, rfl, rfl⟩ := trodAll_none hA
  obtain ⟨rfl, rfl⟩ := trodVars_none hV
  clear hA0 hval0
  simp only [List.append_nil] at hW'
  refine (walk  W).mono fun e W' ⟨he, hg⟩ => ?_
  subst he
  exact ⟨_, rfl, _, _, _, [], [], [], hW', trodAll_mk1 (shut_bool Try.underlying4 _), trodAll_mk0, rfl, hg.frame _, fun h => by cases h⟩

theorem over : Rows.edgeMergeRow.holds Try.pinned (OpenSpec.ofChange Rows.edgeMergeSpec) :=
  OpenClaim.holds_of_wide 16 Try.f16 rfl rfl rfl rfl rfl rfl rfl ⟨rfl, rfl, rfl, rfl, rfl⟩ rfl rfl rfl rfl rfl (by kernel_rfl) Try.func16 (by kernel_rfl)
    (of_decide_eq_true (by kernel_rfl)) (by unfold Func.isWrapper; first | (rw [if_pos (by decide +kernel)]; kernel_rfl) | (rw [if_neg (by decide +kernel)]; exact ⟨rfl, rfl⟩))
    (fun os started H enc _ => lifted os started H enc)

/-- ████ THE STATEMENT ████ -/
theorem proved : Rows.EdgeMergeSaid :=
  over
end Go.Proofs.Qxb6500474a.edgeMerge
