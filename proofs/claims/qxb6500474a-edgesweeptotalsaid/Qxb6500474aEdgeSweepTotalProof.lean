import Derived.Test.Qxb6500474aRows
import Derived.WalkKit
import Derived.ProofKit
import Derived.OpenShut
import Derived.ShutString
import Derived.ChangeOld
import Derived.Below
import Derived.Test.Qxb6500474aSweep
namespace Go.Proofs.Qxb6500474a.edgeSweepTotal
open Go.ChangeShapes Go.WideShapes Go.ChangeAt Go.RowKit
open Go.ChangeMaps (open_string shut_string)
set_option linter.unusedVariables false      -- a walk need not use every 'w<i>' (that an integer argument fits its kind)

theorem own : ownKnob Try.prog.godebug = none := by kernel_rfl

def fill (k : Nat) : Array Value := ((List.range 16).map fun j => if j < k then I ((j : Int) + 1) else I 0).toArray
theorem fill_set (k : Nat) (h : k < 16) : (fill k).setIfInBounds k (I ((k : Int) + 1)) = fill (k + 1) := by
  match k, h with
  | 0, _ | 1, _ | 2, _ | 3, _ | 4, _ | 5, _ | 6, _ | 7, _ | 8, _ | 9, _ | 10, _ | 11, _ | 12, _ | 13, _ | 14, _ | 15, _ => rfl
  | n + 16, h => exact absurd h (by omega)
theorem fill_size (k : Nat) : (fill k).size = 16 := by simp [fill]
theorem fill_get (k i : Nat) (h : i < 16) : ∃ v, (fill k)[i]? = some v := ⟨_, Array.getElem?_eq_getElem (by rw [fill_size]; exact h)⟩

set_option maxHeartbeats 4000000 in
theorem walk (w : World) :
    Calls Try.prog 15 #[] w fun e w' => e = .returned (.bool true) ∧ Below w.heap.size w w' := by
  go_enter Try.func15, Try.ntmps15
  go_wp2
  go_loopw [2] (fun i wr => ∃ k : Nat, k ≤ 16 ∧ i = I (k : Int) ∧ Below w.heap.size w wr ∧ Blk wr w.heap.size (fill k) 39)
    (fun i _ => (16 - intOf i).toNat)
  case atStart =>
    exact ⟨0, by omega, rfl, (Below.refl _ _).alloc (by omega) _, Blk.new rfl⟩
  case round =>
    obtain ⟨k, hk, rfl, hb, B0⟩ := hrel
    by_cases hlt : k < 16
    · obtain ⟨c0, f0, l0⟩ := B0.facts
      obtain ⟨v, hv⟩ := fill_get k k hlt
      have hv' : wr.cell? ⟨w.heap.size, k, none⟩ = some v := by rw [c0]; exact hv
      clear c0 hv
      go_wp2
      go_roundw
      case rel =>
        refine ⟨k + 1, by omega, by go_num, hb.setCell (by simp) _, ?_⟩
        rw [← fill_set k hlt]
        exact B0.set _
      case measure => simp [intOf]; omega
    · have e16 : k = 16 := by omega
      subst e16
      have B0' : Blk wr w.heap.size #[I 1, I 2, I 3, I 4, I 5, I 6, I 7, I 8, I 9, I 10, I 11, I 12, I 13, I 14, I 15, I 16] 39 := B0
      clear B0 hlt
      have hbb := hb
      clear hb
      have P0 := B0'
      clear B0'
      have l0 := P0.lt
      go_wp2_with (refine wpList_load_row rfl 39 _ rfl w.heap.size rfl 39 _ (0, 0) _ P0 Try.underlying39 rfl (by kernel_rfl) ?_)
      refine (sweep_n _ _ _ _ (by decide) (by decide) (by decide)).mono ?_
      rintro e w1 ⟨rfl, hb1⟩
      replace P0 := P0.below hb1 P0.lt
      replace hbb := hbb.trans (hb1.mono (by omega))
      have ll1 := P0.lt
      have P1 : Blk (w1.alloc (.cells #[I 0, I 0, I 0, I 0] 41)) w1.heap.size #[I 0, I 0, I 0, I 0] 41 := Blk.new rfl
      replace P0 := P0.old (.cells #[I 0, I 0, I 0, I 0] 41)
      replace hbb := hbb.alloc (by omega) (.cells #[I 0, I 0, I 0, I 0] 41)
      obtain ⟨cP1, fP1, mP1⟩ := P1.facts
      go_wp2_with (refine wpList_load_row rfl 39 _ rfl w.heap.size rfl 39 _ (0, 0) _ P0 Try.underlying39 rfl (by kernel_rfl) ?_)
      refine (sweep_n _ _ _ _ (by decide) (by decide) (by decide)).mono ?_
      rintro e w2 ⟨rfl, hb2⟩
      replace P0 := P0.below hb2 P0.lt
      replace P1 := P1.below hb2 P1.lt
      replace hbb := hbb.trans (hb2.mono (by simp; omega))
      clear cP1 fP1 mP1
      have ll2 := P0.lt
      have P2 : Blk (w2.alloc (.cells #[I 0, I 0, I 0, I 0] 41)) w2.heap.size #[I 0, I 0, I 0, I 0] 41 := Blk.new rfl
      replace P0 := P0.old (.cells #[I 0, I 0, I 0, I 0] 41)
      replace P1 := P1.old (.cells #[I 0, I 0, I 0, I 0] 41)
      replace hbb := hbb.alloc (by omega) (.cells #[I 0, I 0, I 0, I 0] 41)
      obtain ⟨cP1, fP1, mP1⟩ := P1.facts
      obtain ⟨cP2, fP2, mP2⟩ := P2.facts
      go_wp2_with (refine wpList_load_row rfl 39 _ rfl w.heap.size rfl 39 _ (0, 0) _ P0 Try.underlying39 rfl (by kernel_rfl) ?_)
      refine (sweep_big 17 16 0 _ (by decide) (by decide)).mono ?_
      rintro e w3 ⟨kk, k1, k2, rfl, hb3⟩
      have kk' : kk = 6 := by omega
      subst kk'
      clear k1 k2
      rw [show swN 0 16 6 = 6 from rfl, show swL 0 16 6 = 1 from rfl, show swH 0 16 6 = 16 from rfl, show swE 0 16 6 = 1 from rfl]
      replace P0 := P0.below hb3 P0.lt
      replace P1 := P1.below hb3 P1.lt
      replace P2 := P2.below hb3 P2.lt
      replace hbb := hbb.trans (hb3.mono (by simp; omega))
      clear cP1 fP1 mP1 cP2 fP2 mP2
      have ll3 := P0.lt
      have P3 : Blk (w3.alloc (.cells #[I 6, I 1, I 16, I 1] 41)) w3.heap.size #[I 6, I 1, I 16, I 1] 41 := Blk.new rfl
      replace P0 := P0.old (.cells #[I 6, I 1, I 16, I 1] 41)
      replace P1 := P1.old (.cells #[I 6, I 1, I 16, I 1] 41)
      replace P2 := P2.old (.cells #[I 6, I 1, I 16, I 1] 41)
      replace hbb := hbb.alloc (by omega) (.cells #[I 6, I 1, I 16, I 1] 41)
      obtain ⟨cP1, fP1, mP1⟩ := P1.facts
      obtain ⟨cP2, fP2, mP2⟩ := P2.facts
      obtain ⟨cP3, fP3, mP3⟩ := P3.facts
      go_wp2_with (refine wpList_load_row rfl 39 _ rfl w.heap.size rfl 39 _ (0, 0) _ P0 Try.underlying39 rfl (by kernel_rfl) ?_)
      refine (sweep_big 9223372036854775807 3 2 _ (by decide) (by decide)).mono ?_
      rintro e w4 ⟨kk, k1, k2, rfl, hb4⟩
      have kk' : kk = 5 := by omega
      subst kk'
      clear k1 k2
      rw [show swN 2 3 5 = 5 from rfl, show swL 2 3 5 = 3 from rfl, show swH 2 3 5 = 15 from rfl, show swE 2 3 5 = 1 from rfl]
      replace P0 := P0.below hb4 P0.lt
      replace P1 := P1.below hb4 P1.lt
      replace P2 := P2.below hb4 P2.lt
      replace P3 := P3.below hb4 P3.lt
      replace hbb := hbb.trans (hb4.mono (by simp; omega))
      clear cP1 fP1 mP1 cP2 fP2 mP2 cP3 fP3 mP3
      have ll4 := P0.lt
      have P4 : Blk (w4.alloc (.cells #[I 5, I 3, I 15, I 1] 41)) w4.heap.size #[I 5, I 3, I 15, I 1] 41 := Blk.new rfl
      replace P0 := P0.old (.cells #[I 5, I 3, I 15, I 1] 41)
      replace P1 := P1.old (.cells #[I 5, I 3, I 15, I 1] 41)
      replace P2 := P2.old (.cells #[I 5, I 3, I 15, I 1] 41)
      replace P3 := P3.old (.cells #[I 5, I 3, I 15, I 1] 41)
      replace hbb := hbb.alloc (by omega) (.cells #[I 5, I 3, I 15, I 1] 41)
      obtain ⟨cP1, fP1, mP1⟩ := P1.facts
      obtain ⟨cP2, fP2, mP2⟩ := P2.facts
      obtain ⟨cP3, fP3, mP3⟩ := P3.facts
      obtain ⟨cP4, fP4, mP4⟩ := P4.facts
      go_wp2_with (refine wpList_load_row rfl 39 _ rfl w.heap.size rfl 39 _ (0, 0) _ P0 Try.underlying39 rfl (by kernel_rfl) ?_)
      refine (sweep_id _ _ _ _ (by decide)).mono ?_
      rintro e w5 ⟨rfl, hb5⟩
      replace P0 := P0.below hb5 P0.lt
      replace P1 := P1.below hb5 P1.lt
      replace P2 := P2.below hb5 P2.lt
      replace P3 := P3.below hb5 P3.lt
      replace P4 := P4.below hb5 P4.lt
      replace hbb := hbb.trans (hb5.mono (by simp; omega))
      clear cP1 fP1 mP1 cP2 fP2 mP2 cP3 fP3 mP3 cP4 fP4 mP4
      have ll5 := P0.lt
      have P5 : Blk (w5.alloc (.cells #[I 0, I 0, I 0, I 0] 41)) w5.heap.size #[I 0, I 0, I 0, I 0] 41 := Blk.new rfl
      replace P0 := P0.old (.cells #[I 0, I 0, I 0, I 0] 41)
      replace P1 := P1.old (.cells #[I 0, I 0, I 0, I 0] 41)
      replace P2 := P2.old (.cells #[I 0, I 0, I 0, I 0] 41)
      replace P3 := P3.old (.cells #[I 0, I 0, I 0, I 0] 41)
      replace P4 := P4.old (.cells #[I 0, I 0, I 0, I 0] 41)
      replace hbb := hbb.alloc (by omega) (.cells #[I 0, I 0, I 0, I 0] 41)
      obtain ⟨cP1, fP1, mP1⟩ := P1.facts
      obtain ⟨cP2, fP2, mP2⟩ := P2.facts
      obtain ⟨cP3, fP3, mP3⟩ := P3.facts
      obtain ⟨cP4, fP4, mP4⟩ := P4.facts
      obtain ⟨cP5, fP5, mP5⟩ := P5.facts
      go_wp2_with (refine wpList_load_row rfl 39 _ rfl w.heap.size rfl 39 _ (0, 0) _ P0 Try.underlying39 rfl (by kernel_rfl) ?_)
      refine (sweep_id _ _ _ _ (by decide)).mono ?_
      rintro e w6 ⟨rfl, hb6⟩
      replace P0 := P0.below hb6 P0.lt
      replace P1 := P1.below hb6 P1.lt
      replace P2 := P2.below hb6 P2.lt
      replace P3 := P3.below hb6 P3.lt
      replace P4 := P4.below hb6 P4.lt
      replace P5 := P5.below hb6 P5.lt
      replace hbb := hbb.trans (hb6.mono (by simp; omega))
      clear cP1 fP1 mP1 cP2 fP2 mP2 cP3 fP3 mP3 cP4 fP4 mP4 cP5 fP5 mP5
      have ll6 := P0.lt
      have P6 : Blk (w6.alloc (.cells #[I 0, I 0, I 0, I 0] 41)) w6.heap.size #[I 0, I 0, I 0, I 0] 41 := Blk.new rfl
      replace P0 := P0.old (.cells #[I 0, I 0, I 0, I 0] 41)
      replace P1 := P1.old (.cells #[I 0, I 0, I 0, I 0] 41)
      replace P2 := P2.old (.cells #[I 0, I 0, I 0, I 0] 41)
      replace P3 := P3.old (.cells #[I 0, I 0, I 0, I 0] 41)
      replace P4 := P4.old (.cells #[I 0, I 0, I 0, I 0] 41)
      replace P5 := P5.old (.cells #[I 0, I 0, I 0, I 0] 41)
      replace hbb := hbb.alloc (by omega) (.cells #[I 0, I 0, I 0, I 0] 41)
      obtain ⟨cP1, fP1, mP1⟩ := P1.facts
      obtain ⟨cP2, fP2, mP2⟩ := P2.facts
      obtain ⟨cP3, fP3, mP3⟩ := P3.facts
      obtain ⟨cP4, fP4, mP4⟩ := P4.facts
      obtain ⟨cP5, fP5, mP5⟩ := P5.facts
      obtain ⟨cP6, fP6, mP6⟩ := P6.facts
      go_wp2_with (refine wpList_load_row rfl 39 _ rfl w.heap.size rfl 39 _ (0, 0) _ P0 Try.underlying39 rfl (by kernel_rfl) ?_)
      refine (sweep_id _ _ _ _ (by decide)).mono ?_
      rintro e w7 ⟨rfl, hb7⟩
      replace P0 := P0.below hb7 P0.lt
      replace P1 := P1.below hb7 P1.lt
      replace P2 := P2.below hb7 P2.lt
      replace P3 := P3.below hb7 P3.lt
      replace P4 := P4.below hb7 P4.lt
      replace P5 := P5.below hb7 P5.lt
      replace P6 := P6.below hb7 P6.lt
      replace hbb := hbb.trans (hb7.mono (by simp; omega))
      clear cP1 fP1 mP1 cP2 fP2 mP2 cP3 fP3 mP3 cP4 fP4 mP4 cP5 fP5 mP5 cP6 fP6 mP6
      have ll7 := P0.lt
      obtain ⟨cP1, fP1, mP1⟩ := P1.facts
      obtain ⟨cP2, fP2, mP2⟩ := P2.facts
      obtain ⟨cP3, fP3, mP3⟩ := P3.facts
      obtain ⟨cP4, fP4, mP4⟩ := P4.facts
      obtain ⟨cP5, fP5, mP5⟩ := P5.facts
      obtain ⟨cP6, fP6, mP6⟩ := P6.facts
      go_wp2
      go_ret
      exact ⟨rfl, (hbb.alloc (by omega) _).alloc (by simp; omega) _⟩

/-! ### THE ROW's STEP: WRITTEN OUT: LEAVE IT -/
set_option maxRecDepth 100000 in
theorem lifted (os : Os) (started : os.Started) (H : Type) (enc : TypeId × Value → H) :
    ReturnsInHanded {} Try.checked os 15 .any (Rows.edgeSweepTotalSpec.pre6 enc Try.prog Try.f15 Rows.edgeSweepTotalRow.domain false) (Rows.edgeSweepTotalSpec.post enc Try.prog Try.f15 false true false false) := by
  refine returnsInHanded_of_change (C := Try.checked) own started (by kernel_rfl) Try.func15
    (ChangeSpec.witness6 (enc := enc) (C := Try.checked) false ⟨#[], #[], []⟩ 8 (by kernel_rfl) (by kernel_rfl) (by kernel_rfl) (by kernel_rfl)) ?_
  intro W base args ds gs before hval0 hW hcnd _
  have hval : ∀ (j : Nat) t v, Try.f15.params[j]? = some t → args[j]? = some v → Value.okWide Try.prog W .any base t v := hval0
  have hW' := hW
  obtain ⟨p, q, hA0, hV, rfl, hfz, hnd⟩ := hW
  have hA : DataW.TrodAll enc Try.prog W 0 (fun _ => true) true Try.f15.params.toList args.toList ds p := hA0
  rw [Try.params15] at hA hval
  obtain ⟨rfl, rfl, rfl⟩ := trodAll_none hA
  obtain ⟨rfl, rfl⟩ := trodVars_none hV
  clear hA0 hval0
  simp only [List.append_nil] at hW'
  refine (walk  W).mono fun e W' ⟨he, hg⟩ => ?_
  subst he
  exact ⟨_, rfl, _, _, _, [], [], [], hW', trodAll_mk1 (shut_bool Try.underlying4 _), trodAll_mk0, rfl, hg.frame _, fun h => by cases h⟩

theorem over : Rows.edgeSweepTotalRow.holds Try.pinned (OpenSpec.ofChange Rows.edgeSweepTotalSpec) :=
  OpenClaim.holds_of_wide 15 Try.f15 rfl rfl rfl rfl rfl rfl rfl ⟨rfl, rfl, rfl, rfl, rfl⟩ rfl rfl rfl rfl rfl (by kernel_rfl) Try.func15 (by kernel_rfl)
    (of_decide_eq_true (by kernel_rfl)) (by unfold Func.isWrapper; first | (rw [if_pos (by decide +kernel)]; kernel_rfl) | (rw [if_neg (by decide +kernel)]; exact ⟨rfl, rfl⟩))
    (fun os started H enc _ => lifted os started H enc)

/-- ████ THE STATEMENT ████ -/
theorem proved : Rows.EdgeSweepTotalSaid :=
  over
end Go.Proofs.Qxb6500474a.edgeSweepTotal
