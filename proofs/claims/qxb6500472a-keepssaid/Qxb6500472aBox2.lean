import Derived.Test.Qxb6500472aBox1
namespace Go.Proofs.Qxb6500472a
open Go.RowKit
attribute [local go_sem] run_store_float drewN_alloc drewN_setCell
def lerpF (t lo hi : Nat) : Nat := add32 (mul32 (sub32 one32 t) lo) (mul32 t hi)
set_option maxHeartbeats 400000 in
theorem lerp_any (t lo hi : Nat) (w : World) :
    Calls Try.prog 32 #[D32 t, D32 lo, D32 hi] w fun e w' => ∃ r m, e = .returned (D32 r) ∧ can32 r = lerpF (can32 t) (can32 lo) (can32 hi) ∧ w' = w.drewN m := by
  obtain ⟨ra, na, ha, ca⟩ := arith_ex Try.prog .add 35 .f32 (by simp)
  obtain ⟨rs, ns, hs, cs⟩ := arith_ex Try.prog .sub 35 .f32 (by simp)
  obtain ⟨rm, nm, hm, cm⟩ := arith_ex Try.prog .mul 35 .f32 (by simp)
  go_enter Try.func32, Try.ntmps32
  go_wp2
  go_ret
  refine ⟨_, _, rfl, ?_, rfl⟩
  refine (ca.out _ _ _).trans ?_
  rw [cm.out, cm.out, cs.out]
  rfl
def clampF (v lo hi : Nat) : Nat := if lt32 v lo then lo else if gt32 v hi then hi else v
theorem clampF_can (v lo hi : Nat) : can32 (clampF v lo hi) = clampF (can32 v) (can32 lo) (can32 hi) := by
  unfold clampF; rw [lt32_can, gt32_can]; split; rfl; split <;> rfl
set_option maxHeartbeats 400000 in
theorem clamp_any (v lo hi : Nat) (w : World) :
    Calls Try.prog 33 #[D32 v, D32 lo, D32 hi] w fun e w' => e = .returned (D32 (clampF v lo hi)) ∧ w' = w := by
  unfold clampF lt32 gt32 ord32
  cases h1 : (FloatKind.f32.format.order v lo == some .lt) with
  | true =>
    simp only [if_true]
    go_enter Try.func33, Try.ntmps33
    go_wp2
    go_ret
    exact ⟨rfl, rfl⟩
  | false =>
    cases h2 : (FloatKind.f32.format.order v hi == some .gt) with
    | true =>
      simp only [if_true, Bool.false_eq_true, if_false]
      go_enter Try.func33, Try.ntmps33
      go_wp2
      go_ret
      exact ⟨rfl, rfl⟩
    | false =>
      simp only [Bool.false_eq_true, if_false]
      go_enter Try.func33, Try.ntmps33
      go_wp2
      go_ret
      exact ⟨rfl, rfl⟩

/-- A box in memory. -/
def boxCells (px py : Nat) (n : Nat) (x y : Ax) : Array Value :=
  #[ptr px, ptr py, I n, D32 x.lo, D32 x.hi, D32 x.w, .bool x.wide, D32 y.lo, D32 y.hi, D32 y.w, .bool y.wide]
abbrev BoxR (w : World) (b px py n : Nat) (x y : Ax) : Prop := Blk w b (boxCells px py n x y) 62
theorem BoxR.cells {w : World} {b px py n : Nat} {x y : Ax} (h : BoxR w b px py n x y) :
    w.cell? ⟨b, 0, none⟩ = some (ptr px) ∧ w.cell? ⟨b, 1, none⟩ = some (ptr py) ∧ w.cell? ⟨b, 2, none⟩ = some (I n) ∧ w.cell? ⟨b, 3, none⟩ = some (D32 x.lo) ∧ w.cell? ⟨b, 4, none⟩ = some (D32 x.hi) ∧ w.cell? ⟨b, 5, none⟩ = some (D32 x.w) ∧ w.cell? ⟨b, 6, none⟩ = some (.bool x.wide) ∧
    w.cell? ⟨b, 7, none⟩ = some (D32 y.lo) ∧ w.cell? ⟨b, 8, none⟩ = some (D32 y.hi) ∧ w.cell? ⟨b, 9, none⟩ = some (D32 y.w) ∧ w.cell? ⟨b, 10, none⟩ = some (.bool y.wide) ∧ (∀ i, w.frozen? ⟨b, i, none⟩ = false) :=
  ⟨h.cell 0, h.cell 1, h.cell 2, h.cell 3, h.cell 4, h.cell 5, h.cell 6, h.cell 7, h.cell 8, h.cell 9, h.cell 10, h.frozen⟩
def ax0 : Ax := ⟨0, 0, 0, false⟩

set_option maxHeartbeats 400000 in
theorem boxNew_any (px py : Nat) (w : World) :
    Calls Try.prog 11 #[ptr px, ptr py] w fun e w' => e = .returned (ptr w.heap.size) ∧ w' = w.alloc (.cells (boxCells px py 0 ax0 ax0) 62) := by
  go_enter Try.func11, Try.ntmps11
  go_wp2
  go_ret
  exact ⟨rfl, rfl⟩
end Go.Proofs.Qxb6500472a
