import Derived.Test.Qxb6500472aBox3
namespace Go.Proofs.Qxb6500472a
open Go.RowKit
attribute [local go_sem] run_store_float drewN_alloc drewN_setCell

set_option maxHeartbeats 2000000 in
theorem along_any (w : World) (b px py n : Nat) (x y : Ax) (h : BoxR w b px py (n + 1) x y) (i d : Int) (fi : fits32 (ratioF i d) = true) (hn : n < 8) :
    Calls Try.prog 14 #[ptr b, I i, I d] w fun e w' => ∃ u v m, e = .returned (.tuple #[D32 u, D32 v, I 0]) ∧ can32 u = lerpF (coordF i d) (can32 x.lo) (can32 x.hi) ∧ can32 v = lerpF (coordF i d) (can32 y.lo) (can32 y.hi) ∧ w' = w.drewN m := by
  obtain ⟨c0, c1, c2, c3, c4, c5, c6, c7, c8, c9, c10, fz⟩ := h.cells
  go_enter Try.func14, Try.ntmps14
  go_wp2_with fail
  refine (coord_any i d fi _).mono ?_
  rintro e w1 ⟨p, m1, rfl, cp, rfl⟩
  go_wp2_with fail
  go_region_held3 (fun W => W.cell? ⟨b, 3, none⟩ = some (D32 x.lo) ∧ W.cell? ⟨b, 4, none⟩ = some (D32 x.hi)) (go_keep) (first | (go_at_call 32; refine (lerp_any _ _ _ _).mono ?_; rintro e w2 ⟨u, m2, rfl, cu, rfl⟩))
  all_goals
    go_wp2_with fail
    go_region_held3 (fun W => W.cell? ⟨b, 7, none⟩ = some (D32 y.lo) ∧ W.cell? ⟨b, 8, none⟩ = some (D32 y.hi)) (go_keep) (first | (go_at_call 32; refine (lerp_any _ _ _ _).mono ?_; rintro e w2 ⟨v, m3, rfl, cv, rfl⟩))
    all_goals
      go_wp2
      go_ret3
      exact ⟨_, _, _, rfl, by rw [← cp]; exact cu, by rw [← cp]; exact cv, rfl⟩

set_option maxHeartbeats 2000000 in
theorem clamp2_any (w : World) (b px py n : Nat) (x y : Ax) (h : BoxR w b px py (n + 1) x y) (i j d : Int) (fi : fits32 (ratioF i d) = true) (fj : fits32 (ratioF j d) = true) (hn : n < 8) :
    Calls Try.prog 15 #[ptr b, I i, I j, I d] w fun e w' => ∃ u v m, e = .returned (.tuple #[D32 u, D32 v, I 0]) ∧ can32 u = clampF (coordF i d) (can32 x.lo) (can32 x.hi) ∧ can32 v = clampF (coordF j d) (can32 y.lo) (can32 y.hi) ∧ w' = w.drewN m := by
  obtain ⟨c0, c1, c2, c3, c4, c5, c6, c7, c8, c9, c10, fz⟩ := h.cells
  go_enter Try.func15, Try.ntmps15
  go_wp2_with fail
  refine (coord_any i d fi _).mono ?_
  rintro e w1 ⟨p, m1, rfl, cp, rfl⟩
  go_wp2_with fail
  refine (coord_any j d fj _).mono ?_
  rintro e w1 ⟨q, m2, rfl, cq, rfl⟩
  go_wp2_with fail
  go_region_held3 (fun W => W.cell? ⟨b, 3, none⟩ = some (D32 x.lo) ∧ W.cell? ⟨b, 4, none⟩ = some (D32 x.hi)) (go_keep) (first | (go_at_call 33; refine (clamp_any _ _ _ _).mono ?_; rintro e w2 ⟨rfl, rfl⟩))
  all_goals
    go_wp2_with fail
    go_region_held3 (fun W => W.cell? ⟨b, 7, none⟩ = some (D32 y.lo) ∧ W.cell? ⟨b, 8, none⟩ = some (D32 y.hi)) (go_keep) (first | (go_at_call 33; refine (clamp_any _ _ _ _).mono ?_; rintro e w2 ⟨rfl, rfl⟩))
    all_goals
      go_wp2
      go_ret3
      exact ⟨_, _, _, rfl, by rw [clampF_can, cp], by rw [clampF_can, cq], rfl⟩
end Go.Proofs.Qxb6500472a
