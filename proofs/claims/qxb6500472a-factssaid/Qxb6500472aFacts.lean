import Derived.Test.Qxb6500472aBox6
import Derived.Test.Qxb6500472aGrid
namespace Go.Proofs.Qxb6500472a
open Go.RowKit
attribute [local go_sem] run_store_float drewN_alloc drewN_setCell

set_option maxHeartbeats 1000000 in
theorem ground_any (w : World) :
    Calls Try.prog 10 #[] w fun e w' => ∃ px bx py bY, e = .returned (.agg #[ptr px, ptr py]) ∧ SerR w' px bx (List.replicate 8 lvl0) 0 ∧ SerR w' py bY (List.replicate 8 lvl0) 0 ∧ [px, bx, py, bY].Nodup ∧ (∀ z, z ∈ [px, bx, py, bY] → w.heap.size ≤ z) ∧ Below w.heap.size w w' := by
  go_enter Try.func10, Try.ntmps10
  go_wp2_with fail
  refine (serNew_any _).mono ?_
  rintro e w1 ⟨rfl, s1, b1⟩
  have r0 : Blk (w.alloc (.cells #[.pointer none, .pointer none] 27)) w.heap.size #[.pointer none, .pointer none] 27 := Blk.new rfl
  replace r0 := r0.below b1 r0.lt
  rw [World.size_alloc] at s1
  have l1 : w.heap.size + 1 + 1 < w1.heap.size := s1.head.lt
  go_wp2_with fail
  refine (serNew_any _).mono ?_
  rintro e w2 ⟨rfl, s2, b2⟩
  replace r0 := r0.below b2 r0.lt
  have s1' := s1.later b2
  obtain ⟨q0, q1, q2⟩ := r0.facts
  have bb : Below w.heap.size w w2 := (((Below.refl _ w).alloc (Nat.le_refl _) _).trans (b1.mono (by simp))).trans (b2.mono (by omega))
  go_wp2
  have u : Upd [w.heap.size] w2 ((w2.setCell ⟨w.heap.size, 0, none⟩ (ptr (w.heap.size + 1 + 1))).setCell ⟨w.heap.size, 1, none⟩ (ptr (w1.heap.size + 1))) := ((Upd.refl _ _).setCell (by simp) _).setCell (by simp) _
  refine ret_row Try.results10 rfl rfl ((r0.set _).set _) Try.underlying27 rfl (by kernel_rfl) ⟨w.heap.size + 1 + 1, w.heap.size + 1, w1.heap.size + 1, w1.heap.size, rfl, ?_, ?_, ?_, ?_, ?_⟩
  · exact s1'.upd u (by simp; omega) (by simp)
  · exact s2.upd u (by simp; omega) (by simp; omega)
  · simp only [List.nodup_cons, List.mem_cons, List.not_mem_nil, or_false, not_or]
    simp
    omega
  · intro z hz
    simp at hz
    omega
  · exact (bb.setCell (by simp) _).setCell (by simp) _
end Go.Proofs.Qxb6500472a
