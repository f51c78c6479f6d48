import Derived.Test.Qxb6500475aRows
import Derived.Test.Qxb6500475aBase
namespace Go.Proofs.Qxb6500475a
open Go.RowKit
set_option maxHeartbeats 1000000 in
theorem eval_neg (idx kind k n a b c : Int) (w : World) (h : n < 0) :
    Calls Try.prog 32 #[.agg #[I idx, I kind, I k, I n, I a, I b, I c]] w fun e w' => e = .returned (.agg #[I idx, I 0, I 0, I 0, I 0, I 0]) ∧ Below w.heap.size w w' := by
  go_enter Try.func32, Try.ntmps32
  go_wp2
  refine wp_loop_rounds 1 ?_
  rw [rounds_succ]
  go_wp2
  exact bodyPost_ret (v := .agg #[I idx, I 0, I 0, I 0, I 0, I 0]) (by simp [results, Try.results32, go_sem]) rfl ⟨rfl, by repeat (first | exact Below.refl _ _ | apply Below.drew | (refine Below.alloc ?_ (by simp <;> omega) _) | (refine Below.setCell ?_ (by simp <;> omega) _))⟩
set_option maxHeartbeats 1000000 in
theorem eval_zero (idx kind k a b c : Int) (w : World) :
    Calls Try.prog 32 #[.agg #[I idx, I kind, I k, I 0, I a, I b, I c]] w fun e w' => e = .returned (.agg #[I idx, I 0, I 0, I 0, I 0, I 0]) ∧ Below w.heap.size w w' := by
  go_enter Try.func32, Try.ntmps32
  go_wp2
  refine wp_loop_rounds 1 ?_
  rw [rounds_succ]
  go_wp2
  exact bodyPost_ret (v := .agg #[I idx, I 0, I 0, I 0, I 0, I 0]) (by simp [results, Try.results32, go_sem]) rfl ⟨rfl, by repeat (first | exact Below.refl _ _ | apply Below.drew | (refine Below.alloc ?_ (by simp <;> omega) _) | (refine Below.setCell ?_ (by simp <;> omega) _))⟩
set_option maxHeartbeats 1000000 in
theorem eval_99 (idx k a b c : Int) (w : World) :
    Calls Try.prog 32 #[.agg #[I idx, I 99, I k, I 2, I a, I b, I c]] w fun e w' => e = .returned (.agg #[I idx, I 2, I 0, I 0, I 0, I 0]) ∧ Below w.heap.size w w' := by
  go_enter Try.func32, Try.ntmps32
  go_wp2
  refine wp_loop_rounds 3 ?_
  rw [rounds_succ]
  go_wp2
  rw [rounds_succ]
  go_wp2
  rw [rounds_succ]
  go_wp2
  exact bodyPost_ret (v := .agg #[I idx, I 2, I 0, I 0, I 0, I 0]) (by simp [results, Try.results32, go_sem]) rfl ⟨rfl, by repeat (first | exact Below.refl _ _ | apply Below.drew | (refine Below.alloc ?_ (by simp <;> omega) _) | (refine Below.setCell ?_ (by simp <;> omega) _))⟩
set_option maxHeartbeats 1000000 in
theorem eval_one (idx k v b c : Int) (w : World) (h0 : 0 ≤ v) (h1 : v ≤ 1000) :
    Calls Try.prog 32 #[.agg #[I idx, I 1, I k, I 1, I v, I b, I c]] w fun e w' => e = .returned (.agg #[I idx, I 1, I v, I 0, I 0, I 0]) ∧ Below w.heap.size w w' := by
  go_enter Try.func32, Try.ntmps32
  go_wp2
  refine wp_loop_rounds 2 ?_
  rw [rounds_succ]
  go_wp2
  rw [rounds_succ]
  go_wp2
  exact bodyPost_ret (v := .agg #[I idx, I 1, I v, I 0, I 0, I 0]) (by simp [results, Try.results32, go_sem]) rfl ⟨rfl, by repeat (first | exact Below.refl _ _ | apply Below.drew | (refine Below.alloc ?_ (by simp <;> omega) _) | (refine Below.setCell ?_ (by simp <;> omega) _))⟩
set_option maxHeartbeats 1000000 in
theorem eval_nine (w : World) :
    Calls Try.prog 32 #[.agg #[I 4, I 1, I 0, I 9, I 1, I 2, I 3]] w fun e w' => e = .returned (.agg #[I 4, I 3, I 6, I 0, I 0, I 0]) ∧ Below w.heap.size w w' := by
  go_enter Try.func32, Try.ntmps32
  go_wp2
  refine wp_loop_rounds 4 ?_
  rw [rounds_succ]
  go_wp2
  rw [rounds_succ]
  go_wp2
  rw [rounds_succ]
  go_wp2
  rw [rounds_succ]
  go_wp2
  exact bodyPost_ret (v := .agg #[I 4, I 3, I 6, I 0, I 0, I 0]) (by simp [results, Try.results32, go_sem]) rfl ⟨rfl, by repeat (first | exact Below.refl _ _ | apply Below.drew | (refine Below.alloc ?_ (by simp <;> omega) _) | (refine Below.setCell ?_ (by simp <;> omega) _))⟩
end Go.Proofs.Qxb6500475a
