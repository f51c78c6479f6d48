import Derived.Test.Qxb6500470aIt3
namespace Go.Proofs.Qxb6500470a
open Go.RowKit Go.Shelf
/-- How v's text is asked for, the function left open. -/
theorem showD (x : TV) (K : Nat → Prop) (w : World) (v : Value) (h : RV K w x v) (ks : ∀ k, K k → k < w.heap.size) (hlen : (text x).length ≤ 1000) :
    ∃ t u f r, v = .iface t u ∧ (∀ W, (method 260 t u "Show").run Try.prog W = .ok (f, r) W) ∧ (∀ args W, (callFunc f args).run Try.prog W = .ok (.enter f args) W) ∧ Calls Try.prog f #[r] w fun e w' => e = .returned (S (text x)) ∧ Below w.heap.size w w' := by
  obtain ⟨t, u, f, r, e, hf, hm, hc⟩ := showC x K w v h ks hlen
  refine ⟨t, u, f, r, e, hm, ?_, hc⟩
  rcases hf with rfl | rfl | rfl | rfl
  · exact enters_of Try.func142 (by kernel_rfl) rfl
  · exact enters_of Try.func150 (by kernel_rfl) rfl
  · exact enters_of Try.func138 (by kernel_rfl) rfl
  · exact enters_of Try.func146 (by kernel_rfl) rfl
set_option maxHeartbeats 1000000 in
theorem fits_try (x : TV) (K : Nat → Prop) (w : World) (v : Value) (h : RV K w x v) (ks : ∀ k, K k → k < w.heap.size) (hlen : (text x).length ≤ 1000) :
    Calls Try.prog 57 #[v] w fun e w' => e = .returned (.bool (decide ((text x).length ≤ 30))) ∧ Below w.heap.size w w' := by
  obtain ⟨t1, u1, f1, v1, rfl, hm1, hcf, hc1⟩ := showD x K w v h ks hlen
  have hsz : (str (text x)).size = (text x).length := str_size _
  have key : (.bool (decide (((text x).length : Int) ≤ 30)) : Value) = .bool (decide ((text x).length ≤ 30)) := by congr 1; exact decide_eq_decide.2 (by omega)
  go_enter Try.func57, Try.ntmps57
  go_wp2_with (refine hc1.mono ?_; rintro e w1 ⟨rfl, b1⟩)
  go_ret
  exact ⟨rfl, b1⟩
end Go.Proofs.Qxb6500470a
