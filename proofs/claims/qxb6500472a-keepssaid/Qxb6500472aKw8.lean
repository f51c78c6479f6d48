import Derived.Test.Qxb6500472aKw4
import Derived.Test.Qxb6500472aKw5
import Derived.Test.Qxb6500472aKw7
namespace Go.Proofs.Qxb6500472a
open Go.RowKit
attribute [local go_sem] run_store_float drewN_alloc drewN_setCell
theorem means_any (w : World) (b px bx py bY : Nat) (A B : List Nat) (h : BoxA w b px bx py bY A B) (K a j c E : Int) (ha : i64 a) (hj : i64 j) (hc : i64 c) (hL : K = 1 → E = 0 → (∃ i, i < A.length ∧ A.getD i 0 = ratioF a c) ∧ ∃ i, i < B.length ∧ B.getD i 0 = ratioF j c) (s t : ByteArray) :
    Calls Try.prog 24 #[ptr b, OpV K a j c s t, I E] w fun e w' => e = .returned (.bool true) ∧ Below w.heap.size w w' := by
  by_cases hA : A = []
  · exact means_empty w b px bx py bY A B h hA K a j c E s t
  by_cases k1 : K = 1
  · subst k1
    by_cases hE : E = 0
    · subst hE
      exact means_add0 w b px bx py bY A B h hA a j c ha hj hc (hL rfl rfl) s t
    · exact means_add1 w b px bx py bY A B h hA a j c E hE ha hj hc s t
  by_cases k5 : K = 5
  · subst k5
    exact means_clamp5 w b px bx py bY A B h hA a j c E ha hj hc s t
  by_cases k6 : K = 6
  · subst k6
    exact means_clamp6 w b px bx py bY A B h hA a j c E ha hj hc s t
  by_cases k7 : K = 7
  · subst k7
    by_cases j0 : j = 0
    · subst j0
      exact means_along0 w b px bx py bY A B h hA a c E ha hj s t
    · exact means_along1 w b px bx py bY A B h hA a j c E ha hj j0 s t
  by_cases k8 : K = 8
  · subst k8
    cases hX : ((ge32 (coordF a c) (axF A).lo && le32 (coordF a c) (axF A).hi) && (ge32 (coordF j c) (axF B).lo && le32 (coordF j c) (axF B).hi)) with
    | false => exact means_cell_out w b px bx py bY A B h hA a j c E ha hj hc hX s t
    | true =>
      cases hW : (wideB (sub32 (axF A).hi (axF A).lo) && wideB (sub32 (axF B).hi (axF B).lo)) with
      | false => exact means_cell_wide w b px bx py bY A B h hA a j c E ha hj hc hX hW s t
      | true => exact means_cell_ok w b px bx py bY A B h hA a j c E ha hj hc hX hW s t
  exact means_other w b px bx py bY A B h hA K a j c E k1 k5 k6 k7 k8 s t
end Go.Proofs.Qxb6500472a
