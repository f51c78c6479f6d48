import Derived.Test.Qxb6500473aKp4
import Derived.Test.Qxb6500473aKp6
namespace Go.Proofs.Qxb6500473a
open Go.RowKit

theorem holds_any : HoldsOk := by
  intro w p bl q A nu de h g m
  by_cases hA : A = []
  · subst hA
    exact holds_none w p bl q nu de h g
  · exact holds_some w p bl q A nu de h g m hA

set_option maxHeartbeats 400000 in
theorem keeps_any (w : World) (ao : Option Addr) (n cap : Nat) (hops : ∀ i, i < n → OpAt w ao i) (hn : n < 9223372036854775808) :
    Calls Try.prog 3 #[.slice ao n cap] w fun e w' => e = .returned (.bool true) ∧ Below w.heap.size w w' := by
  go_enter Try.func3, Try.ntmps3
  go_wp2_with fail
  refine (keepsUpTo_any holds_any w ao n cap hops hn).mono ?_
  rintro e w1 ⟨rfl, b1⟩
  go_wp2
  go_ret
  exact ⟨rfl, b1⟩
end Go.Proofs.Qxb6500473a
