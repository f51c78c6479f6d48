import Derived.Test.Qxb6500469aWm10
import Derived.Test.Qxb6500469aRow2
namespace Go.Proofs.Qxb6500469a
open Go.RowKit

set_option maxHeartbeats 400000 in
theorem refines_any (w : World) (ao : Option Addr) (n cap : Nat) (hops : ∀ i, i < n → OpAt w ao i) (hn : n < 9223372036854775808) :
    Calls Try.prog 4 #[.slice ao n cap] w fun e w' => e = .returned (.bool true) ∧ Below w.heap.size w w' := by
  have up : Calls Try.prog 9 #[.slice ao n cap] w fun e w' => e = .returned (I (-1)) ∧ Below w.heap.size w w' := by
    go_enter Try.func9, Try.ntmps9
    go_wp2_with fail
    refine (walk_loud w ao n cap hops hn).mono ?_
    rintro e w1 ⟨k, rfl, b1⟩
    go_wp2
    go_ret
    exact ⟨rfl, b1⟩
  go_enter Try.func4, Try.ntmps4
  go_wp2_with fail
  refine up.mono ?_
  rintro e w1 ⟨rfl, b1⟩
  go_wp2
  go_ret
  exact ⟨rfl, b1⟩
set_option maxHeartbeats 400000 in
theorem refinesQuiet_any (w : World) (ao : Option Addr) (n cap : Nat) (hops : ∀ i, i < n → OpAt w ao i) (hn : n < 9223372036854775808) :
    Calls Try.prog 5 #[.slice ao n cap] w fun e w' => e = .returned (.bool true) ∧ Below w.heap.size w w' := by
  have up : Calls Try.prog 10 #[.slice ao n cap] w fun e w' => e = .returned (I (-1)) ∧ Below w.heap.size w w' := by
    go_enter Try.func10, Try.ntmps10
    go_wp2_with fail
    refine (walk_quiet w ao n cap hops hn).mono ?_
    rintro e w1 ⟨k, rfl, b1⟩
    go_wp2
    go_ret
    exact ⟨rfl, b1⟩
  go_enter Try.func5, Try.ntmps5
  go_wp2_with fail
  refine up.mono ?_
  rintro e w1 ⟨rfl, b1⟩
  go_wp2
  go_ret
  exact ⟨rfl, b1⟩
end Go.Proofs.Qxb6500469a
