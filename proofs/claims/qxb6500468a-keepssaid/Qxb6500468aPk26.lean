import Derived.Test.Qxb6500468aPk24
import Derived.Test.Qxb6500468aPk25
import Derived.Test.Qxb6500468aRow2
namespace Go.Proofs.Qxb6500468a
open Go.RowKit

set_option maxHeartbeats 400000 in
theorem keeps_any (w : World) (ao : Option Addr) (n cap : Nat) (hops : ∀ i, i < n → OpAt w ao i) (hn : n < 9223372036854775808) :
    Calls Try.prog 4 #[.slice ao n cap] w fun e w' => e = .returned (.bool true) ∧ Below w.heap.size w w' := by
  go_enter Try.func4, Try.ntmps4
  go_wp2_with fail
  refine (keepsUpTo_any kept_any w ao n cap hops hn).mono ?_
  rintro e w1 ⟨rfl, b1⟩
  go_wp2
  go_ret
  exact ⟨rfl, b1⟩
end Go.Proofs.Qxb6500468a
