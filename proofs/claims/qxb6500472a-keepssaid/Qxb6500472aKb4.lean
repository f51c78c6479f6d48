import Derived.Test.Qxb6500472aKb3
import Derived.Test.Qxb6500472aRow3
namespace Go.Proofs.Qxb6500472a
end Go.Proofs.Qxb6500472a
