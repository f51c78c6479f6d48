import Derived.Test.Qxb6500469aWk11
import Derived.Test.Qxb6500469aRow2
namespace Go.Proofs.Qxb6500469a
end Go.Proofs.Qxb6500469a
