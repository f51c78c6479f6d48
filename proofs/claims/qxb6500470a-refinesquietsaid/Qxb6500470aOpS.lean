import Derived.Test.Qxb6500470aStr
import Derived.Test.Qxb6500470aRows
namespace Go.Proofs.Qxb6500470a
open Go.RowKit
/-- Step i of the script that lies at ao. -/
def OpS (w : World) (ao : Option Addr) (i : Nat) : Prop := ∃ (b off : Nat) (K x y z : Int) (s : List UInt8) (t : ByteArray), ao = some ⟨b, off, none⟩ ∧ b < w.heap.size ∧ w.cell? ⟨b, off + i * 6, none⟩ = some (I K) ∧ w.cell? ⟨b, off + i * 6 + 1, none⟩ = some (I x) ∧ w.cell? ⟨b, off + i * 6 + 2, none⟩ = some (I y) ∧ w.cell? ⟨b, off + i * 6 + 3, none⟩ = some (I z) ∧ w.cell? ⟨b, off + i * 6 + 4, none⟩ = some (S s) ∧ w.cell? ⟨b, off + i * 6 + 5, none⟩ = some (.string t) ∧ s.length < 9223372036854775808
theorem str_of (s : ByteArray) : s = str s.data.toList := by
  apply ByteArray.ext
  simp [str]
end Go.Proofs.Qxb6500470a
