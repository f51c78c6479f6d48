import Derived.Test.Qxb6500469aStr
import Derived.Test.Qxb6500469aRows
namespace Go.Proofs.Qxb6500469a
open Go.RowKit
/-- Step i of the script that lies at ao. -/
def OpAt (w : World) (ao : Option Addr) (i : Nat) : Prop := ∃ (b off : Nat) (K x y z : Int) (s t : ByteArray), ao = some ⟨b, off, none⟩ ∧ b < w.heap.size ∧ w.cell? ⟨b, off + i * 6, none⟩ = some (I K) ∧ w.cell? ⟨b, off + i * 6 + 1, none⟩ = some (I x) ∧ w.cell? ⟨b, off + i * 6 + 2, none⟩ = some (I y) ∧ w.cell? ⟨b, off + i * 6 + 3, none⟩ = some (I z) ∧ w.cell? ⟨b, off + i * 6 + 4, none⟩ = some (.string s) ∧ w.cell? ⟨b, off + i * 6 + 5, none⟩ = some (.string t)
theorem OpAt.below {w w' : World} {ao : Option Addr} {i : Nat} (h : OpAt w ao i) (b : Below w.heap.size w w') : OpAt w' ao i := by
  obtain ⟨k, off, K, x, y, z, s, t, e, hl, c0, c1, c2, c3, c4, c5⟩ := h
  have := b.size
  exact ⟨k, off, K, x, y, z, s, t, e, by omega, (b.cell (p := ⟨k, _, none⟩) hl).trans c0, (b.cell (p := ⟨k, _, none⟩) hl).trans c1, (b.cell (p := ⟨k, _, none⟩) hl).trans c2, (b.cell (p := ⟨k, _, none⟩) hl).trans c3, (b.cell (p := ⟨k, _, none⟩) hl).trans c4, (b.cell (p := ⟨k, _, none⟩) hl).trans c5⟩
end Go.Proofs.Qxb6500469a
