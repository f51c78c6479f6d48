import Derived.Test.Qxb6500472aFloF
import Derived.Test.Qxb6500472aRows
import Derived.ProofKit
import Derived.OpenShut
import Derived.ShutString
import Derived.ChangeOld
import Derived.Below
import Derived.Deep.Slices
namespace Go.Proofs.Qxb6500472a
open Go.ChangeShapes Go.WideShapes Go.ChangeAt Go.RowKit
/-- Step i of the script that lies at ao; its numbers are ints of the machine. -/
def OpR (w : World) (ao : Option Addr) (i : Nat) : Prop := ∃ (b off : Nat) (K x y z : Int) (s t : ByteArray), ao = some ⟨b, off, none⟩ ∧ b < w.heap.size ∧ w.cell? ⟨b, off + i * 6, none⟩ = some (I K) ∧ w.cell? ⟨b, off + i * 6 + 1, none⟩ = some (I x) ∧ w.cell? ⟨b, off + i * 6 + 2, none⟩ = some (I y) ∧ w.cell? ⟨b, off + i * 6 + 3, none⟩ = some (I z) ∧ w.cell? ⟨b, off + i * 6 + 4, none⟩ = some (.string s) ∧ w.cell? ⟨b, off + i * 6 + 5, none⟩ = some (.string t) ∧ i64 x ∧ i64 y ∧ i64 z
theorem wf_i64 {n : Int} (h : (Lit.int .i64 n).wf = true) : i64 n := by
  simp only [Lit.wf, Bool.and_eq_true, decide_eq_true_eq] at h
  exact ⟨h.1, h.2⟩
end Go.Proofs.Qxb6500472a
