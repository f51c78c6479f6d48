import Derived.Test.Qxb6500469aWd7
namespace Go.Proofs.Qxb6500469a
open Go.RowKit

abbrev AnsV (e n m : Int) (s : List UInt8) : Value := .agg #[I e, I n, I m, S s]
abbrev OpV (K a b c : Int) (s t : ByteArray) : Value := .agg #[I K, I a, I b, I c, .string s, .string t]
def b2i (c : Bool) : Int := if c then 1 else 0
theorem B_any (c : Bool) (w : World) : Calls Try.prog 27 #[.bool c] w fun e w' => e = .returned (I (b2i c)) ∧ w' = w := by
  cases c with
  | true =>
    go_enter Try.func27, Try.ntmps27
    go_wp2
    go_ret
    exact ⟨rfl, rfl⟩
  | false =>
    go_enter Try.func27, Try.ntmps27
    go_wp2
    go_ret
    exact ⟨rfl, rfl⟩
/-- The pair of boards: who acts, and the other. -/
structure Pair (w : World) (xb bm bo wi oi : Nat) : Prop where
  sum : wi + oi = 1
  hm : w.cell? ⟨xb, wi, none⟩ = some (ptr bm)
  ho : w.cell? ⟨xb, oi, none⟩ = some (ptr bo)
  lx : xb < w.heap.size
  lm : bm < w.heap.size
theorem Upd.fresh {bs : List Nat} {w a c : World} (h : Upd bs w a) {y : Nat} (k : Upd [y] a c) (hy : w.heap.size ≤ y) : Upd bs w c :=
  ⟨k.os.trans h.os, k.tape.trans h.tape, k.output.trans h.output, Nat.le_trans h.size k.size, fun z hz hn => (k.block z (Nat.lt_of_lt_of_le hz h.size) (fun hm => by have := List.mem_singleton.1 hm; omega)).trans (h.block z hz hn)⟩
end Go.Proofs.Qxb6500469a
