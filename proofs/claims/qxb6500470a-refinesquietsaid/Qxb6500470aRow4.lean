import Derived.Test.Qxb6500470aOpS
import Derived.ProofKit
import Derived.OpenShut
import Derived.ShutString
import Derived.ChangeOld
import Derived.Below
import Derived.Deep.Slices
namespace Go.Proofs.Qxb6500470a
open Go.ChangeShapes Go.WideShapes Go.ChangeAt Go.RowKit
theorem six {α : Type} {l : List α} (h : l.length = 6) : ∃ c0 c1 c2 c3 c4 c5, l = [c0, c1, c2, c3, c4, c5] := by
  match l, h with
  | [c0, c1, c2, c3, c4, c5], _ => exact ⟨c0, c1, c2, c3, c4, c5, rfl⟩
theorem cellsOp : Try.prog.cellsOf 50 = 6 := by kernel_rfl
theorem cellsInt : Try.prog.cellsOf 3 = 1 := by kernel_rfl
theorem cellsStr : Try.prog.cellsOf 9 = 1 := by kernel_rfl
section
variable {H : Type} {enc : TypeId × Value → H} {W : World} {sp : Nat → Bool} {held : Bool}
/-- A step as the claim reads it. -/
theorem op_open {fuel : Nat} {cs : List Value} {x : DataW H × List MemPlace} (h : DataW.trod enc Try.prog W 0 sp held fuel 50 cs = some x) :
    ∃ (K a b c : Int) (s t : ByteArray), cs = [I K, I a, I b, I c, .string s, .string t] ∧ s.size ≤ maxLen := by
  obtain ⟨xs, n, -, -, hl, hlen, hf⟩ := DataW.trod_struct Try.underlying50 h
  rw [cellsOp] at hl
  obtain ⟨c0, c1, c2, c3, c4, c5, rfl⟩ := six hl
  obtain ⟨y0, y1, y2, y3, y4, y5, rfl⟩ := six (hlen.trans rfl)
  have h0 : DataW.trod enc Try.prog W 0 sp held n 3 (([c0, c1, c2, c3, c4, c5].drop 0).take (Try.prog.cellsOf 3)) = some y0 := hf 0 _ rfl
  have h1 : DataW.trod enc Try.prog W 0 sp held n 3 (([c0, c1, c2, c3, c4, c5].drop 1).take (Try.prog.cellsOf 3)) = some y1 := hf 1 _ rfl
  have h2 : DataW.trod enc Try.prog W 0 sp held n 3 (([c0, c1, c2, c3, c4, c5].drop 2).take (Try.prog.cellsOf 3)) = some y2 := hf 2 _ rfl
  have h3 : DataW.trod enc Try.prog W 0 sp held n 3 (([c0, c1, c2, c3, c4, c5].drop 3).take (Try.prog.cellsOf 3)) = some y3 := hf 3 _ rfl
  have h4 : DataW.trod enc Try.prog W 0 sp held n 9 (([c0, c1, c2, c3, c4, c5].drop 4).take (Try.prog.cellsOf 9)) = some y4 := hf 4 _ rfl
  have h5 : DataW.trod enc Try.prog W 0 sp held n 9 (([c0, c1, c2, c3, c4, c5].drop 5).take (Try.prog.cellsOf 9)) = some y5 := hf 5 _ rfl
  rw [cellsInt] at h0 h1 h2 h3
  rw [cellsStr] at h4 h5
  obtain ⟨n0, e0, -, -⟩ := DataW.trod_int Try.underlying3 h0
  obtain ⟨n1, e1, -, -⟩ := DataW.trod_int Try.underlying3 h1
  obtain ⟨n2, e2, -, -⟩ := DataW.trod_int Try.underlying3 h2
  obtain ⟨n3, e3, -, -⟩ := DataW.trod_int Try.underlying3 h3
  obtain ⟨s4, e4, -, z4⟩ := DataW.trod_string Try.underlying9 h4
  obtain ⟨s5, e5, -, -⟩ := DataW.trod_string Try.underlying9 h5
  have f0 : c0 = I n0 := by simpa using e0
  have f1 : c1 = I n1 := by simpa using e1
  have f2 : c2 = I n2 := by simpa using e2
  have f3 : c3 = I n3 := by simpa using e3
  have f4 : c4 = .string s4 := by simpa using e4
  have f5 : c5 = .string s5 := by simpa using e5
  exact ⟨n0, n1, n2, n3, s4, s5, by rw [f0, f1, f2, f3, f4, f5], z4⟩
/-- The script as the claim reads it. -/
theorem ops_open {fuel : Nat} {ao : Option Addr} {len cap : Nat} {x : DataW H × List MemPlace} (h : DataW.trod enc Try.prog W 0 (fun _ => true) held fuel 22 [.slice ao len cap] = some x) :
    len < 9223372036854775808 ∧ ∀ i, i < len → OpS W ao i := by
  rcases Go.Deep.open_slice Try.underlying22 h with ⟨hcs, -⟩ | ⟨a, l, c, m, n, D, Pl, hcs, -, hl, hm, hmm, -, hx⟩
  · simp only [List.cons.injEq, Value.slice.injEq, and_true] at hcs
    obtain ⟨rfl, rfl, rfl⟩ := hcs
    exact ⟨by omega, fun i hi => by omega⟩
  · simp only [List.cons.injEq, Value.slice.injEq, and_true] at hcs
    obtain ⟨rfl, rfl, rfl⟩ := hcs
    rw [if_pos rfl] at hmm
    subst hmm
    refine ⟨by unfold maxLen at hm; omega, fun i hi => ?_⟩
    have spot : a.spot = none := by
      obtain ⟨cs', c1, c2⟩ := hx 0 (by omega)
      obtain ⟨K, x, y, z, s, t, rfl, hsz⟩ := op_open c2
      obtain ⟨-, -, hc⟩ := World.cells?_some c1
      have := hc 0 (by rw [cellsOp]; omega)
      rw [Nat.zero_mul] at this
      simp only [Addr.add, if_true, List.getElem?_cons_zero] at this
      unfold World.cell? at this
      split at this
      · by_cases e : a.spot.isSome = true
        · rw [if_pos e] at this; cases this
        · simpa using e
      · cases this
    obtain ⟨b, off, sp0⟩ := a
    obtain rfl : sp0 = none := spot
    obtain ⟨cs', c1, c2⟩ := hx i (by omega)
    obtain ⟨K, x, y, z, s, t, rfl, hsz⟩ := op_open c2
    obtain ⟨-, -, hc⟩ := World.cells?_some c1
    rw [cellsOp] at hc
    have hq : ∀ j, j < 6 → W.cell? ⟨b, off + i * 6 + j, none⟩ = [I K, I x, I y, I z, .string s, .string t][j]? := by
      intro j hj
      have e := hc j hj
      rw [Go.Deep.add_add, Addr.add_lit] at e
      rw [← e, Nat.add_assoc]
    have q0 := hq 0 (by omega)
    rw [str_of s] at hq hsz
    rw [str_size] at hsz
    exact ⟨b, off, K, x, y, z, s.data.toList, t, rfl, World.block_lt_of_cell? W ⟨b, _, none⟩ q0, q0, hq 1 (by omega), hq 2 (by omega), hq 3 (by omega), hq 4 (by omega), hq 5 (by omega), by unfold maxLen at hsz; omega⟩
end
end Go.Proofs.Qxb6500470a
