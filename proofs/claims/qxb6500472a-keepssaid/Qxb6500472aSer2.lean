import Derived.Test.Qxb6500472aSer1
import Derived.Deep.QuietTactic
import Derived.BigQuiet
namespace Go.Proofs.Qxb6500472a
open Go.RowKit
attribute [local go_sem] run_store_float drewN_alloc drewN_setCell
structure Lvl where
  x : Nat
  s : Nat
  l : Nat
  h : Nat
def Lvl.cells (v : Lvl) : List Value := [D64 v.x, D64 v.s, D64 v.l, D64 v.h]
def lvCells (lv : List Lvl) : Array Value := (lv.flatMap Lvl.cells).toArray
def lvAt (lv : List Lvl) (n : Nat) : Lvl := lv.getD n ⟨0, 0, 0, 0⟩
theorem lvCells_get (lv : List Lvl) (n j : Nat) (h : n < lv.length) (hj : j < 4) : (lvCells lv)[n * 4 + j]? = (lvAt lv n).cells[j]? := by
  unfold lvCells lvAt
  rw [List.getElem?_toArray]
  induction lv generalizing n with
  | nil => simp at h
  | cons v lv ih =>
    cases n with
    | zero =>
      simp only [List.flatMap_cons, Nat.zero_mul, Nat.zero_add, List.getD_cons_zero]
      rw [List.getElem?_append_left (by simpa [Lvl.cells] using hj)]
    | succ n =>
      simp only [List.flatMap_cons, List.getD_cons_succ]
      rw [List.getElem?_append_right (by simp [Lvl.cells]; omega)]
      have e : (n + 1) * 4 + j - v.cells.length = n * 4 + j := by simp [Lvl.cells]; omega
      rw [e]
      exact ih n (by simpa using h)

structure SerR (w : World) (p bl : Nat) (lv : List Lvl) (n : Nat) : Prop where
  head : Blk w p #[.slice (some ⟨bl, 0, none⟩) 8 8, I n] 97
  rows : Blk w bl (lvCells lv) 100
  len : lv.length = 8
  le : n ≤ 8
  ne : p ≠ bl
abbrev ptr (p : Nat) : Value := .pointer (some ⟨p, 0, none⟩)

theorem SerR.row {w : World} {p bl : Nat} {lv : List Lvl} {n : Nat} (h : SerR w p bl lv n) (i : Nat) (hi : i < 8) :
    w.cell? ⟨bl, i * 4, none⟩ = some (D64 (lvAt lv i).x) ∧ w.cell? ⟨bl, i * 4 + 1, none⟩ = some (D64 (lvAt lv i).s) ∧ w.cell? ⟨bl, i * 4 + 2, none⟩ = some (D64 (lvAt lv i).l) ∧ w.cell? ⟨bl, i * 4 + 3, none⟩ = some (D64 (lvAt lv i).h) := by
  have hl := h.len
  refine ⟨?_, ?_, ?_, ?_⟩ <;> rw [h.rows.cell]
  · exact lvCells_get lv i 0 (by omega) (by omega)
  · exact lvCells_get lv i 1 (by omega) (by omega)
  · exact lvCells_get lv i 2 (by omega) (by omega)
  · exact lvCells_get lv i 3 (by omega) (by omega)

set_option maxHeartbeats 1000000 in
theorem min_some (w : World) (p bl : Nat) (lv : List Lvl) (n : Nat) (h : SerR w p bl lv (n + 1)) :
    Calls Try.prog 66 #[ptr p] w fun e w' => e = .returned (.tuple #[D64 (lvAt lv n).l, I 0]) ∧ ∃ m, w' = w.drewN m := by
  obtain ⟨ch, fh, lh⟩ := h.head.facts
  have hn := h.le
  obtain ⟨r0, r1, r2, r3⟩ := h.row n (by omega)
  have hwr := wr64 (n : Int) (by omega) (by omega)
  have hlt : (n : Int) < 8 := by omega
  go_enter Try.func66, Try.ntmps66
  go_wp2
  go_quiet (fail)
  go_wp2
  go_ret2
  exact ⟨rfl, _, rfl⟩
set_option maxHeartbeats 1000000 in
theorem min_none (w : World) (p bl : Nat) (lv : List Lvl) (h : SerR w p bl lv 0) :
    Calls Try.prog 66 #[ptr p] w fun e w' => e = .returned (.tuple #[D64 0, I 2]) ∧ w' = w := by
  obtain ⟨ch, fh, lh⟩ := h.head.facts
  go_enter Try.func66, Try.ntmps66
  go_wp2
  go_ret2
  exact ⟨rfl, rfl⟩

set_option maxHeartbeats 1000000 in
theorem max_some (w : World) (p bl : Nat) (lv : List Lvl) (n : Nat) (h : SerR w p bl lv (n + 1)) :
    Calls Try.prog 67 #[ptr p] w fun e w' => e = .returned (.tuple #[D64 (lvAt lv n).h, I 0]) ∧ ∃ m, w' = w.drewN m := by
  obtain ⟨ch, fh, lh⟩ := h.head.facts
  have hn := h.le
  obtain ⟨r0, r1, r2, r3⟩ := h.row n (by omega)
  have hwr := wr64 (n : Int) (by omega) (by omega)
  have hlt : (n : Int) < 8 := by omega
  go_enter Try.func67, Try.ntmps67
  go_wp2
  go_quiet (fail)
  go_wp2
  go_ret2
  exact ⟨rfl, _, rfl⟩
set_option maxHeartbeats 1000000 in
theorem max_none (w : World) (p bl : Nat) (lv : List Lvl) (h : SerR w p bl lv 0) :
    Calls Try.prog 67 #[ptr p] w fun e w' => e = .returned (.tuple #[D64 0, I 2]) ∧ w' = w := by
  obtain ⟨ch, fh, lh⟩ := h.head.facts
  go_enter Try.func67, Try.ntmps67
  go_wp2
  go_ret2
  exact ⟨rfl, rfl⟩
end Go.Proofs.Qxb6500472a
