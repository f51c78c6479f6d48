import Derived.Test.Qxb6500473aKp1
namespace Go.Proofs.Qxb6500473a
open Go.RowKit
attribute [local go_sem] run_store_float drewN_alloc drewN_setCell run_neg_float

/-! ### the ghost -/
def ghCells (nu de : List Int) (n : Int) : Array Value := (nu.map I ++ (de.map I ++ [I n])).toArray
structure GhR (w : World) (q : Nat) (nu de : List Int) (n : Nat) : Prop where
  head : Blk w q (ghCells nu de n) 30
  l1 : nu.length = 8
  l2 : de.length = 8
  le : n ≤ 8
theorem GhR.num {w : World} {q : Nat} {nu de : List Int} {n : Nat} (h : GhR w q nu de n) (i : Nat) (hi : i < 8) : w.cell? ⟨q, i, none⟩ = some (I (nu.getD i 0)) := by
  rw [h.head.cell]
  unfold ghCells
  have := h.l1
  rw [List.getElem?_toArray, List.getElem?_append_left (by simp; omega), List.getElem?_map, List.getElem?_eq_getElem (by omega), List.getD_eq_getElem?_getD, List.getElem?_eq_getElem (by omega)]
  rfl
theorem GhR.den {w : World} {q : Nat} {nu de : List Int} {n : Nat} (h : GhR w q nu de n) (i : Nat) (hi : i < 8) : w.cell? ⟨q, 8 + i, none⟩ = some (I (de.getD i 0)) := by
  rw [h.head.cell]
  unfold ghCells
  have h1 := h.l1
  have h2 := h.l2
  rw [List.getElem?_toArray, List.getElem?_append_right (by simp; omega), List.length_map, h1, show 8 + i - 8 = i from by omega, List.getElem?_append_left (by simp; omega), List.getElem?_map, List.getElem?_eq_getElem (by omega), List.getD_eq_getElem?_getD, List.getElem?_eq_getElem (by omega)]
  rfl
theorem GhR.cnt {w : World} {q : Nat} {nu de : List Int} {n : Nat} (h : GhR w q nu de n) : w.cell? ⟨q, 16, none⟩ = some (I n) := by
  rw [h.head.cell]
  unfold ghCells
  have h1 := h.l1
  have h2 := h.l2
  rw [List.getElem?_toArray, List.getElem?_append_right (by simp; omega), List.length_map, h1, List.getElem?_append_right (by simp; omega), List.length_map, h2]
  rfl
theorem GhR.upd {bs : List Nat} {w w' : World} {q : Nat} {nu de : List Int} {n : Nat} (h : GhR w q nu de n) (u : Upd bs w w') (hq : q ∉ bs) : GhR w' q nu de n := ⟨h.head.upd u hq, h.l1, h.l2, h.le⟩
theorem GhR.later {w w' : World} {q : Nat} {nu de : List Int} {n : Nat} (h : GhR w q nu de n) (u : Below w.heap.size w w') : GhR w' q nu de n := h.upd (Upd.of_below (bs := []) u) (by simp)
theorem GhR.drewN {w : World} {q : Nat} {nu de : List Int} {n : Nat} (h : GhR w q nu de n) (m : Nat) : GhR (w.drewN m) q nu de n := ⟨h.head, h.l1, h.l2, h.le⟩
theorem gh_num (nu de : List Int) (n : Int) (i : Nat) (v : Int) (hi : i < nu.length) : (ghCells nu de n).setIfInBounds i (I v) = ghCells (nu.set i v) de n := by
  unfold ghCells
  rw [List.setIfInBounds_toArray, List.set_append_left _ _ (by simpa using hi), List.map_set]
theorem gh_den (nu de : List Int) (n : Int) (i : Nat) (v : Int) (h1 : nu.length = 8) (hi : i < de.length) : (ghCells nu de n).setIfInBounds (8 + i) (I v) = ghCells nu (de.set i v) n := by
  unfold ghCells
  rw [List.setIfInBounds_toArray, List.set_append_right _ _ (by simp; omega), List.length_map, h1, show 8 + i - 8 = i from by omega, List.set_append_left _ _ (by simpa using hi), List.map_set]
theorem gh_cnt (nu de : List Int) (n m : Int) (h1 : nu.length = 8) (h2 : de.length = 8) : (ghCells nu de n).setIfInBounds 16 (I m) = ghCells nu de m := by
  unfold ghCells
  rw [List.setIfInBounds_toArray, List.set_append_right _ _ (by simp; omega), List.length_map, h1, List.set_append_right _ _ (by simp; omega), List.length_map, h2]
  rfl
theorem GhR.push {w : World} {q : Nat} {nu de : List Int} {n : Nat} (h : GhR w q nu de n) (x y : Int) (hn : n < 8) :
    GhR (((w.setCell ⟨q, n, none⟩ (I x)).setCell ⟨q, 8 + n, none⟩ (I y)).setCell ⟨q, 16, none⟩ (I ((n : Int) + 1))) q (nu.set n x) (de.set n y) (n + 1) := by
  have h1 := h.l1
  have h2 := h.l2
  refine ⟨?_, by simp [h1], by simp [h2], by omega⟩
  have b := ((h.head.set (i := n) (I x)).set (i := 8 + n) (I y)).set (i := 16) (I ((n : Int) + 1))
  rw [gh_num _ _ _ _ _ (by omega), gh_den _ _ _ _ _ (by simp [h1]) (by omega), gh_cnt _ _ _ _ (by simp [h1]) (by simp [h2])] at b
  exact b
theorem GhR.pop {w : World} {q : Nat} {nu de : List Int} {n : Nat} (h : GhR w q nu de (n + 1)) : GhR (w.setCell ⟨q, 16, none⟩ (I n)) q nu de n := by
  have h1 := h.l1
  have h2 := h.l2
  refine ⟨?_, h1, h2, by have := h.le; omega⟩
  have b := h.head.set (i := 16) (I n)
  rw [gh_cnt _ _ _ _ h1 h2] at b
  exact b

set_option maxHeartbeats 1000000 in
theorem note_push (w : World) (q : Nat) (nu de : List Int) (n : Nat) (h : GhR w q nu de n) (hn : n < 8) (x y z : Int) (s t : ByteArray) (n0 : Int) (s0 : List UInt8) :
    Calls Try.prog 12 #[ptr q, OpV 1 x y z s t, AnsV 0 n0 s0] w fun e w' => e = .returned (.bool true) ∧ GhR w' q (nu.set n x) (de.set n y) (n + 1) ∧ Upd [q] w w' := by
  have hq := h.head.lt
  have c16 := h.cnt
  have cn := h.num n hn
  have cd := h.den n hn
  have f := h.head.frozen
  have hq1 : w.heap.size ≠ q := by omega
  have hq2 : w.heap.size + 1 ≠ q := by omega
  have g8 : ¬ (8 : Int) ≤ (n : Int) := by omega
  have g8' : (n : Int) < 8 := by omega
  have wr1 := wr64 ((n : Int) + 1) (by omega) (by omega)
  have HH : Hid _ := h
  clear h
  go_enter Try.func12, Try.ntmps12
  go_wp2
  go_region
  go_wp2
  go_region
  go_wp2
  go_ret
  refine ⟨rfl, ?_, ?_⟩
  · exact GhR.drewN (n := n + 1) ((HH.out.push x y hn).later (((Below.refl _ _).alloc (Nat.le_refl _) _).alloc (by simp) _)) 2
  · exact ((((((Upd.refl _ _).setCell (by simp) _).setCell (by simp) _).setCell (by simp) _).alloc _).alloc _).drew.drew
set_option maxHeartbeats 1000000 in
theorem note_full (w : World) (q : Nat) (nu de : List Int) (n : Nat) (h : GhR w q nu de n) (hn : n = 8) (x y z : Int) (s t : ByteArray) (n0 : Int) (s0 : List UInt8) :
    Calls Try.prog 12 #[ptr q, OpV 1 x y z s t, AnsV 1 n0 s0] w fun e w' => e = .returned (.bool true) ∧ GhR w' q nu de n ∧ Upd [q] w w' := by
  have hq := h.head.lt
  have c16 := h.cnt
  have hq1 : w.heap.size ≠ q := by omega
  have hq2 : w.heap.size + 1 ≠ q := by omega
  have g8 : (8 : Int) ≤ (n : Int) := by omega
  have HH : Hid _ := h
  clear h hn
  go_enter Try.func12, Try.ntmps12
  go_wp2
  go_ret
  exact ⟨rfl, HH.out.later (((Below.refl _ _).alloc (Nat.le_refl _) _).alloc (by simp) _), ((Upd.refl _ _).alloc _).alloc _⟩
set_option maxHeartbeats 1000000 in
theorem note_empty (w : World) (q : Nat) (nu de : List Int) (h : GhR w q nu de 0) (x y z : Int) (s t : ByteArray) (n0 : Int) (s0 : List UInt8) :
    Calls Try.prog 12 #[ptr q, OpV 2 x y z s t, AnsV 2 n0 s0] w fun e w' => e = .returned (.bool true) ∧ GhR w' q nu de 0 ∧ Upd [q] w w' := by
  have hq := h.head.lt
  have c16 := h.cnt
  have hq1 : w.heap.size ≠ q := by omega
  have hq2 : w.heap.size + 1 ≠ q := by omega
  have HH : Hid _ := h
  clear h
  go_enter Try.func12, Try.ntmps12
  go_wp2
  go_ret
  exact ⟨rfl, HH.out.later (((Below.refl _ _).alloc (Nat.le_refl _) _).alloc (by simp) _), ((Upd.refl _ _).alloc _).alloc _⟩
set_option maxHeartbeats 1000000 in
theorem note_pop (w : World) (q : Nat) (nu de : List Int) (n : Nat) (h : GhR w q nu de (n + 1)) (x y z : Int) (s t : ByteArray) (n0 : Int) (s0 : List UInt8) :
    Calls Try.prog 12 #[ptr q, OpV 2 x y z s t, AnsV 0 n0 s0] w fun e w' => e = .returned (.bool true) ∧ GhR w' q nu de n ∧ Upd [q] w w' := by
  have hq := h.head.lt
  have c16 := h.cnt
  have f := h.head.frozen
  have h8 := h.le
  have hq1 : w.heap.size ≠ q := by omega
  have hq2 : w.heap.size + 1 ≠ q := by omega
  have hz : (((n : Nat) : Int) + 1 == 0) = false := by simp; omega
  have hz2 : (((n + 1 : Nat) : Int) == 0) = false := by simp; omega
  have hs : ((n + 1 : Nat) : Int) - 1 = n := by omega
  have wr1 := wr64 (n : Int) (by omega) (by omega)
  have HH : Hid _ := h
  clear h
  go_enter Try.func12, Try.ntmps12
  go_wp2
  go_ret
  refine ⟨rfl, ?_, ?_⟩
  · exact HH.out.pop.later (((Below.refl _ _).alloc (Nat.le_refl _) _).alloc (by simp) _)
  · exact ((((Upd.refl _ _).setCell (by simp) _)).alloc _).alloc _
set_option maxHeartbeats 1000000 in
theorem note_other (w : World) (q : Nat) (nu de : List Int) (n : Nat) (h : GhR w q nu de n) (K x y z : Int) (k1 : K ≠ 1) (k2 : K ≠ 2) (s t : ByteArray) (e0 n0 : Int) (s0 : List UInt8) :
    Calls Try.prog 12 #[ptr q, OpV K x y z s t, AnsV e0 n0 s0] w fun e w' => e = .returned (.bool true) ∧ GhR w' q nu de n ∧ Upd [q] w w' := by
  have hq := h.head.lt
  have e1 : (K == 1) = false := by simpa using k1
  have e2 : (K == 2) = false := by simpa using k2
  have HH : Hid _ := h
  clear h k1 k2
  go_enter Try.func12, Try.ntmps12
  go_wp2
  go_ret
  exact ⟨rfl, HH.out.later (((Below.refl _ _).alloc (Nat.le_refl _) _).alloc (by simp) _), ((Upd.refl _ _).alloc _).alloc _⟩

/-! ### the ghost's ratios -/
/-- The samples are the ghost's ratios. -/
def Match (A : List Nat) (nu de : List Int) : Prop := ∀ i, i < A.length → A.getD i 0 = ratioF (nu.getD i 0) (de.getD i 0)
theorem Match.push {A : List Nat} {nu de : List Int} (h : Match A nu de) (h1 : nu.length = 8) (h2 : de.length = 8) (hn : A.length < 8) (x y : Int) : Match (A ++ [ratioF x y]) (nu.set A.length x) (de.set A.length y) := by
  intro i hi
  rw [List.length_append] at hi
  by_cases e : i = A.length
  · subst e
    rw [List.getD_eq_getElem?_getD, List.getElem?_append_right (Nat.le_refl _)]
    simp [List.getD, h1, h2, hn]
  · have hi' : i < A.length := by simp at hi; omega
    have e1 : (A ++ [ratioF x y]).getD i 0 = A.getD i 0 := by rw [List.getD_eq_getElem?_getD, List.getD_eq_getElem?_getD, List.getElem?_append_left hi']
    rw [e1, h i hi', List.getD_eq_getElem?_getD, List.getD_eq_getElem?_getD, List.getD_eq_getElem?_getD, List.getD_eq_getElem?_getD, List.getElem?_set_ne (fun q => e q.symm), List.getElem?_set_ne (fun q => e q.symm)]
theorem Match.pop {A : List Nat} {nu de : List Int} (h : Match A nu de) : Match A.dropLast nu de := by
  intro i hi
  rw [List.length_dropLast] at hi
  rw [← h i (by omega), List.getD_eq_getElem?_getD, List.getD_eq_getElem?_getD, List.getElem?_dropLast, if_pos (by omega)]
end Go.Proofs.Qxb6500473a
