import Derived.Test.Qxb6500468aPk5
import Derived.Deep.RegionHeld3
namespace Go.Proofs.Qxb6500468a
open Go.RowKit

/-- The store at x: its words at bw, its board at ub. -/
structure StoR (w : World) (x bw ub : Nat) (u : Nat) (ws : List Nat) : Prop where
  head : Blk w x #[.slice (some ⟨bw, 0, none⟩) 8 8, ptr ub] 70
  rows : Blk w bw (wsC ws) 28
  brd : Blk w ub (brdC u) 88
  len : ws.length = 8
  hu : u < 256
  lt : ∀ i, ws.getD i 0 < 72057594037927936
  free : ∀ i, i < 8 → u.testBit i = false → ws.getD i 0 = 0
  d1 : x ≠ bw
  d2 : x ≠ ub
  d3 : bw ≠ ub
theorem StoR.upd {bs : List Nat} {w w' : World} {x bw ub u : Nat} {ws : List Nat} (h : StoR w x bw ub u ws) (k : Upd bs w w') (h1 : x ∉ bs) (h2 : bw ∉ bs) (h3 : ub ∉ bs) : StoR w' x bw ub u ws :=
  ⟨h.head.upd k h1, h.rows.upd k h2, h.brd.upd k h3, h.len, h.hu, h.lt, h.free, h.d1, h.d2, h.d3⟩
theorem StoR.later {w w' : World} {x bw ub u : Nat} {ws : List Nat} (h : StoR w x bw ub u ws) (b : Below w.heap.size w w') : StoR w' x bw ub u ws := h.upd (Upd.of_below (bs := []) b) (by simp) (by simp) (by simp)
theorem StoR.drewN {w : World} {x bw ub u : Nat} {ws : List Nat} (h : StoR w x bw ub u ws) (n : Nat) : StoR (w.drewN n) x bw ub u ws := ⟨h.head, h.rows, h.brd, h.len, h.hu, h.lt, h.free, h.d1, h.d2, h.d3⟩
theorem StoR.at0 {w : World} {x bw ub u : Nat} {ws : List Nat} (h : StoR w x bw ub u ws) : w.cell? ⟨x, 0, none⟩ = some (.slice (some ⟨bw, 0, none⟩) 8 8) ∧ w.cell? ⟨x, 1, none⟩ = some (ptr ub) ∧ x < w.heap.size ∧ bw < w.heap.size ∧ ub < w.heap.size :=
  ⟨h.head.cell 0, h.head.cell 1, h.head.lt, h.rows.lt, h.brd.lt⟩
theorem StoR.word {w : World} {x bw ub u : Nat} {ws : List Nat} (h : StoR w x bw ub u ws) (i : Nat) (hi : i < 8) : w.cell? ⟨bw, i, none⟩ = some (W64 (ws.getD i 0)) ∧ w.frozen? ⟨bw, i, none⟩ = false :=
  ⟨(h.rows.cell i).trans (wsC_at ws i (by rw [h.len]; exact hi)), h.rows.frozen i⟩
theorem getD_set (ws : List Nat) (i n j : Nat) (hi : i < ws.length) : (ws.set i n).getD j 0 = if i = j then n else ws.getD j 0 := by
  rw [List.getD_eq_getElem?_getD, List.getElem?_set, List.getD_eq_getElem?_getD]
  by_cases e : i = j
  · rw [if_pos e, if_pos hi, if_pos e]; rfl
  · rw [if_neg e, if_neg e]
theorem bit_add : ∀ u, u < 256 → ∀ i, i < 8 → (u ||| 2 ^ i) < 256 ∧ ∀ j, j < 8 → (u ||| 2 ^ i).testBit j = (u.testBit j || decide (i = j)) := by decide +kernel
theorem bit_rm : ∀ u, u < 256 → ∀ i, i < 8 → rmB u i < 256 ∧ ∀ j, j < 8 → (rmB u i).testBit j = (u.testBit j && !decide (i = j)) := by decide +kernel
/-- A word is laid into slot i. -/
theorem StoR.lay {w w' : World} {x bw ub u : Nat} {ws : List Nat} (h : StoR w x bw ub u ws) (i n : Nat) (hi : i < 8) (hn : n < 72057594037927936) (hb : u.testBit i = true) (R : Blk w' bw (wsC (ws.set i n)) 28) (k : Upd [bw] w w') : StoR w' x bw ub u (ws.set i n) := by
  refine ⟨h.head.upd k (by simp; exact h.d1), R, h.brd.upd k (by simp; exact fun e => h.d3 e.symm), by rw [List.length_set]; exact h.len, h.hu, fun j => ?_, fun j hj hf => ?_, h.d1, h.d2, h.d3⟩
  · rw [getD_set _ _ _ _ (by rw [h.len]; exact hi)]; split
    · exact hn
    · exact h.lt j
  · rw [getD_set _ _ _ _ (by rw [h.len]; exact hi), if_neg (by intro e; subst e; rw [hb] at hf; cases hf)]
    exact h.free j hj hf
/-- A member comes in. -/
theorem StoR.join {w w' : World} {x bw ub u : Nat} {ws : List Nat} (h : StoR w x bw ub u ws) (i : Nat) (hi : i < 8) (R : Blk w' ub (brdC (u ||| 2 ^ i)) 88) (k : Upd [ub] w w') : StoR w' x bw ub (u ||| 2 ^ i) ws := by
  obtain ⟨q1, q2⟩ := bit_add u h.hu i hi
  refine ⟨h.head.upd k (by simp; exact h.d2), h.rows.upd k (by simp; exact h.d3), R, h.len, q1, h.lt, fun j hj hf => ?_, h.d1, h.d2, h.d3⟩
  rw [q2 j hj, Bool.or_eq_false_iff] at hf
  exact h.free j hj hf.1

def atF (u : Nat) (slot : Int) : Int := if slot < 0 ∨ 8 ≤ slot then 2 else if u.testBit slot.toNat then 0 else 8
set_option maxHeartbeats 1000000 in
theorem at_any (w : World) (x bw ub u : Nat) (ws : List Nat) (h : StoR w x bw ub u ws) (slot : Int) : Calls Try.prog 53 #[ptr x, I slot] w fun e w' => e = .returned (I (atF u slot)) ∧ w' = w := by
  obtain ⟨c0, c1, -, -, -⟩ := h.at0
  unfold atF
  by_cases h1 : slot < 0
  · rw [if_pos (.inl h1)]
    go_enter Try.func53, Try.ntmps53
    go_wp2
    go_ret
    exact ⟨rfl, rfl⟩
  · by_cases h2 : 8 ≤ slot
    · rw [if_pos (.inr h2)]
      go_enter Try.func53, Try.ntmps53
      go_wp2
      go_ret
      exact ⟨rfl, rfl⟩
    · rw [if_neg (by omega)]
      obtain ⟨i, rfl⟩ := Int.eq_ofNat_of_zero_le (show 0 ≤ slot by omega)
      rw [Int.toNat_natCast]
      have hH := has_any w ub u i (by omega) (by have := h.hu; omega) h.brd
      cases hb : u.testBit i with
      | true =>
        rw [hb] at hH
        rw [if_pos rfl]
        go_enter Try.func53, Try.ntmps53
        go_wp2_with fail
        refine hH.mono ?_
        rintro e w1 ⟨rfl, rfl⟩
        go_wp2
        go_ret
        exact ⟨rfl, rfl⟩
      | false =>
        rw [hb] at hH
        rw [if_neg (by simp)]
        go_enter Try.func53, Try.ntmps53
        go_wp2_with fail
        refine hH.mono ?_
        rintro e w1 ⟨rfl, rfl⟩
        go_wp2
        go_ret
        exact ⟨rfl, rfl⟩

set_option maxHeartbeats 1000000 in
theorem free_any (w : World) (x bw ub u : Nat) (ws : List Nat) (h : StoR w x bw ub u ws) : Calls Try.prog 51 #[ptr x] w fun e w' => e = .returned (I (lowZ u)) ∧ StoR w' x bw ub u ws ∧ Upd [ub] w w' := by
  obtain ⟨c0, c1, lx, lb, lu⟩ := h.at0
  have hu := h.hu
  go_enter Try.func51, Try.ntmps51
  go_wp2_with fail
  refine (flip_any w ub u _ (by omega) (flip_dec u hu) h.brd).mono ?_
  rintro e w1 ⟨rfl, B1, u1⟩
  have H1 : Blk w1 x _ _ := h.head.upd u1 (by simp; exact h.d2)
  have k1 : w1.cell? ⟨x, 1, none⟩ = some (ptr ub) := H1.cell 1
  clear c0 c1
  go_wp2_with fail
  refine (lowest_any w1 ub u hu B1).mono ?_
  rintro e w2 ⟨rfl, m, rfl⟩
  have B2 : Blk (w1.drewN m) ub (brdC (18446744073709551615 - u)) 88 := B1
  have u2 : Upd [ub] w (w1.drewN m) := ⟨u1.os, u1.tape, u1.output, u1.size, u1.block⟩
  have k2 : (w1.drewN m).cell? ⟨x, 1, none⟩ = some (ptr ub) := k1
  generalize w1.drewN m = v2 at *
  clear u1 B1 H1 k1
  go_wp2_with fail
  refine (flip_any v2 ub _ u (by omega) (flip_dec2 u hu) B2).mono ?_
  rintro e w3 ⟨rfl, B3, u3⟩
  have u13 := u2.trans u3
  go_wp2
  go_ret
  exact ⟨rfl, ⟨h.head.upd u13 (by simp; exact h.d2), h.rows.upd u13 (by simp; exact h.d3), B3, h.len, h.hu, h.lt, h.free, h.d1, h.d2, h.d3⟩, u13⟩

set_option maxHeartbeats 1000000 in
theorem len_any (w : World) (x bw ub u : Nat) (ws : List Nat) (h : StoR w x bw ub u ws) : Calls Try.prog 38 #[ptr x] w fun e w' => e = .returned (I (popB u)) ∧ w' = w := by
  obtain ⟨c0, c1, -, -, -⟩ := h.at0
  go_enter Try.func38, Try.ntmps38
  go_wp2_with fail
  refine (count_any w ub u h.hu h.brd).mono ?_
  rintro e w1 ⟨rfl, rfl⟩
  go_wp2
  go_ret
  exact ⟨rfl, rfl⟩
end Go.Proofs.Qxb6500468a
