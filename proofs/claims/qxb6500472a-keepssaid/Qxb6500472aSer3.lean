import Derived.Test.Qxb6500472aSer2
namespace Go.Proofs.Qxb6500472a
open Go.RowKit
attribute [local go_sem] run_store_float drewN_alloc drewN_setCell

set_option maxHeartbeats 1000000 in
theorem sum_some (w : World) (p bl : Nat) (lv : List Lvl) (n : Nat) (h : SerR w p bl lv (n + 1)) :
    Calls Try.prog 74 #[ptr p] w fun e w' => e = .returned (D64 (lvAt lv n).s) ∧ ∃ m, w' = w.drewN m := by
  obtain ⟨ch, fh, lh⟩ := h.head.facts
  have hn := h.le
  obtain ⟨r0, r1, r2, r3⟩ := h.row n (by omega)
  have hwr := wr64 (n : Int) (by omega) (by omega)
  have hlt : (n : Int) < 8 := by omega
  go_enter Try.func74, Try.ntmps74
  go_wp2
  go_quiet (fail)
  go_wp2
  go_ret
  exact ⟨rfl, _, rfl⟩
set_option maxHeartbeats 1000000 in
theorem sum_none (w : World) (p bl : Nat) (lv : List Lvl) (h : SerR w p bl lv 0) :
    Calls Try.prog 74 #[ptr p] w fun e w' => e = .returned (D64 0) ∧ w' = w := by
  obtain ⟨ch, fh, lh⟩ := h.head.facts
  go_enter Try.func74, Try.ntmps74
  go_wp2
  go_ret
  exact ⟨rfl, rfl⟩
set_option maxHeartbeats 1000000 in
theorem len_any (w : World) (p bl : Nat) (lv : List Lvl) (n : Nat) (h : SerR w p bl lv n) :
    Calls Try.prog 71 #[ptr p] w fun e w' => e = .returned (I n) ∧ w' = w := by
  obtain ⟨ch, fh, lh⟩ := h.head.facts
  go_enter Try.func71, Try.ntmps71
  go_wp2
  go_ret
  exact ⟨rfl, rfl⟩
set_option maxHeartbeats 1000000 in
theorem pop_none (w : World) (p bl : Nat) (lv : List Lvl) (h : SerR w p bl lv 0) :
    Calls Try.prog 70 #[ptr p] w fun e w' => e = .returned (I 2) ∧ w' = w := by
  obtain ⟨ch, fh, lh⟩ := h.head.facts
  go_enter Try.func70, Try.ntmps70
  go_wp2
  go_ret
  exact ⟨rfl, rfl⟩
set_option maxHeartbeats 1000000 in
theorem pop_some (w : World) (p bl : Nat) (lv : List Lvl) (n : Nat) (h : SerR w p bl lv (n + 1)) :
    Calls Try.prog 70 #[ptr p] w fun e w' => e = .returned (I 0) ∧ w' = w.setCell ⟨p, 1, none⟩ (I n) := by
  obtain ⟨ch, fh, lh⟩ := h.head.facts
  have hn := h.le
  go_enter Try.func70, Try.ntmps70
  go_wp2
  go_ret
  exact ⟨rfl, rfl⟩
set_option maxHeartbeats 1000000 in
theorem mean_none (w : World) (p bl : Nat) (lv : List Lvl) (h : SerR w p bl lv 0) :
    Calls Try.prog 75 #[ptr p] w fun e w' => e = .returned (.tuple #[D64 0, I 2]) ∧ w' = w := by
  obtain ⟨ch, fh, lh⟩ := h.head.facts
  go_enter Try.func75, Try.ntmps75
  go_wp2
  go_ret2
  exact ⟨rfl, rfl⟩
set_option maxHeartbeats 1000000 in
theorem mean_some (w : World) (p bl : Nat) (lv : List Lvl) (n : Nat) (h : SerR w p bl lv (n + 1)) :
    Calls Try.prog 75 #[ptr p] w fun e w' => ∃ v, e = .returned (.tuple #[D64 v, I 0]) ∧ can64 v = quo64 (can64 (lvAt lv n).s) (int64 (n + 1 : Nat)) ∧ ∃ m, w' = w.drewN m := by
  obtain ⟨rq, nq, hq, cq⟩ := arith_ex Try.prog .quo 80 .f64 (by simp)
  obtain ⟨ch, fh, lh⟩ := h.head.facts
  have hn := h.le
  obtain ⟨r0, r1, r2, r3⟩ := h.row n (by omega)
  have hwr := wr64 (n : Int) (by omega) (by omega)
  have hlt : (n : Int) < 8 := by omega
  go_enter Try.func75, Try.ntmps75
  go_wp2
  go_region
  all_goals
    go_wp2
    go_ret2
    exact ⟨_, rfl, (cq.out _ _ _).trans (by rw [can_ofInt]; rfl), _, rfl⟩
end Go.Proofs.Qxb6500472a
