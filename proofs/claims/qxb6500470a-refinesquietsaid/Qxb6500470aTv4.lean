import Derived.Test.Qxb6500470aTv3
import Derived.Stop.Asserts
namespace Go.Proofs.Qxb6500470a
open Go.RowKit
theorem peek_none (K : Nat → Prop) (w : World) (p : Nat) (vs : List Value) (h : StR K w p vs) (i : Nat) (hi : vs.length ≤ i) (h5 : i ≤ 5) :
    Calls Try.prog 54 #[ptr p, I i] w fun e w' => e = .returned .nilIface ∧ w' = w := by
  obtain ⟨a, cap, h⟩ := h
  obtain ⟨c0, c1, f0, f1, lp⟩ := h.at0
  have i0 : ¬ (i : Int) < 0 := by omega
  have i1 : (vs.length : Int) ≤ (i : Int) := by omega
  clear h
  go_enter Try.func54, Try.ntmps54
  go_wp2
  go_ret
  exact ⟨rfl, rfl⟩
theorem lack_under (K : Nat → Prop) (w : World) (p : Nat) (vs : List Value) (h : StR K w p vs) (k : Nat) (hk : vs.length < k) :
    Calls Try.prog 58 #[ptr p, I k] w fun e w' => e = .returned (I 4) ∧ w' = w := by
  obtain ⟨a, cap, h⟩ := h
  obtain ⟨c0, c1, f0, f1, lp⟩ := h.at0
  have i1 : (vs.length : Int) < (k : Int) := by omega
  clear h
  go_enter Try.func58, Try.ntmps58
  go_wp2
  go_ret
  exact ⟨rfl, rfl⟩
theorem lack_cap (K : Nat → Prop) (w : World) (p : Nat) (vs : List Value) (h : StR K w p vs) (k : Nat) (hk : k ≤ vs.length) :
    Calls Try.prog 58 #[ptr p, I k] w fun e w' => e = .returned (I 5) ∧ w' = w := by
  obtain ⟨a, cap, h⟩ := h
  obtain ⟨c0, c1, f0, f1, lp⟩ := h.at0
  have i1 : ¬ (vs.length : Int) < (k : Int) := by omega
  clear h
  go_enter Try.func58, Try.ntmps58
  go_wp2
  go_ret
  exact ⟨rfl, rfl⟩
theorem mNegP (a : Option Addr) (w : World) : (method 260 89 (.pointer a) "Neg").run Try.prog w = .ok (145, .pointer a) w := by kernel_rfl
theorem mLenS (s : ByteArray) (w : World) : (method 260 112 (.string s) "Len").run Try.prog w = .ok (149, .string s) w := by kernel_rfl
theorem mLenP (a : Option Addr) (w : World) : (method 260 89 (.pointer a) "Len").run Try.prog w = .ok (144, .pointer a) w := by kernel_rfl

set_option maxRecDepth 100000 in
set_option maxHeartbeats 1000000 in
theorem neg_none (K : Nat → Prop) (w : World) (p : Nat) (h : StR K w p []) :
    Calls Try.prog 41 #[ptr p] w fun e w' => e = .returned (I 4) ∧ w' = w := by
  have hp := peek_none K w p _ h 0 (by simp) (by omega)
  have ta : ∀ w, (Instr.typeAssert .nilIface 64 86 true).run Try.prog w = .ok (.tuple #[.nilIface, .bool false]) w := fun _ => by kernel_rfl
  have hl := lack_under K w p _ h 1 (by simp)
  go_enter Try.func41, Try.ntmps41
  go_wp2_with fail
  refine hp.mono ?_
  rintro e w1 ⟨rfl, rfl⟩
  go_wp2_with fail
  refine hl.mono ?_
  rintro e w1 ⟨rfl, rfl⟩
  go_wp2
  go_ret
  exact ⟨rfl, rfl⟩

set_option maxRecDepth 100000 in
set_option maxHeartbeats 1000000 in
theorem neg_str (K : Nat → Prop) (w : World) (p : Nat) (us : List Value) (z : List UInt8) (h : StR K w p (us ++ [VS z])) :
    Calls Try.prog 41 #[ptr p] w fun e w' => e = .returned (I 5) ∧ w' = w := by
  have hp := peek_some K w p _ h 0 (by simp)
  rw [getD_last] at hp
  have ta : ∀ w, (Instr.typeAssert (VS z) 64 86 true).run Try.prog w = .ok (.tuple #[.nilIface, .bool false]) w := fun w => run_typeAssert_lacksB Try.underlying86 (by kernel_rfl) (by kernel_rfl) _ _ w
  have hl := lack_cap K w p _ h 1 (by simp)
  go_enter Try.func41, Try.ntmps41
  go_wp2_with fail
  refine hp.mono ?_
  rintro e w1 ⟨rfl, rfl⟩
  go_wp2_with fail
  refine hl.mono ?_
  rintro e w1 ⟨rfl, rfl⟩
  go_wp2
  go_ret
  exact ⟨rfl, rfl⟩

set_option maxRecDepth 100000 in
set_option maxHeartbeats 1000000 in
theorem neg_lst (K : Nat → Prop) (w : World) (p : Nat) (us : List Value) (ad : Option Addr) (h : StR K w p (us ++ [.iface 69 (.pointer ad)])) :
    Calls Try.prog 41 #[ptr p] w fun e w' => e = .returned (I 5) ∧ w' = w := by
  have hp := peek_some K w p _ h 0 (by simp)
  rw [getD_last] at hp
  have ta : ∀ w, (Instr.typeAssert (.iface 69 (.pointer ad)) 64 86 true).run Try.prog w = .ok (.tuple #[.nilIface, .bool false]) w := fun w => run_typeAssert_lacksB Try.underlying86 (by kernel_rfl) (by kernel_rfl) _ _ w
  have hl := lack_cap K w p _ h 1 (by simp)
  go_enter Try.func41, Try.ntmps41
  go_wp2_with fail
  refine hp.mono ?_
  rintro e w1 ⟨rfl, rfl⟩
  go_wp2_with fail
  refine hl.mono ?_
  rintro e w1 ⟨rfl, rfl⟩
  go_wp2
  go_ret
  exact ⟨rfl, rfl⟩

set_option maxRecDepth 100000 in
set_option maxHeartbeats 1000000 in
theorem len_none (K : Nat → Prop) (w : World) (p : Nat) (h : StR K w p []) :
    Calls Try.prog 40 #[ptr p] w fun e w' => e = .returned (I 4) ∧ w' = w := by
  have hp := peek_none K w p _ h 0 (by simp) (by omega)
  have ta : ∀ w, (Instr.typeAssert .nilIface 64 82 true).run Try.prog w = .ok (.tuple #[.nilIface, .bool false]) w := fun _ => by kernel_rfl
  have hl := lack_under K w p _ h 1 (by simp)
  go_enter Try.func40, Try.ntmps40
  go_wp2_with fail
  refine hp.mono ?_
  rintro e w1 ⟨rfl, rfl⟩
  go_wp2_with fail
  refine hl.mono ?_
  rintro e w1 ⟨rfl, rfl⟩
  go_wp2
  go_ret
  exact ⟨rfl, rfl⟩

set_option maxRecDepth 100000 in
set_option maxHeartbeats 1000000 in
theorem len_int (K : Nat → Prop) (w : World) (p : Nat) (us : List Value) (n : Int) (h : StR K w p (us ++ [VI n])) :
    Calls Try.prog 40 #[ptr p] w fun e w' => e = .returned (I 5) ∧ w' = w := by
  have hp := peek_some K w p _ h 0 (by simp)
  rw [getD_last] at hp
  have ta : ∀ w, (Instr.typeAssert (VI n) 64 82 true).run Try.prog w = .ok (.tuple #[.nilIface, .bool false]) w := fun w => run_typeAssert_lacksB Try.underlying82 (by kernel_rfl) (by kernel_rfl) _ _ w
  have hl := lack_cap K w p _ h 1 (by simp)
  go_enter Try.func40, Try.ntmps40
  go_wp2_with fail
  refine hp.mono ?_
  rintro e w1 ⟨rfl, rfl⟩
  go_wp2_with fail
  refine hl.mono ?_
  rintro e w1 ⟨rfl, rfl⟩
  go_wp2
  go_ret
  exact ⟨rfl, rfl⟩

theorem pairNeg (w : World) (q : Nat) (ta tb : TypeId) (ua ub : Value) (b0 : Blk w q #[.iface ta ua, .iface tb ub] 91) :
    Calls Try.prog 145 #[ptr q] w fun e w' => e = .returned (.iface 89 (ptr w.heap.size)) ∧ Blk w' w.heap.size #[.iface tb ub, .iface ta ua] 91 ∧ Below w.heap.size w w' := by
  obtain ⟨c1, c2, c3⟩ := (b0.old (.cells #[.nilIface, .nilIface] 91)).facts
  obtain ⟨d1, d2, d3⟩ := (b0.old (.cells #[.iface tb ub, .nilIface] 91)).facts
  go_enter Try.func145, Try.ntmps145
  go_wp2
  go_ret
  exact ⟨rfl, Blk.new rfl, (Below.refl _ _).alloc (Nat.le_refl _) _⟩
end Go.Proofs.Qxb6500470a
