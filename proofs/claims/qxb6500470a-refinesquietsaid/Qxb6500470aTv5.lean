import Derived.Test.Qxb6500470aTv4
namespace Go.Proofs.Qxb6500470a
open Go.RowKit

set_option maxRecDepth 100000 in
set_option maxHeartbeats 2000000 in
theorem neg_pair (K : Nat → Prop) (w : World) (p : Nat) (us : List Value) (q : Nat) (ta tb : TypeId) (ua ub : Value) (h : StR K w p (us ++ [.iface 89 (ptr q)])) (b0 : Blk w q #[.iface ta ua, .iface tb ub] 91) :
    Calls Try.prog 41 #[ptr p] w fun e w' => e = .returned (I 0) ∧ ∃ q', w.heap.size ≤ q' ∧ Blk w' q' #[.iface tb ub, .iface ta ua] 91 ∧ StR (fun k => K k ∨ k = q') w' p (us ++ [.iface 89 (ptr q')]) ∧ Kept K w w' := by
  have hp := peek_some K w p _ h 0 (by simp)
  rw [getD_last] at hp
  have ta' : ∀ w, (Instr.typeAssert (.iface 89 (ptr q)) 64 86 true).run Try.prog w = .ok (.tuple #[.iface 89 (ptr q), .bool true]) w := fun w => run_typeAssert_hasB Try.underlying86 (by kernel_rfl) _ _ w
  have hm := mNegP (some ⟨q, 0, none⟩)
  have h5 := h.le
  rw [List.length_append, List.length_singleton] at h5
  go_enter Try.func41, Try.ntmps41
  go_wp2_with fail
  refine hp.mono ?_
  rintro e w1 ⟨rfl, rfl⟩
  go_wp2_with fail
  refine (pairNeg w1 q ta tb ua ub b0).mono ?_
  rintro e w2 ⟨rfl, n2, b2⟩
  have h2 := h.grow b2 (Nat.le_refl _) n2.lt
  have kk := Kept.of_below (K := K) b2 h.ks
  go_wp2_with fail
  refine (swap_any _ w2 p _ h2 us.length 1 (by simp) (by omega) _ _).mono ?_
  rintro e w3 ⟨rfl, s3, k3⟩
  rw [take_but1] at s3
  have n3 := n2.kept k3 (.inr rfl)
  go_wp2
  go_ret
  exact ⟨rfl, _, Nat.le_refl _, n3, s3, kk.trans (k3.weak (fun k hk => .inl hk))⟩

/-- How many cells a list has. -/
def cnt : TV → Nat
  | .cons _ t => 1 + cnt t
  | _ => 0
set_option maxHeartbeats 2000000 in
theorem listLen (x : TV) (K : Nat → Prop) (w : World) (tp : Option Addr) (h : RV K w x (.iface 69 (.pointer tp))) (hc : cnt x ≤ 1000) :
    Calls Try.prog 137 #[.pointer tp] w fun e w' => e = .returned (I (cnt x)) ∧ w' = w := by
  go_enter Try.func137, Try.ntmps137
  go_wp2
  go_loopw [3, 4] (fun n c wr => ∃ y tq k, c = .pointer tq ∧ n = I (k : Nat) ∧ k + cnt y = cnt x ∧ RV K w y (.iface 69 (.pointer tq)) ∧ wr = w) (fun n _ _ => 1001 - (intOf n).toNat)
  case atStart => exact ⟨x, tp, 0, rfl, rfl, by omega, h, rfl⟩
  case round =>
    obtain ⟨y, tq, k, rfl, rfl, hk, ry, rfl⟩ := hrel
    rcases ry.list with ⟨rfl, rfl⟩ | ⟨a, b, q, hv, tr, rfl, rfl, kq', bl, ra, rb⟩
    · have : k = cnt x := by simp [cnt] at hk; exact hk
      subst this
      go_wp2
      go_ret
      exact ⟨rfl, rfl⟩
    · obtain ⟨c1, c2, c3⟩ := bl.facts
      have hk' : k + 1 + cnt b = cnt x := by simp [cnt] at hk; omega
      have hkb : (k : Int) ≤ 1000 := by omega
      go_wp2
      go_roundw
      case rel => exact ⟨b, tr, k + 1, rfl, by go_num, hk', rb, by simp⟩
      case measure => simp [intOf]; omega
set_option maxHeartbeats 400000 in
theorem strLenG (s : List UInt8) (w : World) : Calls Try.prog 149 #[S s] w fun e w' => e = .returned (I s.length) ∧ w' = w := by
  have e0 : (str s).size = s.length := str_size s
  go_enter Try.func149, Try.ntmps149
  go_wp2
  go_ret
  exact ⟨by rw [← e0]; rfl, rfl⟩
set_option maxHeartbeats 400000 in
theorem pairLen (a : Option Addr) (w : World) : Calls Try.prog 144 #[.pointer a] w fun e w' => e = .returned (I 2) ∧ w' = w := by
  go_enter Try.func144, Try.ntmps144
  go_wp2
  go_ret
  exact ⟨rfl, rfl⟩

set_option maxRecDepth 100000 in
set_option maxHeartbeats 2000000 in
theorem len_str (K : Nat → Prop) (w : World) (p : Nat) (us : List Value) (z : List UInt8) (h : StR K w p (us ++ [VS z])) :
    Calls Try.prog 40 #[ptr p] w fun e w' => e = .returned (I 0) ∧ StR K w' p (us ++ [VI (z.length : Int)]) ∧ Kept K w w' := by
  have hp := peek_some K w p _ h 0 (by simp)
  rw [getD_last] at hp
  have ta : ∀ w, (Instr.typeAssert (VS z) 64 82 true).run Try.prog w = .ok (.tuple #[VS z, .bool true]) w := fun w => run_typeAssert_hasB Try.underlying82 (by kernel_rfl) _ _ w
  have hm := mLenS (str z)
  have h5 := h.le
  rw [List.length_append, List.length_singleton] at h5
  go_enter Try.func40, Try.ntmps40
  go_wp2_with fail
  refine hp.mono ?_
  rintro e w1 ⟨rfl, rfl⟩
  go_wp2_with fail
  refine (strLenG z _).mono ?_
  rintro e w2 ⟨rfl, rfl⟩
  go_wp2_with fail
  refine (swap_any K w2 p _ h us.length 1 (by simp) (by omega) _ _).mono ?_
  rintro e w3 ⟨rfl, s3, k3⟩
  rw [take_but1] at s3
  go_wp2
  go_ret
  exact ⟨rfl, s3, k3⟩

set_option maxRecDepth 100000 in
set_option maxHeartbeats 2000000 in
theorem len_lst (K : Nat → Prop) (w : World) (p : Nat) (us : List Value) (x : TV) (tp : Option Addr) (h : StR K w p (us ++ [.iface 69 (.pointer tp)])) (rx : RV K w x (.iface 69 (.pointer tp))) (hc : cnt x ≤ 1000) :
    Calls Try.prog 40 #[ptr p] w fun e w' => e = .returned (I 0) ∧ StR K w' p (us ++ [VI (cnt x : Int)]) ∧ Kept K w w' := by
  have hp := peek_some K w p _ h 0 (by simp)
  rw [getD_last] at hp
  have ta : ∀ w, (Instr.typeAssert (.iface 69 (.pointer tp)) 64 82 true).run Try.prog w = .ok (.tuple #[.iface 69 (.pointer tp), .bool true]) w := fun w => run_typeAssert_hasB Try.underlying82 (by kernel_rfl) _ _ w
  have hm := mLenL tp
  have h5 := h.le
  rw [List.length_append, List.length_singleton] at h5
  go_enter Try.func40, Try.ntmps40
  go_wp2_with fail
  refine hp.mono ?_
  rintro e w1 ⟨rfl, rfl⟩
  go_wp2_with fail
  refine (listLen x K _ tp rx hc).mono ?_
  rintro e w2 ⟨rfl, rfl⟩
  go_wp2_with fail
  refine (swap_any K w2 p _ h us.length 1 (by simp) (by omega) _ _).mono ?_
  rintro e w3 ⟨rfl, s3, k3⟩
  rw [take_but1] at s3
  go_wp2
  go_ret
  exact ⟨rfl, s3, k3⟩

set_option maxRecDepth 100000 in
set_option maxHeartbeats 2000000 in
theorem len_pair (K : Nat → Prop) (w : World) (p : Nat) (us : List Value) (tp : Option Addr) (h : StR K w p (us ++ [.iface 89 (.pointer tp)])) :
    Calls Try.prog 40 #[ptr p] w fun e w' => e = .returned (I 0) ∧ StR K w' p (us ++ [VI 2]) ∧ Kept K w w' := by
  have hp := peek_some K w p _ h 0 (by simp)
  rw [getD_last] at hp
  have ta : ∀ w, (Instr.typeAssert (.iface 89 (.pointer tp)) 64 82 true).run Try.prog w = .ok (.tuple #[.iface 89 (.pointer tp), .bool true]) w := fun w => run_typeAssert_hasB Try.underlying82 (by kernel_rfl) _ _ w
  have hm := mLenP tp
  have h5 := h.le
  rw [List.length_append, List.length_singleton] at h5
  go_enter Try.func40, Try.ntmps40
  go_wp2_with fail
  refine hp.mono ?_
  rintro e w1 ⟨rfl, rfl⟩
  go_wp2_with fail
  refine (pairLen tp _).mono ?_
  rintro e w2 ⟨rfl, rfl⟩
  go_wp2_with fail
  refine (swap_any K w2 p _ h us.length 1 (by simp) (by omega) _ _).mono ?_
  rintro e w3 ⟨rfl, s3, k3⟩
  rw [take_but1] at s3
  go_wp2
  go_ret
  exact ⟨rfl, s3, k3⟩

set_option maxRecDepth 100000 in
set_option maxHeartbeats 2000000 in
theorem dup_none (K : Nat → Prop) (w : World) (p : Nat) (h : StR K w p []) :
    Calls Try.prog 38 #[ptr p] w fun e w' => e = .returned (I 4) ∧ w' = w := by
  have hp := peek_none K w p _ h 0 (by simp) (by omega)
  go_enter Try.func38, Try.ntmps38
  go_wp2_with fail
  refine hp.mono ?_
  rintro e w1 ⟨rfl, rfl⟩
  go_wp2
  go_ret
  exact ⟨rfl, rfl⟩

set_option maxRecDepth 100000 in
set_option maxHeartbeats 2000000 in
theorem dup_full (K : Nat → Prop) (w : World) (p : Nat) (us : List Value) (t : TypeId) (v : Value) (h : StR K w p (us ++ [.iface t v])) (hn : us.length = 4) :
    Calls Try.prog 38 #[ptr p] w fun e w' => e = .returned (I 3) ∧ w' = w := by
  have hp := peek_some K w p _ h 0 (by simp)
  rw [getD_last] at hp
  have hz : ∀ w, (binOp .eql 64 (.iface t v) .nilIface).run Try.prog w = .ok (.bool false) w := fun _ => by rfl
  obtain ⟨a, cap, hA⟩ := h
  obtain ⟨c0, c1, f0, f1, lp⟩ := hA.at0
  rw [List.length_append, List.length_singleton, hn] at c0
  clear hA
  go_enter Try.func38, Try.ntmps38
  go_wp2_with fail
  refine hp.mono ?_
  rintro e w1 ⟨rfl, rfl⟩
  go_wp2
  go_ret
  exact ⟨rfl, rfl⟩

set_option maxRecDepth 100000 in
set_option maxHeartbeats 2000000 in
theorem topInt_none (K : Nat → Prop) (w : World) (p : Nat) (h : StR K w p []) :
    Calls Try.prog 92 #[ptr p] w fun e w' => e = .returned (.tuple #[I 0, I 4]) ∧ w' = w := by
  have hp := peek_none K w p _ h 0 (by simp) (by omega)
  have ta : ∀ w, (Instr.typeAssert .nilIface 64 80 true).run Try.prog w = .ok (.tuple #[I 0, .bool false]) w := fun _ => by kernel_rfl
  obtain ⟨a, cap, hA⟩ := h
  obtain ⟨c0, c1, f0, f1, lp⟩ := hA.at0
  clear hA
  go_enter Try.func92, Try.ntmps92
  go_wp2_with fail
  refine hp.mono ?_
  rintro e w1 ⟨rfl, rfl⟩
  go_wp2
  go_ret2
  exact ⟨rfl, rfl⟩

set_option maxRecDepth 100000 in
set_option maxHeartbeats 2000000 in
theorem topInt_str (K : Nat → Prop) (w : World) (p : Nat) (us : List Value) (z : List UInt8) (h : StR K w p (us ++ [VS z])) :
    Calls Try.prog 92 #[ptr p] w fun e w' => e = .returned (.tuple #[I 0, I 2]) ∧ w' = w := by
  have hp := peek_some K w p _ h 0 (by simp)
  rw [getD_last] at hp
  have ta : ∀ w, (Instr.typeAssert (VS z) 64 80 true).run Try.prog w = .ok (.tuple #[I 0, .bool false]) w := fun _ => by kernel_rfl
  have h5 := h.le
  obtain ⟨a, cap, hA⟩ := h
  obtain ⟨c0, c1, f0, f1, lp⟩ := hA.at0
  rw [List.length_append, List.length_singleton] at c0 h5
  have i1 : ¬ ((us.length + 1 : Nat) : Int) < 1 := by omega
  clear hA
  go_enter Try.func92, Try.ntmps92
  go_wp2_with fail
  refine hp.mono ?_
  rintro e w1 ⟨rfl, rfl⟩
  go_wp2
  go_ret2
  exact ⟨rfl, rfl⟩

set_option maxRecDepth 100000 in
set_option maxHeartbeats 2000000 in
theorem topInt_lst (K : Nat → Prop) (w : World) (p : Nat) (us : List Value) (tp : Option Addr) (h : StR K w p (us ++ [.iface 69 (.pointer tp)])) :
    Calls Try.prog 92 #[ptr p] w fun e w' => e = .returned (.tuple #[I 0, I 2]) ∧ w' = w := by
  have hp := peek_some K w p _ h 0 (by simp)
  rw [getD_last] at hp
  have ta : ∀ w, (Instr.typeAssert (.iface 69 (.pointer tp)) 64 80 true).run Try.prog w = .ok (.tuple #[I 0, .bool false]) w := fun _ => by kernel_rfl
  have h5 := h.le
  obtain ⟨a, cap, hA⟩ := h
  obtain ⟨c0, c1, f0, f1, lp⟩ := hA.at0
  rw [List.length_append, List.length_singleton] at c0 h5
  have i1 : ¬ ((us.length + 1 : Nat) : Int) < 1 := by omega
  clear hA
  go_enter Try.func92, Try.ntmps92
  go_wp2_with fail
  refine hp.mono ?_
  rintro e w1 ⟨rfl, rfl⟩
  go_wp2
  go_ret2
  exact ⟨rfl, rfl⟩

set_option maxRecDepth 100000 in
set_option maxHeartbeats 2000000 in
theorem topInt_pair (K : Nat → Prop) (w : World) (p : Nat) (us : List Value) (tp : Option Addr) (h : StR K w p (us ++ [.iface 89 (.pointer tp)])) :
    Calls Try.prog 92 #[ptr p] w fun e w' => e = .returned (.tuple #[I 0, I 2]) ∧ w' = w := by
  have hp := peek_some K w p _ h 0 (by simp)
  rw [getD_last] at hp
  have ta : ∀ w, (Instr.typeAssert (.iface 89 (.pointer tp)) 64 80 true).run Try.prog w = .ok (.tuple #[I 0, .bool false]) w := fun _ => by kernel_rfl
  have h5 := h.le
  obtain ⟨a, cap, hA⟩ := h
  obtain ⟨c0, c1, f0, f1, lp⟩ := hA.at0
  rw [List.length_append, List.length_singleton] at c0 h5
  have i1 : ¬ ((us.length + 1 : Nat) : Int) < 1 := by omega
  clear hA
  go_enter Try.func92, Try.ntmps92
  go_wp2_with fail
  refine hp.mono ?_
  rintro e w1 ⟨rfl, rfl⟩
  go_wp2
  go_ret2
  exact ⟨rfl, rfl⟩

set_option maxRecDepth 100000 in
set_option maxHeartbeats 2000000 in
theorem pushI_full (K : Nat → Prop) (w : World) (p : Nat) (vs : List Value) (h : StR K w p vs) (hn : vs.length = 5) (n : Int) :
    Calls Try.prog 62 #[ptr p, I 1, I n, S []] w fun e w' => e = .returned (I 3) ∧ w' = w := by
  obtain ⟨a, cap, hA⟩ := h
  obtain ⟨c0, c1, f0, f1, lp⟩ := hA.at0
  rw [hn] at c0
  clear hA
  have hz' : ¬ (6 : Int) < ((str []).size : Int) := by rw [str_size]; decide
  go_enter Try.func62, Try.ntmps62
  go_wp2
  go_ret
  exact ⟨rfl, rfl⟩

set_option maxRecDepth 100000 in
set_option maxHeartbeats 2000000 in
theorem pushS_full (K : Nat → Prop) (w : World) (p : Nat) (vs : List Value) (h : StR K w p vs) (hn : vs.length = 5) (z : List UInt8) (hz : z.length ≤ 6) :
    Calls Try.prog 62 #[ptr p, I 2, I 0, S z] w fun e w' => e = .returned (I 3) ∧ w' = w := by
  obtain ⟨a, cap, hA⟩ := h
  obtain ⟨c0, c1, f0, f1, lp⟩ := hA.at0
  rw [hn] at c0
  clear hA
  have hz' : ¬ (6 : Int) < ((str z).size : Int) := by rw [str_size]; omega
  go_enter Try.func62, Try.ntmps62
  go_wp2
  go_ret
  exact ⟨rfl, rfl⟩

set_option maxRecDepth 100000 in
set_option maxHeartbeats 2000000 in
theorem pushL_full (K : Nat → Prop) (w : World) (p : Nat) (vs : List Value) (h : StR K w p vs) (hn : vs.length = 5)  :
    Calls Try.prog 62 #[ptr p, I 3, I 0, S []] w fun e w' => e = .returned (I 3) ∧ w' = w := by
  obtain ⟨a, cap, hA⟩ := h
  obtain ⟨c0, c1, f0, f1, lp⟩ := hA.at0
  rw [hn] at c0
  clear hA
  have hz' : ¬ (6 : Int) < ((str []).size : Int) := by rw [str_size]; decide
  go_enter Try.func62, Try.ntmps62
  go_wp2
  go_ret
  exact ⟨rfl, rfl⟩
end Go.Proofs.Qxb6500470a
