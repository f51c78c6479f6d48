import Derived.Test.Qxb6500470aCal4
namespace Go.Proofs.Qxb6500470a
open Go.RowKit

theorem take_but1 (vs : List Value) (v : Value) : (vs ++ [v]).take vs.length = vs := List.take_left' rfl
theorem take_but2 (vs : List Value) (u v : Value) : (vs ++ [u, v]).take vs.length = vs := List.take_left' rfl

set_option maxRecDepth 100000 in
set_option maxHeartbeats 1000000 in
theorem neg_int (K : Nat → Prop) (w : World) (p : Nat) (vs : List Value) (n : Int) (h : StR K w p (vs ++ [VI n])) :
    Calls Try.prog 41 #[ptr p] w fun e w' => e = .returned (I 0) ∧ StR K w' p (vs ++ [VI (wrap64 (-n))]) ∧ Kept K w w' := by
  have hp := peek_some K w p _ h 0 (by simp)
  rw [getD_last] at hp
  have ta : ∀ w, (Instr.typeAssert (VI n) 64 86 true).run Try.prog w = .ok (.tuple #[VI n, .bool true]) w := fun _ => by kernel_rfl
  have hm := mNegI n
  go_enter Try.func41, Try.ntmps41
  go_wp2_with fail
  refine hp.mono ?_
  rintro e w1 ⟨rfl, rfl⟩
  go_wp2_with fail
  refine (intNeg n w1).mono ?_
  rintro e w2 ⟨rfl, rfl⟩
  have h5 : (vs ++ [VI n]).length ≤ 5 := by obtain ⟨_, _, hA⟩ := h; exact hA.le
  rw [List.length_append, List.length_singleton] at h5
  go_wp2_with fail
  refine (swap_any K w2 p _ h vs.length 1 (by simp) (by omega) _ _).mono ?_
  rintro e w3 ⟨rfl, s3, k3⟩
  rw [take_but1] at s3
  go_wp2
  go_ret
  exact ⟨rfl, s3, k3⟩
set_option maxRecDepth 100000 in
set_option maxHeartbeats 1000000 in
theorem len_nil (K : Nat → Prop) (w : World) (p : Nat) (vs : List Value) (h : StR K w p (vs ++ [VL])) :
    Calls Try.prog 40 #[ptr p] w fun e w' => e = .returned (I 0) ∧ StR K w' p (vs ++ [VI 0]) ∧ Kept K w w' := by
  have hp := peek_some K w p _ h 0 (by simp)
  rw [getD_last] at hp
  have ta : ∀ w, (Instr.typeAssert VL 64 82 true).run Try.prog w = .ok (.tuple #[VL, .bool true]) w := fun _ => by kernel_rfl
  have hm := mLenL none
  go_enter Try.func40, Try.ntmps40
  go_wp2_with fail
  refine hp.mono ?_
  rintro e w1 ⟨rfl, rfl⟩
  go_wp2_with fail
  refine (nilLen w1).mono ?_
  rintro e w2 ⟨rfl, rfl⟩
  have h5 : (vs ++ [VL]).length ≤ 5 := by obtain ⟨_, _, hA⟩ := h; exact hA.le
  rw [List.length_append, List.length_singleton] at h5
  go_wp2_with fail
  refine (swap_any K w2 p _ h vs.length 1 (by simp) (by omega) _ _).mono ?_
  rintro e w3 ⟨rfl, s3, k3⟩
  rw [take_but1] at s3
  go_wp2
  go_ret
  exact ⟨rfl, s3, k3⟩
set_option maxRecDepth 100000 in
set_option maxHeartbeats 1000000 in
theorem dup_any (K : Nat → Prop) (w : World) (p : Nat) (vs : List Value) (t : TypeId) (v : Value) (h : StR K w p (vs ++ [.iface t v])) (hn : vs.length < 4) :
    Calls Try.prog 38 #[ptr p] w fun e w' => e = .returned (I 0) ∧ StR K w' p (vs ++ [.iface t v, .iface t v]) ∧ Kept K w w' := by
  have hp := peek_some K w p _ h 0 (by simp)
  rw [getD_last] at hp
  have hz : ∀ w, (binOp .eql 64 (.iface t v) .nilIface).run Try.prog w = .ok (.bool false) w := fun _ => by rfl
  obtain ⟨a, cap, hA⟩ := h
  obtain ⟨c0, c1, f0, f1, lp⟩ := hA.at0
  rw [List.length_append, List.length_singleton] at c0
  have h5 : ¬ (5 : Int) ≤ ((vs.length + 1 : Nat) : Int) := by omega
  have HA : Hid _ := hA
  clear hA
  go_enter Try.func38, Try.ntmps38
  go_wp2_with fail
  refine hp.mono ?_
  rintro e w1 ⟨rfl, rfl⟩
  go_wp2_with fail
  refine (swap_any K w1 p _ ⟨a, cap, HA.out⟩ (vs.length + 1) 0 (by simp) (by omega) _ _).mono ?_
  rintro e w3 ⟨rfl, s3, k3⟩
  rw [List.take_of_length_le (by simp)] at s3
  go_wp2
  go_ret
  exact ⟨rfl, by simpa using s3, k3⟩
set_option maxRecDepth 100000 in
set_option maxHeartbeats 1000000 in
theorem fits_int (n : Int) (h1 : -9223372036854775808 ≤ n) (h2 : n ≤ 9223372036854775807) (w : World) : Calls Try.prog 57 #[VI n] w fun e w' => e = .returned (.bool true) ∧ Below w.heap.size w w' := by
  have hm := mShowI n
  have hl := itoa_len n h1 h2
  rw [← str_size] at hl
  have hl' : ((str (itoa n)).size : Int) ≤ 30 := by omega
  go_enter Try.func57, Try.ntmps57
  go_wp2_with fail
  refine (intShow n h1 h2 w).mono ?_
  rintro e w1 ⟨rfl, b1⟩
  go_wp2
  go_ret
  exact ⟨rfl, b1⟩
set_option maxRecDepth 100000 in
set_option maxHeartbeats 1000000 in
theorem plus_int (n m : Int) (h1 : -9223372036854775808 ≤ wrap64 (n + m)) (h2 : wrap64 (n + m) ≤ 9223372036854775807) (w : World) : Calls Try.prog 55 #[VI n, VI m] w fun e w' => e = .returned (.tuple #[VI (wrap64 (n + m)), I 0]) ∧ Below w.heap.size w w' := by
  have hm := mAddI n
  have ta : ∀ w, (Instr.typeAssert (VI n) 64 105 true).run Try.prog w = .ok (.tuple #[VI n, .bool true]) w := fun _ => by kernel_rfl
  have hA := intAdd n m
  have hF := fits_int _ h1 h2
  generalize wrap64 (n + m) = k at *
  go_enter Try.func55, Try.ntmps55
  go_wp2_with fail
  refine (hA w).mono ?_
  rintro e w1 ⟨rfl, rfl⟩
  go_wp2_with fail
  refine (hF w1).mono ?_
  rintro e w2 ⟨rfl, b2⟩
  go_wp2
  go_ret2
  exact ⟨rfl, b2⟩
set_option maxRecDepth 100000 in
set_option maxHeartbeats 1000000 in
theorem add_int (K : Nat → Prop) (w : World) (p : Nat) (vs : List Value) (n m : Int) (h : StR K w p (vs ++ [VI n, VI m])) :
    Calls Try.prog 36 #[ptr p] w fun e w' => e = .returned (I 0) ∧ StR K w' p (vs ++ [VI (wrap64 (n + m))]) ∧ Kept K w w' := by
  have hp := peek_some K w p _ h 0 (by simp)
  rw [getD_last1] at hp
  have hp1 := peek_some K w p _ h 1 (by simp)
  rw [getD_last2] at hp1
  have hP := plus_int n m (w64_bounds _).1 (w64_bounds _).2
  generalize wrap64 (n + m) = k at *
  have h0 := h
  obtain ⟨a, cap, hA⟩ := h
  obtain ⟨c0, c1, f0, f1, lp⟩ := hA.at0
  have h5 := hA.le
  rw [List.length_append] at c0 h5
  have h2 : ¬ ((vs.length + [VI n, VI m].length : Nat) : Int) < 2 := by simp; omega
  have ks := hA.ks
  clear hA
  go_enter Try.func36, Try.ntmps36
  go_wp2_with fail
  refine hp1.mono ?_
  rintro e w1 ⟨rfl, rfl⟩
  go_wp2_with fail
  refine hp.mono ?_
  rintro e w2 ⟨rfl, rfl⟩
  go_wp2_with fail
  refine (hP w2).mono ?_
  rintro e w3 ⟨rfl, b3⟩
  have s3 := StR.later h0 b3
  have k3 : Kept K w2 w3 := Kept.of_below b3 ks
  go_wp2_with fail
  refine (swap_any K w3 p _ s3 vs.length 2 (by simp) (by simp at h5; omega) _ _).mono ?_
  rintro e w4 ⟨rfl, s4, k4⟩
  rw [take_but2] at s4
  go_wp2
  go_ret
  exact ⟨rfl, s4, k3.trans k4⟩
end Go.Proofs.Qxb6500470a
