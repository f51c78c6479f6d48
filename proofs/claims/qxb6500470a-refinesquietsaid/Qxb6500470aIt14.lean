import Derived.Test.Qxb6500470aIt13
namespace Go.Proofs.Qxb6500470a
open Go.RowKit Go.Shelf
attribute [local go_sem] Oper.semAt_some
set_option maxRecDepth 100000 in
set_option maxHeartbeats 2000000 in
theorem fold_none (K : Nat → Prop) (w : World) (p : Nat) (h : StR K w p []) :
    Calls Try.prog 43 #[ptr p] w fun e w' => e = .returned (I 4) ∧ Below w.heap.size w w' := by
  have hB0 : Below w.heap.size w (w.alloc (.cells #[I 0] 26)) := (Below.refl _ _).alloc (Nat.le_refl _) _
  have hp0 := peek_none K _ p _ (h.later hB0) 0 (by simp) (by omega)
  have ta : ∀ w, (Instr.typeAssert .nilIface 64 75 true).run Try.prog w = .ok (.tuple #[.nilIface, .bool false]) w := fun _ => by kernel_rfl
  have hl := lack_under K _ p _ (h.later hB0) 1 (by simp)
  refine (callsIn_wide (n := 7)).1 ?_
  refine callsIn_of_wp_marks Try.func43 rfl trivial ?_ rfl
  simp only [Try.ntmps43, List.size_toArray, List.length_cons, List.length_nil, Nat.reduceAdd, Nat.reduceSub, Array.replicate_succ, Array.replicate_zero, List.push_toArray, List.append_toArray, List.nil_append, List.cons_append]
  gi_wp2_with fail
  refine ⟨trivial, (callsIn_wide.2 hp0).mono ?_⟩
  rintro e w0 ⟨rfl, hw0⟩
  rw [hw0]
  clear hw0 w0
  gi_wp2_with fail
  refine ⟨trivial, (callsIn_wide.2 hl).mono ?_⟩
  rintro e w0 ⟨rfl, hw0⟩
  rw [hw0]
  clear hw0 w0
  gi_wp2
  exact ⟨_, by simp [results, Try.results43, go_sem], rfl, (Below.refl _ _).alloc (Nat.le_refl _) _⟩
set_option maxRecDepth 100000 in
set_option maxHeartbeats 2000000 in
theorem fold_int (K : Nat → Prop) (w : World) (p : Nat) (us : List Value) (n : Int) (h : StR K w p (us ++ [VI n])) :
    Calls Try.prog 43 #[ptr p] w fun e w' => e = .returned (I 5) ∧ Below w.heap.size w w' := by
  have hB0 : Below w.heap.size w (w.alloc (.cells #[I 0] 26)) := (Below.refl _ _).alloc (Nat.le_refl _) _
  have hp0 := peek_some K _ p _ (h.later hB0) 0 (by simp)
  rw [getD_last] at hp0
  have ta : ∀ w, (Instr.typeAssert (VI n) 64 75 true).run Try.prog w = .ok (.tuple #[.nilIface, .bool false]) w := fun w => run_typeAssert_lacksB Try.underlying75 (by kernel_rfl) (by kernel_rfl) _ _ w
  have hl := lack_cap K _ p _ (h.later hB0) 1 (by simp)
  refine (callsIn_wide (n := 7)).1 ?_
  refine callsIn_of_wp_marks Try.func43 rfl trivial ?_ rfl
  simp only [Try.ntmps43, List.size_toArray, List.length_cons, List.length_nil, Nat.reduceAdd, Nat.reduceSub, Array.replicate_succ, Array.replicate_zero, List.push_toArray, List.append_toArray, List.nil_append, List.cons_append]
  gi_wp2_with fail
  refine ⟨trivial, (callsIn_wide.2 hp0).mono ?_⟩
  rintro e w0 ⟨rfl, hw0⟩
  rw [hw0]
  clear hw0 w0
  gi_wp2_with fail
  refine ⟨trivial, (callsIn_wide.2 hl).mono ?_⟩
  rintro e w0 ⟨rfl, hw0⟩
  rw [hw0]
  clear hw0 w0
  gi_wp2
  exact ⟨_, by simp [results, Try.results43, go_sem], rfl, (Below.refl _ _).alloc (Nat.le_refl _) _⟩
set_option maxRecDepth 100000 in
set_option maxHeartbeats 2000000 in
theorem fold_str (K : Nat → Prop) (w : World) (p : Nat) (us : List Value) (z : List UInt8) (h : StR K w p (us ++ [VS z])) :
    Calls Try.prog 43 #[ptr p] w fun e w' => e = .returned (I 5) ∧ Below w.heap.size w w' := by
  have hB0 : Below w.heap.size w (w.alloc (.cells #[I 0] 26)) := (Below.refl _ _).alloc (Nat.le_refl _) _
  have hp0 := peek_some K _ p _ (h.later hB0) 0 (by simp)
  rw [getD_last] at hp0
  have ta : ∀ w, (Instr.typeAssert (VS z) 64 75 true).run Try.prog w = .ok (.tuple #[.nilIface, .bool false]) w := fun w => run_typeAssert_lacksB Try.underlying75 (by kernel_rfl) (by kernel_rfl) _ _ w
  have hl := lack_cap K _ p _ (h.later hB0) 1 (by simp)
  refine (callsIn_wide (n := 7)).1 ?_
  refine callsIn_of_wp_marks Try.func43 rfl trivial ?_ rfl
  simp only [Try.ntmps43, List.size_toArray, List.length_cons, List.length_nil, Nat.reduceAdd, Nat.reduceSub, Array.replicate_succ, Array.replicate_zero, List.push_toArray, List.append_toArray, List.nil_append, List.cons_append]
  gi_wp2_with fail
  refine ⟨trivial, (callsIn_wide.2 hp0).mono ?_⟩
  rintro e w0 ⟨rfl, hw0⟩
  rw [hw0]
  clear hw0 w0
  gi_wp2_with fail
  refine ⟨trivial, (callsIn_wide.2 hl).mono ?_⟩
  rintro e w0 ⟨rfl, hw0⟩
  rw [hw0]
  clear hw0 w0
  gi_wp2
  exact ⟨_, by simp [results, Try.results43, go_sem], rfl, (Below.refl _ _).alloc (Nat.le_refl _) _⟩
set_option maxRecDepth 100000 in
set_option maxHeartbeats 2000000 in
theorem fold_nil (K : Nat → Prop) (w : World) (p : Nat) (us : List Value) (h : StR K w p (us ++ [VL])) :
    Calls Try.prog 43 #[ptr p] w fun e w' => e = .returned (I 8) ∧ Below w.heap.size w w' := by
  have hB0 : Below w.heap.size w (w.alloc (.cells #[I 0] 26)) := (Below.refl _ _).alloc (Nat.le_refl _) _
  have hp0 := peek_some K _ p _ (h.later hB0) 0 (by simp)
  rw [getD_last] at hp0
  have ta : ∀ w, (Instr.typeAssert (.iface 69 (.pointer none)) 64 75 true).run Try.prog w = .ok (.tuple #[.iface 69 (.pointer none), .bool true]) w := fun w => run_typeAssert_hasB Try.underlying75 (by kernel_rfl) _ _ w
  have tb : ∀ w, (Instr.typeAssert (.iface 69 (.pointer none)) 64 82 false).run Try.prog w = .ok (.iface 69 (.pointer none)) w := fun _ => by kernel_rfl
  have hmL := mLenL none
  have LN := listLen .nil K (w.alloc (.cells #[I 0] 26)) none rfl (by simp [cnt])
  refine (callsIn_wide (n := 7)).1 ?_
  refine callsIn_of_wp_marks Try.func43 rfl trivial ?_ rfl
  simp only [Try.ntmps43, List.size_toArray, List.length_cons, List.length_nil, Nat.reduceAdd, Nat.reduceSub, Array.replicate_succ, Array.replicate_zero, List.push_toArray, List.append_toArray, List.nil_append, List.cons_append]
  gi_wp2_with fail
  refine ⟨trivial, (callsIn_wide.2 hp0).mono ?_⟩
  rintro e w0 ⟨rfl, hw0⟩
  rw [hw0]
  clear hw0 w0
  gi_wp2_with fail
  refine ⟨trivial, (callsIn_wide.2 LN).mono ?_⟩
  rintro e w0 ⟨rfl, hw0⟩
  rw [hw0]
  clear hw0 w0
  gi_wp2
  exact ⟨_, by simp [results, Try.results43, go_sem], rfl, (Below.refl _ _).alloc (Nat.le_refl _) _⟩
set_option maxRecDepth 100000 in
set_option maxHeartbeats 2000000 in
theorem find_under (K : Nat → Prop) (w : World) (p : Nat) (us : List Value) (h : StR K w p us) (hu : us.length < 2) :
    Calls Try.prog 39 #[ptr p] w fun e w' => e = .returned (I 4) ∧ Below w.heap.size w w' := by
  have hp0 := peek_none K w p _ h 1 (by omega) (by omega)
  have ta : ∀ w, (Instr.typeAssert .nilIface 64 75 true).run Try.prog w = .ok (.tuple #[.nilIface, .bool false]) w := fun _ => by kernel_rfl
  have hl := lack_under K w p _ h 2 hu
  refine (callsIn_wide (n := 7)).1 ?_
  refine callsIn_of_wp_marks Try.func39 rfl trivial ?_ rfl
  simp only [Try.ntmps39, List.size_toArray, List.length_cons, List.length_nil, Nat.reduceAdd, Nat.reduceSub, Array.replicate_succ, Array.replicate_zero, List.push_toArray, List.append_toArray, List.nil_append, List.cons_append]
  gi_wp2_with fail
  refine ⟨trivial, (callsIn_wide.2 hp0).mono ?_⟩
  rintro e w0 ⟨rfl, hw0⟩
  rw [hw0]
  clear hw0 w0
  gi_wp2_with fail
  refine ⟨trivial, (callsIn_wide.2 hl).mono ?_⟩
  rintro e w0 ⟨rfl, hw0⟩
  rw [hw0]
  clear hw0 w0
  gi_wp2
  exact ⟨_, results_tmp rfl _ _ _, rfl, Below.refl _ _⟩
set_option maxRecDepth 100000 in
set_option maxHeartbeats 2000000 in
theorem find_int (K : Nat → Prop) (w : World) (p : Nat) (us : List Value) (n : Int) (v : Value) (h : StR K w p (us ++ [VI n, v])) :
    Calls Try.prog 39 #[ptr p] w fun e w' => e = .returned (I 5) ∧ Below w.heap.size w w' := by
  have hp0 := peek_some K w p _ h 1 (by simp)
  rw [show (us ++ [VI n, v]).getD ((us ++ [VI n, v]).length - 1 - 1) .nilIface = (VI n) from by simp] at hp0
  have ta : ∀ w, (Instr.typeAssert (VI n) 64 75 true).run Try.prog w = .ok (.tuple #[.nilIface, .bool false]) w := fun w => run_typeAssert_lacksB Try.underlying75 (by kernel_rfl) (by kernel_rfl) _ _ w
  have hl := lack_cap K w p _ h 2 (by simp)
  refine (callsIn_wide (n := 7)).1 ?_
  refine callsIn_of_wp_marks Try.func39 rfl trivial ?_ rfl
  simp only [Try.ntmps39, List.size_toArray, List.length_cons, List.length_nil, Nat.reduceAdd, Nat.reduceSub, Array.replicate_succ, Array.replicate_zero, List.push_toArray, List.append_toArray, List.nil_append, List.cons_append]
  gi_wp2_with fail
  refine ⟨trivial, (callsIn_wide.2 hp0).mono ?_⟩
  rintro e w0 ⟨rfl, hw0⟩
  rw [hw0]
  clear hw0 w0
  gi_wp2_with fail
  refine ⟨trivial, (callsIn_wide.2 hl).mono ?_⟩
  rintro e w0 ⟨rfl, hw0⟩
  rw [hw0]
  clear hw0 w0
  gi_wp2
  exact ⟨_, results_tmp rfl _ _ _, rfl, Below.refl _ _⟩
set_option maxRecDepth 100000 in
set_option maxHeartbeats 2000000 in
theorem find_str (K : Nat → Prop) (w : World) (p : Nat) (us : List Value) (z : List UInt8) (v : Value) (h : StR K w p (us ++ [VS z, v])) :
    Calls Try.prog 39 #[ptr p] w fun e w' => e = .returned (I 5) ∧ Below w.heap.size w w' := by
  have hp0 := peek_some K w p _ h 1 (by simp)
  rw [show (us ++ [VS z, v]).getD ((us ++ [VS z, v]).length - 1 - 1) .nilIface = (VS z) from by simp] at hp0
  have ta : ∀ w, (Instr.typeAssert (VS z) 64 75 true).run Try.prog w = .ok (.tuple #[.nilIface, .bool false]) w := fun w => run_typeAssert_lacksB Try.underlying75 (by kernel_rfl) (by kernel_rfl) _ _ w
  have hl := lack_cap K w p _ h 2 (by simp)
  refine (callsIn_wide (n := 7)).1 ?_
  refine callsIn_of_wp_marks Try.func39 rfl trivial ?_ rfl
  simp only [Try.ntmps39, List.size_toArray, List.length_cons, List.length_nil, Nat.reduceAdd, Nat.reduceSub, Array.replicate_succ, Array.replicate_zero, List.push_toArray, List.append_toArray, List.nil_append, List.cons_append]
  gi_wp2_with fail
  refine ⟨trivial, (callsIn_wide.2 hp0).mono ?_⟩
  rintro e w0 ⟨rfl, hw0⟩
  rw [hw0]
  clear hw0 w0
  gi_wp2_with fail
  refine ⟨trivial, (callsIn_wide.2 hl).mono ?_⟩
  rintro e w0 ⟨rfl, hw0⟩
  rw [hw0]
  clear hw0 w0
  gi_wp2
  exact ⟨_, results_tmp rfl _ _ _, rfl, Below.refl _ _⟩
end Go.Proofs.Qxb6500470a
