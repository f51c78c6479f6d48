import Derived.Test.Qxb6500470aXt9
import Derived.Recover
namespace Go.Proofs.Qxb6500470a
open Go.RowKit
set_option maxRecDepth 100000 in
set_option maxHeartbeats 4000000 in
theorem rescue_idle (w : World) (p : Nat) (x kp : Value) (ea : Addr) (hb : Blk w p #[x, .bool true] 62) :
    CallsD Try.prog 80 #[ptr p, kp, .pointer (some ea)] .returning w fun e u' w' => e = .returned (.tuple #[]) ∧ u' = .returning ∧ w' = w.setCell ⟨p, 1, none⟩ (.bool false) := by
  have c1 := hb.cell 1
  have f1 := hb.frozen 1
  have hq : ∀ w, (binOp .eql 20 .nilIface .nilIface).run Try.prog w = .ok (.bool true) w := fun _ => by kernel_rfl
  refine callsD_of_wpS Try.func80 rfl fun c₀ cs hu => ?_
  apply wpS_seq
  refine wpS_of_wp ?_
  simp only [Try.ntmps80, List.size_toArray, List.length_cons, List.length_nil, Nat.reduceAdd, Nat.reduceSub, Array.replicate_succ, Array.replicate_zero, List.push_toArray, List.append_toArray, List.nil_append, List.cons_append]
  go_wp2
  simp only [Exit.thenS]
  apply wpS_seq
  apply wpS_region
  simp [wpOpsS, go_sem, recoverD, hu, Exit.thenS]
  refine wpS_of_wp ?_
  go_wp2
  exact ⟨rfl, .returning, by cases c₀; simp_all, _, results_none rfl _ _ _, rfl, rfl, rfl⟩
set_option maxRecDepth 100000 in
set_option maxHeartbeats 4000000 in
theorem rescue_own (w : World) (p eb : Nat) (x y : Value) (ka : Option Addr) (kn kc : Nat) (k : Int) (hb : Blk w p #[x, .bool true] 62) (he : Blk w eb #[y] 26) (hne : eb ≠ p) (older : List PanicEntry) :
    CallsD Try.prog 80 #[ptr p, .slice ka kn kc, ptr eb] (.panicking ({ v := .iface 26 (I k), recovered := false } :: older)) w fun e u' w' =>
      e = .returned (.tuple #[]) ∧ u' = .panicking ({ v := .iface 26 (I k), recovered := true } :: older) ∧ w' = ((w.setCell ⟨p, 1, none⟩ (.bool false)).setCell ⟨p, 0, none⟩ (.slice ka kn kc)).setCell ⟨eb, 0, none⟩ (I k) := by
  have c1 := hb.cell 1
  have f1 := hb.frozen 1
  have b1 : Blk (w.setCell ⟨p, 1, none⟩ (.bool false)) p #[x, .bool false] 62 := by simpa using hb.set (i := 1) (.bool false)
  have d0 := b1.cell 0
  have g0 := b1.frozen 0
  have e1 : Blk ((w.setCell ⟨p, 1, none⟩ (.bool false)).setCell ⟨p, 0, none⟩ (.slice ka kn kc)) eb #[y] 26 := (he.other (a := ⟨p, 1, none⟩) hne _).other (a := ⟨p, 0, none⟩) hne _
  have ec := e1.cell 0
  have ef := e1.frozen 0
  have hq : ∀ w, (binOp .eql 20 (.iface 26 (I k)) .nilIface).run Try.prog w = .ok (.bool false) w := fun _ => by kernel_rfl
  have ta : ∀ w, (Instr.typeAssert (.iface 26 (I k)) 20 26 true).run Try.prog w = .ok (.tuple #[I k, .bool true]) w := fun _ => by kernel_rfl
  refine callsD_of_wpS Try.func80 rfl fun c₀ cs hu => ?_
  apply wpS_seq
  refine wpS_of_wp ?_
  simp only [Try.ntmps80, List.size_toArray, List.length_cons, List.length_nil, Nat.reduceAdd, Nat.reduceSub, Array.replicate_succ, Array.replicate_zero, List.push_toArray, List.append_toArray, List.nil_append, List.cons_append]
  go_wp2
  simp only [Exit.thenS]
  apply wpS_seq
  apply wpS_region
  simp [wpOpsS, go_sem, recoverD, hu, Exit.thenS]
  refine wpS_of_wp ?_
  go_wp2
  exact ⟨rfl, _, rfl, _, results_none rfl _ _ _, rfl, rfl, rfl⟩
set_option maxRecDepth 100000 in
set_option maxHeartbeats 4000000 in
theorem rescue_run (w : World) (p eb : Nat) (x y : Value) (ka : Option Addr) (kn kc : Nat) (t : TypeId) (u : Value) (ht : t = 15 ∨ t = 10) (hb : Blk w p #[x, .bool true] 62) (he : Blk w eb #[y] 26) (hne : eb ≠ p) (older : List PanicEntry) :
    CallsD Try.prog 80 #[ptr p, .slice ka kn kc, ptr eb] (.panicking ({ v := .iface t u, recovered := false } :: older)) w fun e u' w' =>
      e = .returned (.tuple #[]) ∧ u' = .panicking ({ v := .iface t u, recovered := true } :: older) ∧ w' = ((w.setCell ⟨p, 1, none⟩ (.bool false)).setCell ⟨p, 0, none⟩ (.slice ka kn kc)).setCell ⟨eb, 0, none⟩ (I 5) := by
  have c1 := hb.cell 1
  have f1 := hb.frozen 1
  have b1 : Blk (w.setCell ⟨p, 1, none⟩ (.bool false)) p #[x, .bool false] 62 := by simpa using hb.set (i := 1) (.bool false)
  have d0 := b1.cell 0
  have g0 := b1.frozen 0
  have e1 : Blk ((w.setCell ⟨p, 1, none⟩ (.bool false)).setCell ⟨p, 0, none⟩ (.slice ka kn kc)) eb #[y] 26 := (he.other (a := ⟨p, 1, none⟩) hne _).other (a := ⟨p, 0, none⟩) hne _
  have ec := e1.cell 0
  have ef := e1.frozen 0
  have hq : ∀ w, (binOp .eql 20 (.iface t u) .nilIface).run Try.prog w = .ok (.bool false) w := fun _ => by kernel_rfl
  have ta : ∀ w, (Instr.typeAssert (.iface t u) 20 26 true).run Try.prog w = .ok (.tuple #[I 0, .bool false]) w := fun _ => by rcases ht with rfl | rfl <;> kernel_rfl
  have tb : ∀ w, (Instr.typeAssert (.iface t u) 20 132 true).run Try.prog w = .ok (.tuple #[.iface t u, .bool true]) w := fun w => by
    rcases ht with rfl | rfl
    · exact run_typeAssert_hasB Try.underlying132 (by kernel_rfl) _ _ w
    · exact run_typeAssert_hasB Try.underlying132 (by kernel_rfl) _ _ w
  refine callsD_of_wpS Try.func80 rfl fun c₀ cs hu => ?_
  apply wpS_seq
  refine wpS_of_wp ?_
  simp only [Try.ntmps80, List.size_toArray, List.length_cons, List.length_nil, Nat.reduceAdd, Nat.reduceSub, Array.replicate_succ, Array.replicate_zero, List.push_toArray, List.append_toArray, List.nil_append, List.cons_append]
  go_wp2
  simp only [Exit.thenS]
  apply wpS_seq
  apply wpS_region
  simp [wpOpsS, go_sem, recoverD, hu, Exit.thenS]
  refine wpS_of_wp ?_
  go_wp2
  exact ⟨rfl, _, rfl, _, results_none rfl _ _ _, rfl, rfl, rfl⟩
end Go.Proofs.Qxb6500470a
