import Derived.Test.Qxb6500470aXt1
namespace Go.Proofs.Qxb6500470a
open Go.RowKit
theorem rtp (i c : Option TypeId) (a : TypeId) (m : String) : ∃ o, ∀ (w : World), (runtimePanic (α := Value) (.typeAssertion i c a m)).run Try.prog w = .halt (.panic (.iface 15 (ptr w.heap.size))) (w.alloc o) := by
  refine ⟨.cells (Value.agg #[(match i with | some t => typeHandle Try.prog t | none => .pointer none), (match c with | some t => typeHandle Try.prog t | none => .pointer none), typeHandle Try.prog a, strVal m]).cells 146, fun w => ?_⟩
  have he : ∀ w, (elemOf 15).run Try.prog w = .ok 146 w := fun _ => by kernel_rfl
  simp [runtimePanic, go_sem, he, newVar, newRow]
  rfl
/-- What a failing bare assertion does: a new cell, the run time's own panic. -/
def TaP (w : World → Result Value) : Prop := ∃ o, ∀ W, w W = .halt (.panic (.iface 15 (ptr W.heap.size))) (W.alloc o)
theorem ta_nil_i {asserted xT : TypeId} {want : Array (String × TypeId)} (hu : Try.prog.underlying asserted = some (.interface want)) :
    TaP (fun w => (Instr.typeAssert .nilIface xT asserted false).run Try.prog w) := by
  obtain ⟨o, ho⟩ := rtp none none asserted ""
  exact ⟨o, fun w => by simp [Instr.typeAssert, run_underlying hu, ho]⟩
theorem ta_lack_i {t asserted xT : TypeId} {want : Array (String × TypeId)} (hu : Try.prog.underlying asserted = some (.interface want)) (h : (Try.prog.info? t).map (fun i => (lacking want i.methods).isEmpty) = some false) (v : Value) :
    TaP (fun w => (Instr.typeAssert (.iface t v) xT asserted false).run Try.prog w) := by
  obtain ⟨i, hi, hl⟩ := Option.map_eq_some_iff.1 h
  obtain ⟨m, hm⟩ := missingMethod_some (want := want) (got := i.methods) (fun e => by rw [e] at hl; cases hl)
  obtain ⟨o, ho⟩ := rtp none (some t) asserted m
  exact ⟨o, fun w => by simp [Instr.typeAssert, run_underlying hu, typeInfo, hi, hm, ho]⟩
theorem ta_nil_c (xT : TypeId) : TaP (fun w => (Instr.typeAssert .nilIface xT 80 false).run Try.prog w) := by
  obtain ⟨o, ho⟩ := rtp (some xT) none 80 ""
  exact ⟨o, fun w => by simp [Instr.typeAssert, run_underlying Try.underlying80, ho]⟩
theorem ta_other_c (xT t : TypeId) (v : Value) (h : t ≠ 80) : TaP (fun w => (Instr.typeAssert (.iface t v) xT 80 false).run Try.prog w) := by
  obtain ⟨o, ho⟩ := rtp (some xT) (some t) 80 ""
  exact ⟨o, fun w => by simp [Instr.typeAssert, run_underlying Try.underlying80, ho, h]⟩
theorem StU.pre {K : Nat → Prop} {w : World} {p g : Nat} {cap n : Nat} {vs : List Value} (h : StU K w p (some ⟨g, 0, none⟩) cap vs) (hn : n ≤ vs.length) :
    StU K (w.setCell ⟨p, 0, none⟩ (.slice (some ⟨g, 0, none⟩) n cap)) p (some ⟨g, 0, none⟩) cap (vs.take n) := by
  have hl : (vs.take n).length = n := by rw [List.length_take]; omega
  have hgp : g ≠ p := fun e => h.far (by rw [← e]; rfl)
  have := vstoreQ (K := K) (w := w) (g := g) (cap := cap) (vs := vs.take n) h.head (by rw [hl]; exact own_pre h.own hn) hgp (by rw [hl]; have := h.le; omega) h.kp (h.ka g rfl) h.ks
  rw [hl] at this
  exact this
theorem kdrew (K : Nat → Prop) (w : World) : Kept K w w.drew := ⟨rfl, rfl, rfl, Nat.le_refl _, fun _ _ => rfl⟩
set_option maxHeartbeats 1000000 in
theorem take_some (K : Nat → Prop) (w : World) (p : Nat) (vs : List Value) (t : TypeId) (v : Value) (h : StQ K w p (vs ++ [.iface t v])) :
    Calls Try.prog 94 #[ptr p] w fun e w' => e = .returned (.iface t v) ∧ StQ K w' p vs ∧ Kept K w w' := by
  have hp := peek_someQ K w p _ h 0 (by simp)
  rw [getD_last] at hp
  have hz : ∀ w, (binOp .neq 64 (.iface t v) .nilIface).run Try.prog w = .ok (.bool true) w := fun _ => by kernel_rfl
  obtain ⟨a, cap, hA⟩ := h
  obtain ⟨c0, c1, f0, f1, lp⟩ := hA.at0
  have h5 := hA.le
  obtain ⟨g, rfl, -, hle, -, -⟩ := hA.form (by simp)
  have S1 := hA.pre (n := vs.length) (by simp)
  rw [List.take_left'  rfl] at S1
  rw [List.length_append, List.length_singleton] at c0 hle h5
  have HK : Kept K w (w.setCell ⟨p, 0, none⟩ (.slice (some ⟨g, 0, none⟩) vs.length cap)) := (Kept.refl K w).setCell hA.kp _
  have e2 : ((vs.length + 1 : Nat) : Int) - 1 = (vs.length : Int) := by omega
  have w1 := wr64 (vs.length : Int) (by omega) (by omega)
  have e3 : (vs.length : Int) ≤ (cap : Int) := by omega
  have HS : Hid _ := S1
  clear hA S1
  go_enter Try.func94, Try.ntmps94
  go_wp2_with fail
  refine hp.mono ?_
  rintro e w1 ⟨rfl, rfl⟩
  go_wp2
  go_region
  go_wp2
  go_ret
  exact ⟨rfl, ⟨_, _, HS.out.kept (kdrew (fun _ => True) _) trivial (fun _ _ => trivial)⟩, HK.trans (kdrew K _)⟩
set_option maxHeartbeats 1000000 in
theorem take_none (K : Nat → Prop) (w : World) (p : Nat) (h : StQ K w p []) :
    Calls Try.prog 94 #[ptr p] w fun e w' => e = .returned .nilIface ∧ w' = w := by
  have hp := peek_noneQ K w p _ h 0 (by simp) (by omega)
  have hz : ∀ w, (binOp .neq 64 .nilIface .nilIface).run Try.prog w = .ok (.bool false) w := fun _ => by kernel_rfl
  go_enter Try.func94, Try.ntmps94
  go_wp2_with fail
  refine hp.mono ?_
  rintro e w1 ⟨rfl, rfl⟩
  go_wp2
  go_ret
  exact ⟨rfl, rfl⟩
set_option maxHeartbeats 1000000 in
theorem give_ok (K : Nat → Prop) (w : World) (p : Nat) (vs : List Value) (t : TypeId) (v : Value) (h : StQ K w p vs) (hn : vs.length < 5) :
    Calls Try.prog 95 #[ptr p, .iface t v] w fun e w' => e = .returned (.tuple #[]) ∧ StQ K w' p (vs ++ [.iface t v]) ∧ Kept K w w' := by
  have hs := swap_anyQ K w p _ h vs.length 0 (by simp) hn t v
  rw [List.take_length] at hs
  obtain ⟨a, cap, hA⟩ := h
  obtain ⟨c0, c1, f0, f1, lp⟩ := hA.at0
  have h5 : ¬ (5 : Int) ≤ (vs.length : Int) := by omega
  clear hA
  go_enter Try.func95, Try.ntmps95
  go_wp2_with fail
  refine hs.mono ?_
  rintro e w1 ⟨rfl, s1, k1⟩
  go_wp2
  go_end0
  exact ⟨rfl, s1, k1⟩
set_option maxHeartbeats 1000000 in
theorem give_full (K : Nat → Prop) (w : World) (p : Nat) (vs : List Value) (v : Value) (h : StQ K w p vs) (hn : vs.length = 5) :
    Calls Try.prog 95 #[ptr p, v] w fun e w' => e = .panicked [{ v := .iface 26 (I 3), recovered := false }] ∧ w' = w := by
  obtain ⟨a, cap, hA⟩ := h
  obtain ⟨c0, c1, f0, f1, lp⟩ := hA.at0
  rw [hn] at c0
  clear hA
  go_enter Try.func95, Try.ntmps95
  go_wp2
  exact ⟨rfl, rfl, rfl⟩
set_option maxHeartbeats 1000000 in
theorem must_ok (w : World) : Calls Try.prog 93 #[I 0] w fun e w' => e = .returned (.tuple #[]) ∧ w' = w := by
  go_enter Try.func93, Try.ntmps93
  go_wp2
  go_end0
  exact ⟨rfl, rfl⟩
set_option maxHeartbeats 1000000 in
theorem must_not (k : Int) (hk : k ≠ 0) (w : World) : Calls Try.prog 93 #[I k] w fun e w' => e = .panicked [{ v := .iface 26 (I k), recovered := false }] ∧ w' = w := by
  have k0 : (k != 0) = true := by simpa using hk
  go_enter Try.func93, Try.ntmps93
  go_wp2
  exact ⟨rfl, rfl, rfl⟩
end Go.Proofs.Qxb6500470a
