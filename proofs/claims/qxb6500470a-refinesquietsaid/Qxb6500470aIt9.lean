import Derived.Test.Qxb6500470aIt8
namespace Go.Proofs.Qxb6500470a
open Go.RowKit Go.Shelf
theorem NewV.ks {K : Nat → Prop} {w w' : World} {K' : Nat → Prop} (ks : ∀ k, K k → k < w.heap.size) (hz : w.heap.size ≤ w'.heap.size) (n : ∀ k, K' k → K k ∨ (w.heap.size ≤ k ∧ k < w'.heap.size)) : ∀ k, K' k → k < w'.heap.size := by
  intro k hk
  rcases n k hk with e | e
  · have := ks k e; omega
  · exact e.2
theorem NewV.later {K : Nat → Prop} {w w1 w2 : World} {x : TV} {v : Value} (ks : ∀ k, K k → k < w.heap.size) (hz : w.heap.size ≤ w1.heap.size) (h : NewV K w x v w1) (b : Below w1.heap.size w1 w2) : NewV K w x v w2 := by
  obtain ⟨K', m, n, r⟩ := h
  refine ⟨K', m, fun k hk => ?_, r.kept (Kept.of_below b (NewV.ks ks hz n))⟩
  rcases n k hk with e | e
  · exact .inl e
  · exact .inr ⟨e.1, by have := b.size; omega⟩
set_option maxHeartbeats 2000000 in
theorem plus_ok (K : Nat → Prop) (w : World) (t : TypeId) (u vb : Value) (fA : FuncId) (r : Value) (x : TV) (ks : ∀ k, K k → k < w.heap.size)
    (ta : ∀ w, (Instr.typeAssert (.iface t u) 64 105 true).run Try.prog w = .ok (.tuple #[.iface t u, .bool true]) w)
    (hm : ∀ W, (method 260 t u "Add").run Try.prog W = .ok (fA, r) W) (hcf : ∀ args W, (callFunc fA args).run Try.prog W = .ok (.enter fA args) W)
    (hA : Calls Try.prog fA #[r, vb] w fun e w' => ∃ v, e = .returned (.tuple #[v, I 0]) ∧ NewV K w x v w' ∧ Below w.heap.size w w') (hlen : (text x).length ≤ 30) :
    Calls Try.prog 55 #[.iface t u, vb] w fun e w' => ∃ v, e = .returned (.tuple #[v, I 0]) ∧ NewV K w x v w' ∧ Below w.heap.size w w' := by
  go_enter Try.func55, Try.ntmps55
  go_wp2_with (refine hA.mono ?_; rintro e w1 ⟨v, rfl, nv, b1⟩)
  have hz := b1.size
  have nv' := nv
  obtain ⟨K', m, n, rv⟩ := nv'
  obtain ⟨tv, uv, rfl⟩ := rv.iface
  have hF := fits_any x K' w1 _ rv (NewV.ks ks hz n) (by omega)
  rw [decide_eq_true hlen] at hF
  refine hF.mono ?_
  rintro e w2 ⟨rfl, b2⟩
  go_wp2
  go_ret2
  exact ⟨_, rfl, nv.later ks hz b2, b1.trans (b2.mono hz)⟩
set_option maxHeartbeats 2000000 in
theorem plus_big (K : Nat → Prop) (w : World) (t : TypeId) (u vb : Value) (fA : FuncId) (r : Value) (x : TV) (ks : ∀ k, K k → k < w.heap.size)
    (ta : ∀ w, (Instr.typeAssert (.iface t u) 64 105 true).run Try.prog w = .ok (.tuple #[.iface t u, .bool true]) w)
    (hm : ∀ W, (method 260 t u "Add").run Try.prog W = .ok (fA, r) W) (hcf : ∀ args W, (callFunc fA args).run Try.prog W = .ok (.enter fA args) W)
    (hA : Calls Try.prog fA #[r, vb] w fun e w' => ∃ v, e = .returned (.tuple #[v, I 0]) ∧ NewV K w x v w' ∧ Below w.heap.size w w') (hl : (text x).length ≤ 1000) (hlen : ¬ (text x).length ≤ 30) :
    Calls Try.prog 55 #[.iface t u, vb] w fun e w' => e = .returned (.tuple #[.nilIface, I 7]) ∧ Below w.heap.size w w' := by
  go_enter Try.func55, Try.ntmps55
  go_wp2_with (refine hA.mono ?_; rintro e w1 ⟨v, rfl, nv, b1⟩)
  have hz := b1.size
  obtain ⟨K', m, n, rv⟩ := nv
  obtain ⟨tv, uv, rfl⟩ := rv.iface
  have hF := fits_any x K' w1 _ rv (NewV.ks ks hz n) hl
  rw [decide_eq_false hlen] at hF
  refine hF.mono ?_
  rintro e w2 ⟨rfl, b2⟩
  go_wp2
  go_ret2
  exact ⟨rfl, b1.trans (b2.mono hz)⟩
set_option maxHeartbeats 2000000 in
theorem plus_err (w : World) (t : TypeId) (u vb : Value) (fA : FuncId) (r : Value)
    (ta : ∀ w, (Instr.typeAssert (.iface t u) 64 105 true).run Try.prog w = .ok (.tuple #[.iface t u, .bool true]) w)
    (hm : ∀ W, (method 260 t u "Add").run Try.prog W = .ok (fA, r) W) (hcf : ∀ args W, (callFunc fA args).run Try.prog W = .ok (.enter fA args) W)
    (hA : Calls Try.prog fA #[r, vb] w fun e w' => e = .returned (.tuple #[.nilIface, I 6]) ∧ w' = w) :
    Calls Try.prog 55 #[.iface t u, vb] w fun e w' => e = .returned (.tuple #[.nilIface, I 6]) ∧ Below w.heap.size w w' := by
  go_enter Try.func55, Try.ntmps55
  go_wp2_with (refine hA.mono ?_; rintro e w1 ⟨rfl, rfl⟩)
  go_ret2
  exact ⟨rfl, Below.refl _ _⟩
set_option maxHeartbeats 2000000 in
theorem plus_cap (w : World) (ad : Option Addr) (vb : Value) :
    Calls Try.prog 55 #[.iface 89 (.pointer ad), vb] w fun e w' => e = .returned (.tuple #[.nilIface, I 5]) ∧ Below w.heap.size w w' := by
  have ta : ∀ w, (Instr.typeAssert (.iface 89 (.pointer ad)) 64 105 true).run Try.prog w = .ok (.tuple #[.nilIface, .bool false]) w := fun w => run_typeAssert_lacksB Try.underlying105 (by kernel_rfl) (by kernel_rfl) _ _ w
  go_enter Try.func55, Try.ntmps55
  go_wp2
  go_ret2
  exact ⟨rfl, Below.refl _ _⟩
theorem mAddS (z : ByteArray) (w : World) : (method 260 112 (.string z) "Add").run Try.prog w = .ok (148, .string z) w := by kernel_rfl
theorem mAddL (a : Option Addr) (w : World) : (method 260 69 (.pointer a) "Add").run Try.prog w = .ok (135, .pointer a) w := by kernel_rfl
set_option maxHeartbeats 1000000 in
theorem intAdd_mix (n : Int) (vb : Value) (w : World) (tb : ∀ w, (Instr.typeAssert vb 64 80 true).run Try.prog w = .ok (.tuple #[I 0, .bool false]) w) :
    Calls Try.prog 140 #[I n, vb] w fun e w' => e = .returned (.tuple #[.nilIface, I 6]) ∧ w' = w := by
  go_enter Try.func140, Try.ntmps140
  go_wp2
  go_ret2
  exact ⟨rfl, rfl⟩
set_option maxHeartbeats 1000000 in
theorem strAdd_mix (z : List UInt8) (vb : Value) (w : World) (tb : ∀ w, (Instr.typeAssert vb 64 112 true).run Try.prog w = .ok (.tuple #[S [], .bool false]) w) :
    Calls Try.prog 148 #[S z, vb] w fun e w' => e = .returned (.tuple #[.nilIface, I 6]) ∧ w' = w := by
  go_enter Try.func148, Try.ntmps148
  go_wp2
  go_ret2
  exact ⟨rfl, rfl⟩
set_option maxHeartbeats 1000000 in
theorem lstAdd_mix (tp : Option Addr) (vb : Value) (w : World) (tb : ∀ w, (Instr.typeAssert vb 64 69 true).run Try.prog w = .ok (.tuple #[.pointer none, .bool false]) w) :
    Calls Try.prog 135 #[.pointer tp, vb] w fun e w' => e = .returned (.tuple #[.nilIface, I 6]) ∧ w' = w := by
  go_enter Try.func135, Try.ntmps135
  go_wp2
  go_ret2
  exact ⟨rfl, rfl⟩
set_option maxHeartbeats 1000000 in
theorem strAdd (z y : List UInt8) (hz : z.length ≤ 1000) (hy : y.length ≤ 1000) (w : World) : Calls Try.prog 148 #[S z, VS y] w fun e w' => e = .returned (.tuple #[VS (z ++ y), I 0]) ∧ w' = w := by
  have tb : ∀ w, (Instr.typeAssert (VS y) 64 112 true).run Try.prog w = .ok (.tuple #[S y, .bool true]) w := fun _ => by kernel_rfl
  have e1 : (str z).size ≤ 1000 := by rw [str_size]; exact hz
  have e2 : (str y).size ≤ 1000 := by rw [str_size]; exact hy
  have e3 := str_append z y
  go_enter Try.func148, Try.ntmps148
  go_wp2
  go_ret2
  exact ⟨rfl, rfl⟩
end Go.Proofs.Qxb6500470a
