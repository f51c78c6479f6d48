import Derived.Test.Qxb6500470aIt2
namespace Go.Proofs.Qxb6500470a
open Go.RowKit Go.Shelf
attribute [local go_sem] Oper.semAt_some
/-- (*List).All: the receiver is boxed; the closure captures the box. -/
theorem lAll (p0 : Option Addr) (w : World) :
    Calls Try.prog 136 #[.pointer p0] w fun e w' => e = .returned (.func (.func 139) #[] #[ptr w.heap.size]) ∧ w' = w.alloc (.cells #[.pointer p0] 69) := by
  have hmf : ∀ (fn : Fn) (first cap : Array Value) (w : World), (Instr.makeFunc fn first cap).run Try.prog w = .ok (.func fn first cap) w := fun _ _ _ _ => rfl
  go_enter Try.func136, Try.ntmps136
  go_wp2
  go_ret
  exact ⟨rfl, rfl⟩
theorem pAll (p0 : Option Addr) (w : World) :
    Calls Try.prog 143 #[.pointer p0] w fun e w' => e = .returned (.func (.func 147) #[] #[ptr w.heap.size]) ∧ w' = w.alloc (.cells #[.pointer p0] 89) := by
  have hmf : ∀ (fn : Fn) (first cap : Array Value) (w : World), (Instr.makeFunc fn first cap).run Try.prog w = .ok (.func fn first cap) w := fun _ _ _ _ => rfl
  go_enter Try.func143, Try.ntmps143
  go_wp2
  go_ret
  exact ⟨rfl, rfl⟩
theorem list_seq {α : Type} (enc : α → Value) (K : Nat → Prop) (Bn : Nat) (p0 : Option Addr) (xs : List α) (w : World) (n : Nat) (hn : 1 ≤ n) (hBn : Bn < w.heap.size) (hc : w.cell? ⟨Bn, 0, none⟩ = some (.pointer p0)) (ks : ∀ k, K k → k < w.heap.size) (hL : Ch enc K w p0 xs) :
    SeqP Fence.wide n Try.prog 139 #[ptr Bn] enc (KK K) xs w := fun l J Jx Pn W hW hY h0 =>
  all1_in enc Fence.wide n trivial rfl hn l Bn K p0 xs J Jx Pn hY W ((hW.cell (p := ⟨Bn, 0, none⟩) hBn).trans hc) (hL.below (fun q hq => hW.block q (ks q hq))) h0
set_option maxRecDepth 100000 in
set_option maxHeartbeats 1000000 in
theorem pall1_in {α : Type} (enc : α → Value) (n : Nat) (hn : 1 ≤ n) (l Bn : Nat) (K : Nat → Prop) (q : Nat) (x y : α) (J Jx : List α → World → Prop) (Pn : List PanicEntry → World → Prop)
    (hY : ∀ pre x W, J pre W → pre.length < 2 → YieldAt Fence.wide (n - 1) Try.prog l #[enc x] W fun e W' =>
      (e = .returned (.bool true) ∧ J (pre ++ [x]) W' ∧ KK K W W') ∨ (e = .returned (.bool false) ∧ Jx (pre ++ [x]) W') ∨ (∃ c, e = .panicked c ∧ Pn c W'))
    (W : World) (hb : ∀ V, KK K W V → V.cell? ⟨Bn, 0, none⟩ = some (ptr q)) (kq : K q) (hL : Blk W q #[enc x, enc y] 91) (h0 : J [] W) :
    CallsIn Fence.wide n Try.prog 147 #[.func (.yield l) #[] #[], .pointer (some ⟨Bn, 0, none⟩)] W fun e W' =>
      ((∃ v, e = .returned v) ∧ ((∃ ys, ys = [x, y] ∧ J ys W') ∨ (∃ pre, pre <+: [x, y] ∧ Jx pre W'))) ∨ (∃ c, e = .panicked c ∧ Pn c W') := by
  refine callsIn_of_wp Try.func147 rfl trivial ?_ rfl
  simp only [Try.ntmps147, List.size_toArray, List.length_cons, List.length_nil, Nat.reduceAdd, Nat.reduceSub, Array.replicate_succ, Array.replicate_zero, List.push_toArray, List.append_toArray, List.nil_append, List.cons_append]
  have hBn := hb W (fun _ _ => rfl)
  obtain ⟨c1, c2, c3⟩ := hL.facts
  obtain ⟨fn, tmps, assign, body, hy, hR⟩ := hY [] x W h0 (by simp)
  gi_wp2
  refine hR.mono ?_
  rintro e W1 (⟨rfl, hJ1, hk1⟩ | ⟨rfl, hJx1⟩ | ⟨c, rfl, hp⟩)
  · have hL1 := hL.kk hk1 kq
    have hBn1 := hb W1 hk1
    clear c1 c2 c3 hBn
    obtain ⟨c1, c2, c3⟩ := hL1.facts
    obtain ⟨fn, tmps, assign, body, hy, hR⟩ := hY [x] y W1 hJ1 (by simp)
    gi_wp2
    refine hR.mono ?_
    rintro e W2 (⟨rfl, hJ2, hk2⟩ | ⟨rfl, hJx2⟩ | ⟨c, rfl, hp⟩)
    · gi_wp2
      go_end0
      exact .inl ⟨⟨_, rfl⟩, .inl ⟨[x, y], rfl, hJ2⟩⟩
    · gi_wp2
      go_end0
      exact .inl ⟨⟨_, rfl⟩, .inr ⟨[x, y], List.prefix_refl _, hJx2⟩⟩
    · gi_wp2
      exact ⟨rfl, .inr ⟨c, rfl, hp⟩⟩
  · gi_wp2
    refine bodyPost_ret (results_none rfl _ _ _) rfl ?_
    exact .inl ⟨⟨_, rfl⟩, .inr ⟨[x], ⟨[y], rfl⟩, hJx1⟩⟩
  · gi_wp2
    exact ⟨rfl, .inr ⟨c, rfl, hp⟩⟩
theorem pair_seq {α : Type} (enc : α → Value) (K : Nat → Prop) (Bn q : Nat) (x y : α) (w : World) (n : Nat) (hn : 1 ≤ n) (kB : K Bn) (hc : w.cell? ⟨Bn, 0, none⟩ = some (ptr q)) (ks : ∀ k, K k → k < w.heap.size) (kq : K q) (hL : Blk w q #[enc x, enc y] 91) :
    SeqP Fence.wide n Try.prog 147 #[ptr Bn] enc (KK K) [x, y] w := fun l J Jx Pn W hW hY h0 =>
  pall1_in enc n hn l Bn K q x y J Jx Pn hY W (fun V hV => by
    have e1 : W.cell? ⟨Bn, 0, none⟩ = some (ptr q) := (hW.cell (p := ⟨Bn, 0, none⟩) (ks _ kB)).trans hc
    rw [← e1]
    exact World.cell?_of_block (hV Bn kB)) kq (hL.kk (fun q hq => hW.block q (ks q hq)) kq) h0
end Go.Proofs.Qxb6500470a
