import Derived.Test.Qxb6500472aKb1
namespace Go.Proofs.Qxb6500472a
open Go.RowKit
attribute [local go_sem] run_store_float drewN_alloc drewN_setCell
theorem HM.head {w : World} {q hx hy : Nat} {L A B : List Nat} (h : HM w q hx hy L A B) : Blk w q #[ptr hx, ptr hy] 42 := by
  obtain ⟨ox, oy, h, -⟩ := h
  exact h.head
set_option maxHeartbeats 1000000 in
theorem handedP (N : Nat) (w : World) (g b px bx py bY q hx hy : Nat) (L A B : List Nat) (h : TwoK N w g b px bx py bY q hx hy L A B A B) :
    Calls Try.prog 22 #[.agg #[ptr px, ptr py], .agg #[ptr hx, ptr hy]] w fun e w' => e = .returned (.bool true) ∧ HPost q hx hy L w A B w' := by
  have b0 : Below w.heap.size w ((w.alloc (.cells #[ptr px, ptr py] 27)).alloc (.cells #[ptr hx, ptr hy] 42)) := ((Below.refl _ _).alloc (Nat.le_refl _) _).alloc (by simp) _
  have t0 := h.later b0
  have F0 : Blk ((w.alloc (.cells #[ptr px, ptr py] 27)).alloc (.cells #[ptr hx, ptr hy] 42)) w.heap.size #[ptr px, ptr py] 27 := (Blk.new rfl : Blk (w.alloc _) _ _ _).old _
  have O0 : Blk ((w.alloc (.cells #[ptr px, ptr py] 27)).alloc (.cells #[ptr hx, ptr hy] 42)) (w.heap.size + 1) #[ptr hx, ptr hy] 42 := Blk.new (World.size_alloc _ _).symm
  have nF := h.mod.out (Nat.le_refl _)
  have nO := h.mod.out (Nat.le_succ w.heap.size)
  go_enter Try.func22, Try.ntmps22
  go_wp2_with fail
  refine (show_any _ px bx A t0.real.sx).mono ?_
  rintro e w1 ⟨rfl, b1⟩
  have t1 := t0.later b1
  have F1 := F0.below b1 F0.lt
  have O1 := O0.below b1 O0.lt
  have bb1 := b0.trans (b1.mono (by simp; omega))
  clear t0 F0 O0 b0 b1
  obtain ⟨o1, o2, o3⟩ := O1.facts
  go_wp2_with fail
  refine (hx_show w1 q hx hy L A B t1.mod).mono ?_
  rintro e w2 ⟨rfl, p2⟩
  have F2 := p2.blk F1 nF
  have O2 := p2.blk O1 nO
  obtain ⟨L2, m2, n2, u2⟩ := p2
  have r2 := t1.real.upd u2 (fun k hk => (t1.nr k hk).2)
  clear o1 o2 o3 F1 O1 t1
  obtain ⟨f1, f2, f3⟩ := F2.facts
  go_wp2_with fail
  refine (show_any _ py bY B r2.sy).mono ?_
  rintro e w3 ⟨rfl, b3⟩
  have m3 := m2.later b3
  have O3 := O2.below b3 O2.lt
  clear f1 f2 f3 F2 O2
  obtain ⟨o1, o2, o3⟩ := O3.facts
  go_wp2_with fail
  refine (hy_show w3 q hx hy L2 A B m3).mono ?_
  rintro e w4 ⟨rfl, p4⟩
  go_wp2
  go_ret
  exact ⟨rfl, .trans (fun k hk => .inl hk) (Upd.of_below bb1) (.trans n2 u2 (.trans (fun k hk => .inl hk) (Upd.of_below b3) p4))⟩
/-- In KeepsUpTo's loop: the two sides, and a block of the loop's own. -/
structure KS (N : Nat) (V : World) (g b px bx py bY q hx hy : Nat) (L A B C D : List Nat) (o : Nat) (oc : Array Value) (ot : TypeId) : Prop where
  two : TwoK N V g b px bx py bY q hx hy L A B C D
  op : Blk V o oc ot
  o1 : o ∉ [b, px, bx, py, bY]
  o2 : o ∉ L
theorem KS.later {N : Nat} {V V' : World} {g b px bx py bY q hx hy : Nat} {L A B C D : List Nat} {o : Nat} {oc : Array Value} {ot : TypeId} (h : KS N V g b px bx py bY q hx hy L A B C D o oc ot) (u : Below V.heap.size V V') : KS N V' g b px bx py bY q hx hy L A B C D o oc ot :=
  ⟨h.two.later u, h.op.below u h.op.lt, h.o1, h.o2⟩
theorem KS.new {N : Nat} {V : World} {g b px bx py bY q hx hy : Nat} {L A B C D : List Nat} (h : TwoK N V g b px bx py bY q hx hy L A B C D) (oc : Array Value) (ot : TypeId) : KS N (V.alloc (.cells oc ot)) g b px bx py bY q hx hy L A B C D V.heap.size oc ot :=
  ⟨h.later ((Below.refl _ _).alloc (Nat.le_refl _) _), Blk.new rfl, h.lt.1, h.lt.2⟩
theorem KS.mid {N : Nat} {V V' : World} {g b px bx py bY q hx hy : Nat} {L A B C D : List Nat} {o : Nat} {oc : Array Value} {ot : TypeId} {E F : List Nat} (h : KS N V g b px bx py bY q hx hy L A B C D o oc ot) (m : RPost b px bx py bY V E F V') : KS N V' g b px bx py bY q hx hy L E F C D o oc ot ∧ Below N V V' := by
  obtain ⟨t, u⟩ := h.two.mid m
  exact ⟨⟨t, m.blk h.op h.o1, h.o1, h.o2⟩, u⟩
theorem KS.model {N : Nat} {V V' : World} {g b px bx py bY q hx hy : Nat} {L A B C D : List Nat} {o a : Nat} {oc ac : Array Value} {ot at' : TypeId} {E F : List Nat} (h : KS N V g b px bx py bY q hx hy L A B C D o oc ot) (k : KS N V g b px bx py bY q hx hy L A B C D a ac at') (m : HPost q hx hy L V E F V') : (∃ L', KS N V' g b px bx py bY q hx hy L' A B E F o oc ot ∧ KS N V' g b px bx py bY q hx hy L' A B E F a ac at') ∧ Below N V V' := by
  have p1 := m.blk h.op h.o2
  have p2 := m.blk k.op k.o2
  have l1 := h.op.lt
  have l2 := k.op.lt
  obtain ⟨L', m', n, u⟩ := m
  have two : TwoK N V' g b px bx py bY q hx hy L' A B E F := by
    refine ⟨h.two.real.upd u (fun k hk => (h.two.nr k hk).2), m', h.two.hand.upd u h.two.gm, ?_, ?_, h.two.gr, ?_⟩
    · intro k hk
      refine ⟨(h.two.nr k hk).1, fun hm => ?_⟩
      rcases n k hm with e | e
      · exact (h.two.nr k hk).2 e
      · have := h.two.real.lt.1 k hk; omega
    · intro k hk
      rcases n k hk with e | e
      · exact h.two.nm k e
      · have := h.two.size; omega
    · intro hm
      rcases n g hm with e | e
      · exact h.two.gm e
      · have := h.two.hand.lt; omega
  refine ⟨⟨L', ⟨two, p1, h.o1, fun hm => ?_⟩, ⟨two, p2, k.o1, fun hm => ?_⟩⟩, u.below h.two.size h.two.nm⟩
  · rcases n _ hm with e | e
    · exact h.o2 e
    · omega
  · rcases n _ hm with e | e
    · exact k.o2 e
    · omega
end Go.Proofs.Qxb6500472a
