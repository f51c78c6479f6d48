import Derived.Test.Qxb6500472aHo1
namespace Go.Proofs.Qxb6500472a
open Go.RowKit
attribute [local go_sem] run_store_float drewN_alloc drewN_setCell
theorem hx_len (w : World) (q hx hy : Nat) (L A B : List Nat) (h : HM w q hx hy L A B) :
    Calls Try.prog 42 #[ptr hx] w fun e w' => e = .returned (I A.length) ∧ HPost q hx hy L w (A) B w' := by
  obtain ⟨ox, oy, h, rfl⟩ := h
  refine (ma_len w hx ox A h.mx).mono ?_
  rintro e w' ⟨rfl, m⟩
  obtain ⟨o', h', n, u⟩ := h.stepX m
  exact ⟨rfl, _, ⟨o', oy, h', rfl⟩, n, u⟩
theorem hx_push (w : World) (q hx hy : Nat) (L A B : List Nat) (h : HM w q hx hy L A B) (hn : A.length < 8) (i d : Int) :
    Calls Try.prog 43 #[ptr hx, I i, I d] w fun e w' => e = .returned (I 0) ∧ HPost q hx hy L w (A ++ [ratioF i d]) B w' := by
  obtain ⟨ox, oy, h, rfl⟩ := h
  refine (ma_push i d w hx ox A h.mx hn).mono ?_
  rintro e w' ⟨rfl, m⟩
  obtain ⟨o', h', n, u⟩ := h.stepX m
  exact ⟨rfl, _, ⟨o', oy, h', rfl⟩, n, u⟩
theorem hx_pop (w : World) (q hx hy : Nat) (L A B : List Nat) (h : HM w q hx hy L A B) (hn : A ≠ []) :
    Calls Try.prog 44 #[ptr hx] w fun e w' => e = .returned (I 0) ∧ HPost q hx hy L w (A.dropLast) B w' := by
  obtain ⟨ox, oy, h, rfl⟩ := h
  refine (ma_pop w hx ox A h.mx hn).mono ?_
  rintro e w' ⟨rfl, m⟩
  obtain ⟨o', h', n, u⟩ := h.stepX m
  exact ⟨rfl, _, ⟨o', oy, h', rfl⟩, n, u⟩
theorem hx_show (w : World) (q hx hy : Nat) (L A B : List Nat) (h : HM w q hx hy L A B) :
    Calls Try.prog 46 #[ptr hx] w fun e w' => e = .returned (S (showF A)) ∧ HPost q hx hy L w (A) B w' := by
  obtain ⟨ox, oy, h, rfl⟩ := h
  refine (ma_show w hx ox A h.mx).mono ?_
  rintro e w' ⟨rfl, m⟩
  obtain ⟨o', h', n, u⟩ := h.stepX m
  exact ⟨rfl, _, ⟨o', oy, h', rfl⟩, n, u⟩
theorem hx_min (w : World) (q hx hy : Nat) (L A B : List Nat) (h : HM w q hx hy L A B) (hn : A ≠ []) :
    Calls Try.prog 49 #[ptr hx] w fun e w' => ∃ v, e = .returned (.tuple #[D64 v, I 0]) ∧ can64 v = minF A ∧ HPost q hx hy L w (A) B w' := by
  obtain ⟨ox, oy, h, rfl⟩ := h
  refine (ma_min1 w hx ox A h.mx hn).mono ?_
  rintro e w' ⟨v, rfl, cv, m⟩
  obtain ⟨o', h', n, u⟩ := h.stepX m
  exact ⟨v, rfl, cv, _, ⟨o', oy, h', rfl⟩, n, u⟩
theorem hx_max (w : World) (q hx hy : Nat) (L A B : List Nat) (h : HM w q hx hy L A B) (hn : A ≠ []) :
    Calls Try.prog 50 #[ptr hx] w fun e w' => ∃ v, e = .returned (.tuple #[D64 v, I 0]) ∧ can64 v = maxF A ∧ HPost q hx hy L w (A) B w' := by
  obtain ⟨ox, oy, h, rfl⟩ := h
  refine (ma_max1 w hx ox A h.mx hn).mono ?_
  rintro e w' ⟨v, rfl, cv, m⟩
  obtain ⟨o', h', n, u⟩ := h.stepX m
  exact ⟨v, rfl, cv, _, ⟨o', oy, h', rfl⟩, n, u⟩
theorem hx_at (w : World) (q hx hy : Nat) (L A B : List Nat) (h : HM w q hx hy L A B) (i : Nat) (hi : i < A.length) :
    Calls Try.prog 51 #[ptr hx, I i] w fun e w' => ∃ v, e = .returned (.tuple #[D64 v, I 0]) ∧ can64 v = A.getD i 0 ∧ HPost q hx hy L w (A) B w' := by
  obtain ⟨ox, oy, h, rfl⟩ := h
  refine (ma_at w hx ox A h.mx i hi).mono ?_
  rintro e w' ⟨v, rfl, cv, m⟩
  obtain ⟨o', h', n, u⟩ := h.stepX m
  exact ⟨v, rfl, cv, _, ⟨o', oy, h', rfl⟩, n, u⟩
theorem hy_len (w : World) (q hx hy : Nat) (L A B : List Nat) (h : HM w q hx hy L A B) :
    Calls Try.prog 42 #[ptr hy] w fun e w' => e = .returned (I B.length) ∧ HPost q hx hy L w A (B) w' := by
  obtain ⟨ox, oy, h, rfl⟩ := h
  refine (ma_len w hy oy B h.my).mono ?_
  rintro e w' ⟨rfl, m⟩
  obtain ⟨o', h', n, u⟩ := h.stepY m
  exact ⟨rfl, _, ⟨ox, o', h', rfl⟩, n, u⟩
theorem hy_push (w : World) (q hx hy : Nat) (L A B : List Nat) (h : HM w q hx hy L A B) (hn : B.length < 8) (i d : Int) :
    Calls Try.prog 43 #[ptr hy, I i, I d] w fun e w' => e = .returned (I 0) ∧ HPost q hx hy L w A (B ++ [ratioF i d]) w' := by
  obtain ⟨ox, oy, h, rfl⟩ := h
  refine (ma_push i d w hy oy B h.my hn).mono ?_
  rintro e w' ⟨rfl, m⟩
  obtain ⟨o', h', n, u⟩ := h.stepY m
  exact ⟨rfl, _, ⟨ox, o', h', rfl⟩, n, u⟩
theorem hy_pop (w : World) (q hx hy : Nat) (L A B : List Nat) (h : HM w q hx hy L A B) (hn : B ≠ []) :
    Calls Try.prog 44 #[ptr hy] w fun e w' => e = .returned (I 0) ∧ HPost q hx hy L w A (B.dropLast) w' := by
  obtain ⟨ox, oy, h, rfl⟩ := h
  refine (ma_pop w hy oy B h.my hn).mono ?_
  rintro e w' ⟨rfl, m⟩
  obtain ⟨o', h', n, u⟩ := h.stepY m
  exact ⟨rfl, _, ⟨ox, o', h', rfl⟩, n, u⟩
theorem hy_show (w : World) (q hx hy : Nat) (L A B : List Nat) (h : HM w q hx hy L A B) :
    Calls Try.prog 46 #[ptr hy] w fun e w' => e = .returned (S (showF B)) ∧ HPost q hx hy L w A (B) w' := by
  obtain ⟨ox, oy, h, rfl⟩ := h
  refine (ma_show w hy oy B h.my).mono ?_
  rintro e w' ⟨rfl, m⟩
  obtain ⟨o', h', n, u⟩ := h.stepY m
  exact ⟨rfl, _, ⟨ox, o', h', rfl⟩, n, u⟩
theorem hy_min (w : World) (q hx hy : Nat) (L A B : List Nat) (h : HM w q hx hy L A B) (hn : B ≠ []) :
    Calls Try.prog 49 #[ptr hy] w fun e w' => ∃ v, e = .returned (.tuple #[D64 v, I 0]) ∧ can64 v = minF B ∧ HPost q hx hy L w A (B) w' := by
  obtain ⟨ox, oy, h, rfl⟩ := h
  refine (ma_min1 w hy oy B h.my hn).mono ?_
  rintro e w' ⟨v, rfl, cv, m⟩
  obtain ⟨o', h', n, u⟩ := h.stepY m
  exact ⟨v, rfl, cv, _, ⟨ox, o', h', rfl⟩, n, u⟩
theorem hy_max (w : World) (q hx hy : Nat) (L A B : List Nat) (h : HM w q hx hy L A B) (hn : B ≠ []) :
    Calls Try.prog 50 #[ptr hy] w fun e w' => ∃ v, e = .returned (.tuple #[D64 v, I 0]) ∧ can64 v = maxF B ∧ HPost q hx hy L w A (B) w' := by
  obtain ⟨ox, oy, h, rfl⟩ := h
  refine (ma_max1 w hy oy B h.my hn).mono ?_
  rintro e w' ⟨v, rfl, cv, m⟩
  obtain ⟨o', h', n, u⟩ := h.stepY m
  exact ⟨v, rfl, cv, _, ⟨ox, o', h', rfl⟩, n, u⟩
theorem hy_at (w : World) (q hx hy : Nat) (L A B : List Nat) (h : HM w q hx hy L A B) (i : Nat) (hi : i < B.length) :
    Calls Try.prog 51 #[ptr hy, I i] w fun e w' => ∃ v, e = .returned (.tuple #[D64 v, I 0]) ∧ can64 v = B.getD i 0 ∧ HPost q hx hy L w A (B) w' := by
  obtain ⟨ox, oy, h, rfl⟩ := h
  refine (ma_at w hy oy B h.my i hi).mono ?_
  rintro e w' ⟨v, rfl, cv, m⟩
  obtain ⟨o', h', n, u⟩ := h.stepY m
  exact ⟨v, rfl, cv, _, ⟨ox, o', h', rfl⟩, n, u⟩
theorem hx_whole (w : World) (q hx hy : Nat) (L A B : List Nat) (h : HM w q hx hy L A B) (i : Nat) (hi : i < A.length) :
    Calls Try.prog 54 #[ptr hx, I i] w fun e w' => e = .returned (.tuple #[I (wholeF (A.getD i 0)).1, I (wholeF (A.getD i 0)).2]) ∧ HPost q hx hy L w (A) B w' := by
  obtain ⟨ox, oy, h, rfl⟩ := h
  refine (ma_whole w hx ox A h.mx i hi).mono ?_
  rintro e w' ⟨rfl, m⟩
  obtain ⟨o', h', n, u⟩ := h.stepX m
  exact ⟨rfl, _, ⟨o', oy, h', rfl⟩, n, u⟩
theorem hx_wholex (w : World) (q hx hy : Nat) (L A B : List Nat) (h : HM w q hx hy L A B) (i : Int) (hi : i < 0 ∨ (A.length : Int) ≤ i) :
    Calls Try.prog 54 #[ptr hx, I i] w fun e w' => e = .returned (.tuple #[I 0, I 3]) ∧ HPost q hx hy L w (A) B w' := by
  obtain ⟨ox, oy, h, rfl⟩ := h
  refine (ma_wholex w hx ox A h.mx i hi).mono ?_
  rintro e w' ⟨rfl, m⟩
  obtain ⟨o', h', n, u⟩ := h.stepX m
  exact ⟨rfl, _, ⟨o', oy, h', rfl⟩, n, u⟩

set_option maxHeartbeats 1000000 in
theorem mine_any (w : World) :
    Calls Try.prog 16 #[] w fun e w' => ∃ hx hy, e = .returned (.agg #[ptr hx, ptr hy]) ∧ MA w' hx none [] ∧ MA w' hy none [] ∧ hx ≠ hy ∧ w.heap.size ≤ hx ∧ w.heap.size ≤ hy ∧ Below w.heap.size w w' := by
  go_enter Try.func16, Try.ntmps16
  go_wp2_with fail
  refine (mNew_any _).mono ?_
  rintro e w1 ⟨rfl, m1, b1⟩
  have r0 : Blk (w.alloc (.cells #[.pointer none, .pointer none] 42)) w.heap.size #[.pointer none, .pointer none] 42 := Blk.new rfl
  replace r0 := r0.below b1 r0.lt
  rw [World.size_alloc] at m1
  have l1 : w.heap.size + 1 < w1.heap.size := m1.head.lt
  go_wp2_with fail
  refine (mNew_any _).mono ?_
  rintro e w2 ⟨rfl, m2, b2⟩
  replace r0 := r0.below b2 r0.lt
  have mx : MA w2 (w.heap.size + 1) none [] := MA.later ⟨_, _, _, _, m1, rfl, rfl⟩ b2
  have my : MA w2 w1.heap.size none [] := ⟨_, _, _, _, m2, rfl, rfl⟩
  obtain ⟨q0, q1, q2⟩ := r0.facts
  have bb : Below w.heap.size w w2 := (((Below.refl _ w).alloc (Nat.le_refl _) _).trans (b1.mono (by simp))).trans (b2.mono (by omega))
  go_wp2
  have u : Upd [w.heap.size] w2 ((w2.setCell ⟨w.heap.size, 0, none⟩ (ptr (w.heap.size + 1))).setCell ⟨w.heap.size, 1, none⟩ (ptr w1.heap.size)) := ((Upd.refl _ _).setCell (by simp) _).setCell (by simp) _
  refine ret_row Try.results16 rfl rfl ((r0.set _).set _) Try.underlying42 rfl (by kernel_rfl) ⟨w.heap.size + 1, w1.heap.size, rfl, ?_, ?_, by omega, by omega, by omega, ?_⟩
  · exact mx.upd u (by simp) (by intro g hg; cases hg)
  · exact my.upd u (by simp; omega) (by intro g hg; cases hg)
  · exact (bb.setCell (by simp) _).setCell (by simp) _

theorem mark_any (w : World) (px py : Nat) :
    Calls Try.prog 17 #[.agg #[ptr px, ptr py]] w fun e w' => e = .returned (.tuple #[]) ∧ Below w.heap.size w w' := by
  go_enter Try.func17, Try.ntmps17
  go_wp2
  go_end0
  exact ⟨rfl, (Below.refl _ _).alloc (Nat.le_refl _) _⟩
theorem asks_any (w : World) (px py : Nat) :
    Calls Try.prog 18 #[.agg #[ptr px, ptr py]] w fun e w' => e = .returned (I (-1)) ∧ Below w.heap.size w w' := by
  go_enter Try.func18, Try.ntmps18
  go_wp2
  go_ret
  exact ⟨rfl, (Below.refl _ _).alloc (Nat.le_refl _) _⟩
theorem work_any (w : World) (k e : Int) :
    Calls Try.prog 19 #[I k, I e, I (-1)] w fun x w' => x = .returned (.bool true) ∧ w' = w := by
  go_enter Try.func19, Try.ntmps19
  go_wp2
  go_ret
  exact ⟨rfl, rfl⟩
theorem HM.out {w : World} {q hx hy : Nat} {L A B : List Nat} (h : HM w q hx hy L A B) {g : Nat} (hg : w.heap.size ≤ g) : g ∉ L := fun hm => by have := h.lt.1 g hm; omega

set_option maxHeartbeats 1000000 in
theorem handed_any (N : Nat) (w : World) (g b px bx py bY q hx hy : Nat) (L A B : List Nat) (h : TwoK N w g b px bx py bY q hx hy L A B A B) :
    Calls Try.prog 22 #[.agg #[ptr px, ptr py], .agg #[ptr hx, ptr hy]] w fun e w' => e = .returned (.bool true) ∧ (∃ L', TwoK N w' g b px bx py bY q hx hy L' A B A B) ∧ Below N w w' := by
  have b0 : Below w.heap.size w ((w.alloc (.cells #[ptr px, ptr py] 27)).alloc (.cells #[ptr hx, ptr hy] 42)) := ((Below.refl _ _).alloc (Nat.le_refl _) _).alloc (by simp) _
  have t0 := h.later b0
  have bb0 := b0.mono h.size
  have F0 : Blk ((w.alloc (.cells #[ptr px, ptr py] 27)).alloc (.cells #[ptr hx, ptr hy] 42)) w.heap.size #[ptr px, ptr py] 27 := (Blk.new rfl : Blk (w.alloc _) _ _ _).old _
  have O0 : Blk ((w.alloc (.cells #[ptr px, ptr py] 27)).alloc (.cells #[ptr hx, ptr hy] 42)) (w.heap.size + 1) #[ptr hx, ptr hy] 42 := Blk.new (World.size_alloc _ _).symm
  have nF := h.mod.out (Nat.le_refl _)
  have nO := h.mod.out (Nat.le_succ w.heap.size)
  have hN := h.size
  go_enter Try.func22, Try.ntmps22
  go_wp2_with fail
  refine (show_any _ px bx A t0.real.sx).mono ?_
  rintro e w1 ⟨rfl, b1⟩
  have t1 := t0.later b1
  have F1 := F0.below b1 F0.lt
  have O1 := O0.below b1 O0.lt
  have bb1 := bb0.trans (b1.mono t0.size)
  clear t0 F0 O0 b0 bb0 b1
  generalize w.heap.size = G at *
  obtain ⟨o1, o2, o3⟩ := O1.facts
  go_wp2_with fail
  refine (hx_show w1 q hx hy L A B t1.mod).mono ?_
  rintro e w2 ⟨rfl, p2⟩
  have F2 := p2.blk F1 nF
  have O2 := p2.blk O1 nO
  have hz1 := F1.lt
  have hz2 := O1.lt
  obtain ⟨⟨L2, t2⟩, b2⟩ := t1.model p2
  obtain ⟨-, -, nn, -⟩ := p2
  have bb2 := bb1.trans b2
  clear o1 o2 o3 F1 O1 b2 bb1
  obtain ⟨f1, f2, f3⟩ := F2.facts
  go_wp2_with fail
  refine (show_any _ py bY B t2.real.sy).mono ?_
  rintro e w3 ⟨rfl, b3⟩
  have t3 := t2.later b3
  have O3 := O2.below b3 O2.lt
  have bb3 := bb2.trans (b3.mono t2.size)
  clear f1 f2 f3 F2 O2 b3 bb2
  obtain ⟨o1, o2, o3⟩ := O3.facts
  go_wp2_with fail
  refine (hy_show w3 q hx hy L2 A B t3.mod).mono ?_
  rintro e w4 ⟨rfl, p4⟩
  obtain ⟨t4, b4⟩ := t3.model p4
  go_wp2
  go_ret
  exact ⟨rfl, t4, bb3.trans b4⟩
end Go.Proofs.Qxb6500472a
