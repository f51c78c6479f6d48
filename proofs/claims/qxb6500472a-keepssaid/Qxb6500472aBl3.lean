import Derived.Test.Qxb6500472aBl2
import Derived.Test.Qxb6500472aOpR
namespace Go.Proofs.Qxb6500472a
open Go.RowKit
attribute [local go_sem] run_store_float drewN_alloc drewN_setCell
theorem BPost.blk {w w' : World} {q : Nat} {L C D : List Nat} (m : BPost q L w C D w') {b : Nat} {c : Array Value} {t : TypeId} (k : Blk w b c t) (hb : b ∉ L) : Blk w' b c t := by
  obtain ⟨L', -, -, u⟩ := m
  exact k.upd u hb
theorem RPost.blk {w w' : World} {b px bx py bY : Nat} {C D : List Nat} (m : RPost b px bx py bY w C D w') {g : Nat} {c : Array Value} {t : TypeId} (k : Blk w g c t) (hb : g ∉ [b, px, bx, py, bY]) : Blk w' g c t := k.upd m.2 hb
/-- The two sides, and the handed pair in the block g; nothing of theirs lies below N. -/
structure TwoB (N : Nat) (w : World) (g b px bx py bY q : Nat) (L A B C D : List Nat) : Prop where
  real : BoxA w b px bx py bY A B
  mod : BM w q L C D
  hand : Blk w g #[ptr px, ptr py] 27
  nr : ∀ k, k ∈ [b, px, bx, py, bY] → N ≤ k ∧ k ∉ L
  nm : ∀ k, k ∈ L → N ≤ k
  gr : g ∉ [b, px, bx, py, bY]
  gm : g ∉ L
theorem TwoB.later {N : Nat} {w w' : World} {g b px bx py bY q : Nat} {L A B C D : List Nat} (h : TwoB N w g b px bx py bY q L A B C D) (u : Below w.heap.size w w') : TwoB N w' g b px bx py bY q L A B C D :=
  ⟨h.real.later u, h.mod.later u, h.hand.below u h.hand.lt, h.nr, h.nm, h.gr, h.gm⟩
theorem TwoB.alloc {N : Nat} {w : World} {g b px bx py bY q : Nat} {L A B C D : List Nat} (h : TwoB N w g b px bx py bY q L A B C D) (x : Obj) : TwoB N (w.alloc x) g b px bx py bY q L A B C D := h.later ((Below.refl _ _).alloc (Nat.le_refl _) _)
theorem TwoB.size {N : Nat} {w : World} {g b px bx py bY q : Nat} {L A B C D : List Nat} (h : TwoB N w g b px bx py bY q L A B C D) : N ≤ w.heap.size := by
  have := h.real.lt.1 b (by simp); have := (h.nr b (by simp)).1; omega
theorem TwoB.model {N : Nat} {w w' : World} {g b px bx py bY q : Nat} {L A B C D E F : List Nat} (h : TwoB N w g b px bx py bY q L A B C D) (m : BPost q L w E F w') : (∃ L', TwoB N w' g b px bx py bY q L' A B E F) ∧ Below N w w' := by
  obtain ⟨L', m', n, u⟩ := m
  refine ⟨⟨L', h.real.upd u (fun k hk => (h.nr k hk).2), m', h.hand.upd u h.gm, ?_, ?_, h.gr, ?_⟩, u.below h.size h.nm⟩
  · intro k hk
    refine ⟨(h.nr k hk).1, fun hm => ?_⟩
    rcases n k hm with e | e
    · exact (h.nr k hk).2 e
    · have := h.real.lt.1 k hk; omega
  · intro k hk
    rcases n k hk with e | e
    · exact h.nm k e
    · have := h.size; omega
  · intro hm
    rcases n g hm with e | e
    · exact h.gm e
    · have := h.hand.lt; omega
theorem TwoB.mid {N : Nat} {w w' : World} {g b px bx py bY q : Nat} {L A B C D E F : List Nat} (h : TwoB N w g b px bx py bY q L A B C D) (m : RPost b px bx py bY w E F w') : TwoB N w' g b px bx py bY q L E F C D ∧ Below N w w' := by
  obtain ⟨s, u⟩ := m
  exact ⟨⟨s, h.mod.upd u (fun k hk hm => (h.nr k hm).2 hk), h.hand.upd u h.gr, h.nr, h.nm, h.gr, h.gm⟩, u.below h.size (fun k hk => (h.nr k hk).1)⟩
theorem TwoB.lt {N : Nat} {w : World} {g b px bx py bY q : Nat} {L A B C D : List Nat} (h : TwoB N w g b px bx py bY q L A B C D) : w.heap.size ∉ [b, px, bx, py, bY] ∧ w.heap.size ∉ L :=
  ⟨fun hm => by have := h.real.lt.1 _ hm; omega, fun hm => by have := h.mod.lt.1 _ hm; omega⟩

set_option maxHeartbeats 1000000 in
theorem sound_any (w : World) (px bx py bY : Nat) (A B : List Nat) (sx : SerA w px bx A) (sy : SerA w py bY B) :
    Calls Try.prog 88 #[.agg #[ptr px, ptr py]] w fun e w' => e = .returned (.bool true) ∧ Below w.heap.size w w' := by
  have b0 : Below w.heap.size w (w.alloc (.cells #[ptr px, ptr py] 27)) := (Below.refl _ _).alloc (Nat.le_refl _) _
  go_enter Try.func88, Try.ntmps88
  go_wp2_with fail
  refine (check_any _ px bx A (sx.later b0)).mono ?_
  rintro e w1 ⟨rfl, b1⟩
  have T1 : Blk w1 w.heap.size #[ptr px, ptr py] 27 := (Blk.new rfl : Blk (w.alloc _) _ _ _).below b1 (by simp)
  obtain ⟨t1, t2, t3⟩ := T1.facts
  have bb : Below w.heap.size w w1 := b0.trans (b1.mono (by simp))
  go_wp2_with fail
  refine (check_any _ py bY B (sy.later bb)).mono ?_
  rintro e w2 ⟨rfl, b2⟩
  go_wp2
  go_ret
  exact ⟨rfl, bb.trans (b2.mono bb.size)⟩

set_option maxHeartbeats 1000000 in
theorem alike_any (N : Nat) (w : World) (g b px bx py bY q : Nat) (L A B : List Nat) (h : TwoB N w g b px bx py bY q L A B A B) :
    Calls Try.prog 62 #[.agg #[ptr px, ptr py], ptr b, ptr q] w fun e w' => e = .returned (.bool true) ∧ (∃ L', TwoB N w' g b px bx py bY q L' A B A B) ∧ Below N w w' := by
  have b0 : Below w.heap.size w (w.alloc (.cells #[ptr px, ptr py] 27)) := (Below.refl _ _).alloc (Nat.le_refl _) _
  have t0 := h.later b0
  go_enter Try.func62, Try.ntmps62
  go_wp2_with fail
  refine (bShow_any _ b px bx py bY A B t0.real).mono ?_
  rintro e w1 ⟨rfl, b1⟩
  have t1 := t0.later b1
  have T1 : Blk w1 w.heap.size #[ptr px, ptr py] 27 := (Blk.new rfl : Blk (w.alloc _) _ _ _).below b1 (by simp)
  go_wp2_with fail
  refine (mbShow_any w1 q L A B t1.mod t1.real.len t1.real.fx t1.real.fy).mono ?_
  rintro e w2 ⟨rfl, m2⟩
  have T2 := m2.blk T1 h.lt.2
  obtain ⟨⟨L', t2⟩, b2⟩ := t1.model m2
  have bb : Below N w w2 := ((b0.trans (b1.mono (by simp))).mono h.size).trans b2
  clear m2 b2 b1 t1 T1
  obtain ⟨f1, f2, f3⟩ := T2.facts
  go_wp2_with fail
  refine (sound_any w2 px bx py bY A B t2.real.sx t2.real.sy).mono ?_
  rintro e w3 ⟨rfl, b3⟩
  have t3 := t2.later b3
  clear f1 f2 f3 T2
  go_wp2_with fail
  refine (bCheck_any _ b px bx py bY A B t3.real).mono ?_
  rintro e w4 ⟨rfl, b4⟩
  have t4 := t3.later b4
  go_wp2
  go_ret
  exact ⟨rfl, ⟨L', t4⟩, bb.trans ((b3.mono t2.size).trans (b4.mono t3.size))⟩
set_option maxHeartbeats 1000000 in
theorem ground_any (w : World) :
    Calls Try.prog 10 #[] w fun e w' => ∃ px bx py bY, e = .returned (.agg #[ptr px, ptr py]) ∧ SerR w' px bx (List.replicate 8 lvl0) 0 ∧ SerR w' py bY (List.replicate 8 lvl0) 0 ∧ [px, bx, py, bY].Nodup ∧ (∀ z, z ∈ [px, bx, py, bY] → w.heap.size ≤ z) ∧ Below w.heap.size w w' := by
  go_enter Try.func10, Try.ntmps10
  go_wp2_with fail
  refine (serNew_any _).mono ?_
  rintro e w1 ⟨rfl, s1, b1⟩
  have r0 : Blk (w.alloc (.cells #[.pointer none, .pointer none] 27)) w.heap.size #[.pointer none, .pointer none] 27 := Blk.new rfl
  replace r0 := r0.below b1 r0.lt
  rw [World.size_alloc] at s1
  have l1 : w.heap.size + 1 + 1 < w1.heap.size := s1.head.lt
  go_wp2_with fail
  refine (serNew_any _).mono ?_
  rintro e w2 ⟨rfl, s2, b2⟩
  replace r0 := r0.below b2 r0.lt
  have s1' := s1.later b2
  obtain ⟨q0, q1, q2⟩ := r0.facts
  have bb : Below w.heap.size w w2 := (((Below.refl _ w).alloc (Nat.le_refl _) _).trans (b1.mono (by simp))).trans (b2.mono (by omega))
  go_wp2
  have u : Upd [w.heap.size] w2 ((w2.setCell ⟨w.heap.size, 0, none⟩ (ptr (w.heap.size + 1 + 1))).setCell ⟨w.heap.size, 1, none⟩ (ptr (w1.heap.size + 1))) := ((Upd.refl _ _).setCell (by simp) _).setCell (by simp) _
  refine ret_row Try.results10 rfl rfl ((r0.set _).set _) Try.underlying27 rfl (by kernel_rfl) ⟨w.heap.size + 1 + 1, w.heap.size + 1, w1.heap.size + 1, w1.heap.size, rfl, ?_, ?_, ?_, ?_, ?_⟩
  · exact s1'.upd u (by simp; omega) (by simp)
  · exact s2.upd u (by simp; omega) (by simp; omega)
  · simp only [List.nodup_cons, List.mem_cons, List.not_mem_nil, or_false, not_or]
    simp
    omega
  · intro z hz
    simp at hz
    omega
  · exact (bb.setCell (by simp) _).setCell (by simp) _
end Go.Proofs.Qxb6500472a
