import Derived.Test.Qxb6500472aBl3
import Derived.Test.Qxb6500472aKf3
namespace Go.Proofs.Qxb6500472a
open Go.RowKit
attribute [local go_sem] run_store_float drewN_alloc drewN_setCell
/-- The abstract box by its points; its blocks. -/
structure OwnM (w : World) (q qx qy : Nat) (ox oy : Option Nat) (A B : List Nat) : Prop where
  head : Blk w q #[ptr qx, ptr qy] 42
  mx : MA w qx ox A
  my : MA w qy oy B
  ap : (mOwn q qx qy ox oy).Nodup
def HM (w : World) (q qx qy : Nat) (L : List Nat) (A B : List Nat) : Prop := ∃ ox oy, OwnM w q qx qy ox oy A B ∧ L = mOwn q qx qy ox oy
/-- Behind a call on it. -/
def HPost (q qx qy : Nat) (L : List Nat) (w : World) (A B : List Nat) (w' : World) : Prop := ∃ L', HM w' q qx qy L' A B ∧ (∀ g, g ∈ L' → g ∈ L ∨ w.heap.size ≤ g) ∧ Upd L w w'
theorem OwnM.lt {w : World} {q qx qy : Nat} {ox oy : Option Nat} {A B : List Nat} (h : OwnM w q qx qy ox oy A B) : ∀ g, g ∈ mOwn q qx qy ox oy → g < w.heap.size := by
  intro g hg
  have l1 := h.head.lt
  obtain ⟨l2, l3, -⟩ := h.mx.lt
  obtain ⟨l4, l5, -⟩ := h.my.lt
  rcases mem_own.1 hg with e | e | e | e | e
  · omega
  · omega
  · omega
  · exact (l3 g e).1
  · exact (l5 g e).1
theorem HM.lt {w : World} {q qx qy : Nat} {L A B : List Nat} (h : HM w q qx qy L A B) : (∀ g, g ∈ L → g < w.heap.size) ∧ A.length ≤ 8 ∧ q ∈ L := by
  obtain ⟨ox, oy, h, rfl⟩ := h
  exact ⟨h.lt, h.mx.lt.2.2, by simp [mOwn]⟩
theorem OwnM.upd {bs : List Nat} {w w' : World} {q qx qy : Nat} {ox oy : Option Nat} {A B : List Nat} (h : OwnM w q qx qy ox oy A B) (u : Upd bs w w') (hd : ∀ g, g ∈ mOwn q qx qy ox oy → g ∉ bs) : OwnM w' q qx qy ox oy A B :=
  ⟨h.head.upd u (hd q (mem_own.2 (.inl rfl))), h.mx.upd u (hd qx (mem_own.2 (.inr (.inl rfl)))) (fun g hg => hd g (mem_own.2 (.inr (.inr (.inr (.inl hg)))))),
   h.my.upd u (hd qy (mem_own.2 (.inr (.inr (.inl rfl))))) (fun g hg => hd g (mem_own.2 (.inr (.inr (.inr (.inr hg)))))), h.ap⟩
theorem HM.upd {bs : List Nat} {w w' : World} {q qx qy : Nat} {L A B : List Nat} (h : HM w q qx qy L A B) (u : Upd bs w w') (hd : ∀ g, g ∈ L → g ∉ bs) : HM w' q qx qy L A B := by
  obtain ⟨ox, oy, h, rfl⟩ := h
  exact ⟨ox, oy, h.upd u hd, rfl⟩
theorem HM.later {w w' : World} {q qx qy : Nat} {L A B : List Nat} (h : HM w q qx qy L A B) (u : Below w.heap.size w w') : HM w' q qx qy L A B :=
  h.upd (Upd.of_below (bs := []) u) (by simp)
theorem HPost.of_below {w w' : World} {q qx qy : Nat} {L A B : List Nat} (h : HM w q qx qy L A B) (u : Below w.heap.size w w') : HPost q qx qy L w A B w' := ⟨L, h.later u, fun _ hg => .inl hg, Upd.of_below u⟩
theorem HPost.refl {w : World} {q qx qy : Nat} {L A B : List Nat} (h : HM w q qx qy L A B) : HPost q qx qy L w A B w := .of_below h (Below.refl _ _)
theorem HPost.trans {w w1 w2 : World} {q qx qy : Nat} {L L1 A B : List Nat} (n1 : ∀ g, g ∈ L1 → g ∈ L ∨ w.heap.size ≤ g) (u1 : Upd L w w1) (p : HPost q qx qy L1 w1 A B w2) : HPost q qx qy L w A B w2 := by
  obtain ⟨L2, h2, n2, u2⟩ := p
  have hs := u1.size
  refine ⟨L2, h2, fun g hg => ?_, u2.os.trans u1.os, u2.tape.trans u1.tape, u2.output.trans u1.output, Nat.le_trans hs u2.size, fun k hk hn => ?_⟩
  · rcases n2 g hg with e | e
    · exact n1 g e
    · exact .inr (by omega)
  · rw [u2.block k (by omega) (fun hm => ?_)]
    · exact u1.block k hk hn
    · rcases n1 k hm with e | e
      · exact hn e
      · omega
theorem HPost.later {w w1 w2 : World} {q qx qy : Nat} {L A B : List Nat} (p : HPost q qx qy L w A B w1) (u : Below w1.heap.size w1 w2) : HPost q qx qy L w A B w2 := by
  obtain ⟨L1, h1, n1, u1⟩ := p
  exact .trans n1 u1 (.of_below h1 u)
/-- A call on the series of the xs. -/
theorem OwnM.stepX {w w' : World} {q qx qy : Nat} {ox oy : Option Nat} {A B C : List Nat} (h : OwnM w q qx qy ox oy A B) (m : MPost qx ox w C w') : ∃ ox', OwnM w' q qx qy ox' oy C B ∧ (∀ g, g ∈ mOwn q qx qy ox' oy → g ∈ mOwn q qx qy ox oy ∨ w.heap.size ≤ g) ∧ Upd (mOwn q qx qy ox oy) w w' := by
  obtain ⟨ox', m', ho, u⟩ := m
  obtain ⟨a1, a2, a3, a4, a5, a6⟩ := own_x h.ap
  have l1 := h.head.lt
  obtain ⟨l2, l3, -⟩ := h.mx.lt
  obtain ⟨l4, l5, -⟩ := h.my.lt
  have hn : ∀ g, g ∉ qx :: ox.toList ↔ g ≠ qx ∧ ox ≠ some g := by intro g; simp
  refine ⟨ox', ⟨h.head.upd u ((hn q).2 ⟨a1, fun e => (a4 q e).1 rfl⟩), m', h.my.upd u ((hn qy).2 ⟨fun e => a3 e.symm, fun e => (a4 qy e).2.2 rfl⟩) (fun g hg => (hn g).2 ⟨(a5 g hg).2.1, fun e => a6 g e hg⟩), ?_⟩, ?_, u.mono ?_⟩
  · refine nodup_of a1 a2 a3 ?_ a5 ?_
    · intro g hg
      rcases ho with e | ⟨g', e, hl⟩
      · exact a4 g (by rw [← e, hg])
      · rw [hg] at e
        obtain rfl : g = g' := by simpa using e
        omega
    · intro g hg hy
      rcases ho with e | ⟨g', e, hl⟩
      · exact a6 g (by rw [← e, hg]) hy
      · rw [hg] at e
        obtain rfl : g = g' := by simpa using e
        have := (l5 g hy).1
        omega
  · intro g hg
    rcases mem_own.1 hg with e | e | e | e | e
    · exact .inl (mem_own.2 (.inl e))
    · exact .inl (mem_own.2 (.inr (.inl e)))
    · exact .inl (mem_own.2 (.inr (.inr (.inl e))))
    · rcases ho with e' | ⟨g', e', hl⟩
      · exact .inl (mem_own.2 (.inr (.inr (.inr (.inl (by rw [← e', e]))))))
      · rw [e] at e'
        obtain rfl : g = g' := by simpa using e'
        exact .inr hl
    · exact .inl (mem_own.2 (.inr (.inr (.inr (.inr e)))))
  · intro x hx
    simp only [List.mem_cons, Option.mem_toList] at hx
    rcases hx with e | e
    · exact mem_own.2 (.inr (.inl e))
    · exact mem_own.2 (.inr (.inr (.inr (.inl e))))
/-- A call on the series of the ys. -/
theorem OwnM.stepY {w w' : World} {q qx qy : Nat} {ox oy : Option Nat} {A B C : List Nat} (h : OwnM w q qx qy ox oy A B) (m : MPost qy oy w C w') : ∃ oy', OwnM w' q qx qy ox oy' A C ∧ (∀ g, g ∈ mOwn q qx qy ox oy' → g ∈ mOwn q qx qy ox oy ∨ w.heap.size ≤ g) ∧ Upd (mOwn q qx qy ox oy) w w' := by
  obtain ⟨oy', m', ho, u⟩ := m
  obtain ⟨a1, a2, a3, a4, a5, a6⟩ := own_x h.ap
  have l1 := h.head.lt
  obtain ⟨l2, l3, -⟩ := h.mx.lt
  obtain ⟨l4, l5, -⟩ := h.my.lt
  have hn : ∀ g, g ∉ qy :: oy.toList ↔ g ≠ qy ∧ oy ≠ some g := by intro g; simp
  refine ⟨oy', ⟨h.head.upd u ((hn q).2 ⟨a2, fun e => (a5 q e).1 rfl⟩), h.mx.upd u ((hn qx).2 ⟨a3, fun e => (a5 qx e).2.1 rfl⟩) (fun g hg => (hn g).2 ⟨(a4 g hg).2.2, fun e => a6 g hg e⟩), m', ?_⟩, ?_, u.mono ?_⟩
  · refine nodup_of a1 a2 a3 a4 ?_ ?_
    · intro g hg
      rcases ho with e | ⟨g', e, hl⟩
      · exact a5 g (by rw [← e, hg])
      · rw [hg] at e
        obtain rfl : g = g' := by simpa using e
        omega
    · intro g hx hg
      rcases ho with e | ⟨g', e, hl⟩
      · exact a6 g hx (by rw [← e, hg])
      · rw [hg] at e
        obtain rfl : g = g' := by simpa using e
        have := (l3 g hx).1
        omega
  · intro g hg
    rcases mem_own.1 hg with e | e | e | e | e
    · exact .inl (mem_own.2 (.inl e))
    · exact .inl (mem_own.2 (.inr (.inl e)))
    · exact .inl (mem_own.2 (.inr (.inr (.inl e))))
    · exact .inl (mem_own.2 (.inr (.inr (.inr (.inl e)))))
    · rcases ho with e' | ⟨g', e', hl⟩
      · exact .inl (mem_own.2 (.inr (.inr (.inr (.inr (by rw [← e', e]))))))
      · rw [e] at e'
        obtain rfl : g = g' := by simpa using e'
        exact .inr hl
  · intro x hx
    simp only [List.mem_cons, Option.mem_toList] at hx
    rcases hx with e | e
    · exact mem_own.2 (.inr (.inr (.inl e)))
    · exact mem_own.2 (.inr (.inr (.inr (.inr e))))
theorem OwnM.at0 {w : World} {q qx qy : Nat} {ox oy : Option Nat} {A B : List Nat} (h : OwnM w q qx qy ox oy A B) : w.cell? ⟨q, 0, none⟩ = some (ptr qx) ∧ w.cell? ⟨q, 1, none⟩ = some (ptr qy) ∧ q < w.heap.size := ⟨h.head.cell 0, h.head.cell 1, h.head.lt⟩
theorem HPost.blk {w w' : World} {q hx hy : Nat} {L C D : List Nat} (m : HPost q hx hy L w C D w') {b : Nat} {c : Array Value} {t : TypeId} (k : Blk w b c t) (hb : b ∉ L) : Blk w' b c t := by
  obtain ⟨L', -, -, u⟩ := m
  exact k.upd u hb
/-- The real side, the law's own pair, and the handed pair in the block g; nothing of theirs lies below N. -/
structure TwoK (N : Nat) (w : World) (g b px bx py bY q hx hy : Nat) (L A B C D : List Nat) : Prop where
  real : BoxA w b px bx py bY A B
  mod : HM w q hx hy L C D
  hand : Blk w g #[ptr px, ptr py] 27
  nr : ∀ k, k ∈ [b, px, bx, py, bY] → N ≤ k ∧ k ∉ L
  nm : ∀ k, k ∈ L → N ≤ k
  gr : g ∉ [b, px, bx, py, bY]
  gm : g ∉ L
theorem TwoK.later {N : Nat} {w w' : World} {g b px bx py bY q hx hy : Nat} {L A B C D : List Nat} (h : TwoK N w g b px bx py bY q hx hy L A B C D) (u : Below w.heap.size w w') : TwoK N w' g b px bx py bY q hx hy L A B C D :=
  ⟨h.real.later u, h.mod.later u, h.hand.below u h.hand.lt, h.nr, h.nm, h.gr, h.gm⟩
theorem TwoK.alloc {N : Nat} {w : World} {g b px bx py bY q hx hy : Nat} {L A B C D : List Nat} (h : TwoK N w g b px bx py bY q hx hy L A B C D) (x : Obj) : TwoK N (w.alloc x) g b px bx py bY q hx hy L A B C D := h.later ((Below.refl _ _).alloc (Nat.le_refl _) _)
theorem TwoK.size {N : Nat} {w : World} {g b px bx py bY q hx hy : Nat} {L A B C D : List Nat} (h : TwoK N w g b px bx py bY q hx hy L A B C D) : N ≤ w.heap.size := by
  have := h.real.lt.1 b (by simp); have := (h.nr b (by simp)).1; omega
theorem TwoK.model {N : Nat} {w w' : World} {g b px bx py bY q hx hy : Nat} {L A B C D E F : List Nat} (h : TwoK N w g b px bx py bY q hx hy L A B C D) (m : HPost q hx hy L w E F w') : (∃ L', TwoK N w' g b px bx py bY q hx hy L' A B E F) ∧ Below N w w' := by
  obtain ⟨L', m', n, u⟩ := m
  refine ⟨⟨L', h.real.upd u (fun k hk => (h.nr k hk).2), m', h.hand.upd u h.gm, ?_, ?_, h.gr, ?_⟩, u.below h.size h.nm⟩
  · intro k hk
    refine ⟨(h.nr k hk).1, fun hm => ?_⟩
    rcases n k hm with e | e
    · exact (h.nr k hk).2 e
    · have := h.real.lt.1 k hk; omega
  · intro k hk
    rcases n k hk with e | e
    · exact h.nm k e
    · have := h.size; omega
  · intro hm
    rcases n g hm with e | e
    · exact h.gm e
    · have := h.hand.lt; omega
theorem TwoK.mid {N : Nat} {w w' : World} {g b px bx py bY q hx hy : Nat} {L A B C D E F : List Nat} (h : TwoK N w g b px bx py bY q hx hy L A B C D) (m : RPost b px bx py bY w E F w') : TwoK N w' g b px bx py bY q hx hy L E F C D ∧ Below N w w' := by
  obtain ⟨s, u⟩ := m
  exact ⟨⟨s, h.mod.upd u (fun k hk hm => (h.nr k hm).2 hk), h.hand.upd u h.gr, h.nr, h.nm, h.gr, h.gm⟩, u.below h.size (fun k hk => (h.nr k hk).1)⟩
theorem TwoK.lt {N : Nat} {w : World} {g b px bx py bY q hx hy : Nat} {L A B C D : List Nat} (h : TwoK N w g b px bx py bY q hx hy L A B C D) : w.heap.size ∉ [b, px, bx, py, bY] ∧ w.heap.size ∉ L :=
  ⟨fun hm => by have := h.real.lt.1 _ hm; omega, fun hm => by have := h.mod.lt.1 _ hm; omega⟩

end Go.Proofs.Qxb6500472a
