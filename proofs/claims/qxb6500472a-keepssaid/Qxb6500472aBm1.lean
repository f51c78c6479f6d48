import Derived.Test.Qxb6500472aBx4
namespace Go.Proofs.Qxb6500472a
open Go.RowKit
attribute [local go_sem] run_store_float drewN_alloc drewN_setCell
/-- The blocks of the abstract box. -/
def mOwn (q qx qy : Nat) (ox oy : Option Nat) : List Nat := q :: qx :: qy :: (ox.toList ++ oy.toList)
/-- The abstract box by its points; its blocks. -/
structure BoxM (w : World) (q qx qy : Nat) (ox oy : Option Nat) (A B : List Nat) : Prop where
  head : Blk w q #[ptr qx, ptr qy] 112
  mx : MA w qx ox A
  my : MA w qy oy B
  ap : (mOwn q qx qy ox oy).Nodup
def BM (w : World) (q : Nat) (L : List Nat) (A B : List Nat) : Prop := ∃ qx qy ox oy, BoxM w q qx qy ox oy A B ∧ L = mOwn q qx qy ox oy
/-- Behind a call on it. -/
def BPost (q : Nat) (L : List Nat) (w : World) (A B : List Nat) (w' : World) : Prop := ∃ L', BM w' q L' A B ∧ (∀ g, g ∈ L' → g ∈ L ∨ w.heap.size ≤ g) ∧ Upd L w w'
theorem mem_own {q qx qy g : Nat} {ox oy : Option Nat} : g ∈ mOwn q qx qy ox oy ↔ g = q ∨ g = qx ∨ g = qy ∨ ox = some g ∨ oy = some g := by
  simp [mOwn]
theorem BoxM.lt {w : World} {q qx qy : Nat} {ox oy : Option Nat} {A B : List Nat} (h : BoxM w q qx qy ox oy A B) : ∀ g, g ∈ mOwn q qx qy ox oy → g < w.heap.size := by
  intro g hg
  have l1 := h.head.lt
  obtain ⟨l2, l3, -⟩ := h.mx.lt
  obtain ⟨l4, l5, -⟩ := h.my.lt
  rcases mem_own.1 hg with e | e | e | e | e
  · omega
  · omega
  · omega
  · exact (l3 g e).1
  · exact (l5 g e).1
theorem BM.lt {w : World} {q : Nat} {L A B : List Nat} (h : BM w q L A B) : (∀ g, g ∈ L → g < w.heap.size) ∧ A.length ≤ 8 ∧ q ∈ L := by
  obtain ⟨qx, qy, ox, oy, h, rfl⟩ := h
  exact ⟨h.lt, h.mx.lt.2.2, by simp [mOwn]⟩
theorem BoxM.upd {bs : List Nat} {w w' : World} {q qx qy : Nat} {ox oy : Option Nat} {A B : List Nat} (h : BoxM w q qx qy ox oy A B) (u : Upd bs w w') (hd : ∀ g, g ∈ mOwn q qx qy ox oy → g ∉ bs) : BoxM w' q qx qy ox oy A B :=
  ⟨h.head.upd u (hd q (mem_own.2 (.inl rfl))), h.mx.upd u (hd qx (mem_own.2 (.inr (.inl rfl)))) (fun g hg => hd g (mem_own.2 (.inr (.inr (.inr (.inl hg)))))),
   h.my.upd u (hd qy (mem_own.2 (.inr (.inr (.inl rfl))))) (fun g hg => hd g (mem_own.2 (.inr (.inr (.inr (.inr hg)))))), h.ap⟩
theorem BM.upd {bs : List Nat} {w w' : World} {q : Nat} {L A B : List Nat} (h : BM w q L A B) (u : Upd bs w w') (hd : ∀ g, g ∈ L → g ∉ bs) : BM w' q L A B := by
  obtain ⟨qx, qy, ox, oy, h, rfl⟩ := h
  exact ⟨qx, qy, ox, oy, h.upd u hd, rfl⟩
theorem BM.later {w w' : World} {q : Nat} {L A B : List Nat} (h : BM w q L A B) (u : Below w.heap.size w w') : BM w' q L A B :=
  h.upd (Upd.of_below (bs := []) u) (by simp)
theorem BPost.of_below {w w' : World} {q : Nat} {L A B : List Nat} (h : BM w q L A B) (u : Below w.heap.size w w') : BPost q L w A B w' := ⟨L, h.later u, fun _ hg => .inl hg, Upd.of_below u⟩
theorem BPost.refl {w : World} {q : Nat} {L A B : List Nat} (h : BM w q L A B) : BPost q L w A B w := .of_below h (Below.refl _ _)
theorem BPost.trans {w w1 w2 : World} {q : Nat} {L L1 A B : List Nat} (n1 : ∀ g, g ∈ L1 → g ∈ L ∨ w.heap.size ≤ g) (u1 : Upd L w w1) (p : BPost q L1 w1 A B w2) : BPost q L w A B w2 := by
  obtain ⟨L2, h2, n2, u2⟩ := p
  have hs := u1.size
  refine ⟨L2, h2, fun g hg => ?_, u2.os.trans u1.os, u2.tape.trans u1.tape, u2.output.trans u1.output, Nat.le_trans hs u2.size, fun k hk hn => ?_⟩
  · rcases n2 g hg with e | e
    · exact n1 g e
    · exact .inr (by omega)
  · rw [u2.block k (by omega) (fun hm => ?_)]
    · exact u1.block k hk hn
    · rcases n1 k hm with e | e
      · exact hn e
      · omega
theorem BPost.later {w w1 w2 : World} {q : Nat} {L A B : List Nat} (p : BPost q L w A B w1) (u : Below w1.heap.size w1 w2) : BPost q L w A B w2 := by
  obtain ⟨L1, h1, n1, u1⟩ := p
  exact .trans n1 u1 (.of_below h1 u)
theorem own_x {q qx qy : Nat} {ox oy : Option Nat} (h : (mOwn q qx qy ox oy).Nodup) : q ≠ qx ∧ q ≠ qy ∧ qx ≠ qy ∧ (∀ g, ox = some g → g ≠ q ∧ g ≠ qx ∧ g ≠ qy) ∧ (∀ g, oy = some g → g ≠ q ∧ g ≠ qx ∧ g ≠ qy) ∧ (∀ g, ox = some g → oy ≠ some g) := by
  unfold mOwn at h
  cases ox <;> cases oy <;> simp [List.nodup_cons] at h ⊢ <;> omega
theorem nodup_of {q qx qy : Nat} {ox oy : Option Nat} (h1 : q ≠ qx) (h2 : q ≠ qy) (h3 : qx ≠ qy) (h4 : ∀ g, ox = some g → g ≠ q ∧ g ≠ qx ∧ g ≠ qy) (h5 : ∀ g, oy = some g → g ≠ q ∧ g ≠ qx ∧ g ≠ qy) (h6 : ∀ g, ox = some g → oy ≠ some g) : (mOwn q qx qy ox oy).Nodup := by
  unfold mOwn
  cases ox with
  | none =>
    cases oy with
    | none => simp; omega
    | some h => have := h5 h rfl; simp; omega
  | some g =>
    have := h4 g rfl
    cases oy with
    | none => simp; omega
    | some h => have := h5 h rfl; have := h6 g rfl; simp at this; simp; omega
/-- A call on the series of the xs. -/
theorem BoxM.stepX {w w' : World} {q qx qy : Nat} {ox oy : Option Nat} {A B C : List Nat} (h : BoxM w q qx qy ox oy A B) (m : MPost qx ox w C w') : ∃ ox', BoxM w' q qx qy ox' oy C B ∧ (∀ g, g ∈ mOwn q qx qy ox' oy → g ∈ mOwn q qx qy ox oy ∨ w.heap.size ≤ g) ∧ Upd (mOwn q qx qy ox oy) w w' := by
  obtain ⟨ox', m', ho, u⟩ := m
  obtain ⟨a1, a2, a3, a4, a5, a6⟩ := own_x h.ap
  have l1 := h.head.lt
  obtain ⟨l2, l3, -⟩ := h.mx.lt
  obtain ⟨l4, l5, -⟩ := h.my.lt
  have hn : ∀ g, g ∉ qx :: ox.toList ↔ g ≠ qx ∧ ox ≠ some g := by intro g; simp
  refine ⟨ox', ⟨h.head.upd u ((hn q).2 ⟨a1, fun e => (a4 q e).1 rfl⟩), m', h.my.upd u ((hn qy).2 ⟨fun e => a3 e.symm, fun e => (a4 qy e).2.2 rfl⟩) (fun g hg => (hn g).2 ⟨(a5 g hg).2.1, fun e => a6 g e hg⟩), ?_⟩, ?_, u.mono ?_⟩
  · refine nodup_of a1 a2 a3 ?_ a5 ?_
    · intro g hg
      rcases ho with e | ⟨g', e, hl⟩
      · exact a4 g (by rw [← e, hg])
      · rw [hg] at e
        obtain rfl : g = g' := by simpa using e
        omega
    · intro g hg hy
      rcases ho with e | ⟨g', e, hl⟩
      · exact a6 g (by rw [← e, hg]) hy
      · rw [hg] at e
        obtain rfl : g = g' := by simpa using e
        have := (l5 g hy).1
        omega
  · intro g hg
    rcases mem_own.1 hg with e | e | e | e | e
    · exact .inl (mem_own.2 (.inl e))
    · exact .inl (mem_own.2 (.inr (.inl e)))
    · exact .inl (mem_own.2 (.inr (.inr (.inl e))))
    · rcases ho with e' | ⟨g', e', hl⟩
      · exact .inl (mem_own.2 (.inr (.inr (.inr (.inl (by rw [← e', e]))))))
      · rw [e] at e'
        obtain rfl : g = g' := by simpa using e'
        exact .inr hl
    · exact .inl (mem_own.2 (.inr (.inr (.inr (.inr e)))))
  · intro x hx
    simp only [List.mem_cons, Option.mem_toList] at hx
    rcases hx with e | e
    · exact mem_own.2 (.inr (.inl e))
    · exact mem_own.2 (.inr (.inr (.inr (.inl e))))
/-- A call on the series of the ys. -/
theorem BoxM.stepY {w w' : World} {q qx qy : Nat} {ox oy : Option Nat} {A B C : List Nat} (h : BoxM w q qx qy ox oy A B) (m : MPost qy oy w C w') : ∃ oy', BoxM w' q qx qy ox oy' A C ∧ (∀ g, g ∈ mOwn q qx qy ox oy' → g ∈ mOwn q qx qy ox oy ∨ w.heap.size ≤ g) ∧ Upd (mOwn q qx qy ox oy) w w' := by
  obtain ⟨oy', m', ho, u⟩ := m
  obtain ⟨a1, a2, a3, a4, a5, a6⟩ := own_x h.ap
  have l1 := h.head.lt
  obtain ⟨l2, l3, -⟩ := h.mx.lt
  obtain ⟨l4, l5, -⟩ := h.my.lt
  have hn : ∀ g, g ∉ qy :: oy.toList ↔ g ≠ qy ∧ oy ≠ some g := by intro g; simp
  refine ⟨oy', ⟨h.head.upd u ((hn q).2 ⟨a2, fun e => (a5 q e).1 rfl⟩), h.mx.upd u ((hn qx).2 ⟨a3, fun e => (a5 qx e).2.1 rfl⟩) (fun g hg => (hn g).2 ⟨(a4 g hg).2.2, fun e => a6 g hg e⟩), m', ?_⟩, ?_, u.mono ?_⟩
  · refine nodup_of a1 a2 a3 a4 ?_ ?_
    · intro g hg
      rcases ho with e | ⟨g', e, hl⟩
      · exact a5 g (by rw [← e, hg])
      · rw [hg] at e
        obtain rfl : g = g' := by simpa using e
        omega
    · intro g hx hg
      rcases ho with e | ⟨g', e, hl⟩
      · exact a6 g hx (by rw [← e, hg])
      · rw [hg] at e
        obtain rfl : g = g' := by simpa using e
        have := (l3 g hx).1
        omega
  · intro g hg
    rcases mem_own.1 hg with e | e | e | e | e
    · exact .inl (mem_own.2 (.inl e))
    · exact .inl (mem_own.2 (.inr (.inl e)))
    · exact .inl (mem_own.2 (.inr (.inr (.inl e))))
    · exact .inl (mem_own.2 (.inr (.inr (.inr (.inl e)))))
    · rcases ho with e' | ⟨g', e', hl⟩
      · exact .inl (mem_own.2 (.inr (.inr (.inr (.inr (by rw [← e', e]))))))
      · rw [e] at e'
        obtain rfl : g = g' := by simpa using e'
        exact .inr hl
  · intro x hx
    simp only [List.mem_cons, Option.mem_toList] at hx
    rcases hx with e | e
    · exact mem_own.2 (.inr (.inr (.inl e)))
    · exact mem_own.2 (.inr (.inr (.inr (.inr e))))
theorem BoxM.at0 {w : World} {q qx qy : Nat} {ox oy : Option Nat} {A B : List Nat} (h : BoxM w q qx qy ox oy A B) : w.cell? ⟨q, 0, none⟩ = some (ptr qx) ∧ w.cell? ⟨q, 1, none⟩ = some (ptr qy) ∧ q < w.heap.size := ⟨h.head.cell 0, h.head.cell 1, h.head.lt⟩

set_option maxHeartbeats 1000000 in
theorem mbNew_any (w : World) :
    Calls Try.prog 60 #[] w fun e w' => ∃ q L, e = .returned (ptr q) ∧ BM w' q L [] [] ∧ (∀ g, g ∈ L → w.heap.size ≤ g) ∧ Below w.heap.size w w' := by
  go_enter Try.func60, Try.ntmps60
  go_wp2_with fail
  refine (mNew_any w).mono ?_
  rintro e w1 ⟨rfl, m1, b1⟩
  go_wp2_with fail
  refine (mNew_any w1).mono ?_
  rintro e w2 ⟨rfl, m2, b2⟩
  have z1 := m1.head.lt
  have z2 := m2.head.lt
  have s1 := b1.size
  have s2 := b2.size
  go_wp2
  go_ret
  have mx : MA w2 w.heap.size none [] := MA.later ⟨_, _, _, _, m1, rfl, rfl⟩ b2
  have my : MA w2 w1.heap.size none [] := ⟨_, _, _, _, m2, rfl, rfl⟩
  refine ⟨w2.heap.size, [w2.heap.size, w.heap.size, w1.heap.size], rfl, ⟨w.heap.size, w1.heap.size, none, none, ⟨Blk.new rfl, mx.later ((Below.refl _ _).alloc (Nat.le_refl _) _), my.later ((Below.refl _ _).alloc (Nat.le_refl _) _), ?_⟩, rfl⟩, ?_, ?_⟩
  · refine nodup_of (by omega) (by omega) (by omega) ?_ ?_ ?_ <;> (intro g hg; cases hg)
  · intro g hg
    simp at hg
    omega
  · exact (b1.trans (b2.mono s1)).alloc (by omega) _

set_option maxHeartbeats 1000000 in
theorem mbLen_any (w : World) (q : Nat) (L A B : List Nat) (h : BM w q L A B) :
    Calls Try.prog 81 #[ptr q] w fun e w' => e = .returned (I A.length) ∧ BPost q L w A B w' := by
  obtain ⟨qx, qy, ox, oy, h, rfl⟩ := h
  obtain ⟨c0, c1, lq⟩ := h.at0
  go_enter Try.func81, Try.ntmps81
  go_wp2_with fail
  refine (ma_len w qx ox A h.mx).mono ?_
  rintro e w1 ⟨rfl, m1⟩
  obtain ⟨ox1, h1, n1, u1⟩ := h.stepX m1
  go_wp2
  go_ret
  exact ⟨rfl, _, ⟨qx, qy, ox1, oy, h1, rfl⟩, n1, u1⟩

set_option maxHeartbeats 1000000 in
theorem mbAdd_full (w : World) (q : Nat) (L A B : List Nat) (h : BM w q L A B) (hn : A.length = 8) (i j d : Int) :
    Calls Try.prog 79 #[ptr q, I i, I j, I d] w fun e w' => e = .returned (I 1) ∧ BPost q L w A B w' := by
  obtain ⟨qx, qy, ox, oy, h, rfl⟩ := h
  obtain ⟨c0, c1, lq⟩ := h.at0
  have ML := ma_len w qx ox A h.mx
  rw [hn] at ML
  go_enter Try.func79, Try.ntmps79
  go_wp2_with fail
  refine ML.mono ?_
  rintro e w1 ⟨rfl, m1⟩
  obtain ⟨ox1, h1, n1, u1⟩ := h.stepX m1
  go_wp2
  go_ret
  exact ⟨rfl, _, ⟨qx, qy, ox1, oy, h1, rfl⟩, n1, u1⟩

set_option maxHeartbeats 1000000 in
theorem mbAdd_room (w : World) (q : Nat) (L A B : List Nat) (h : BM w q L A B) (len : B.length = A.length) (hn : A.length < 8) (i j d : Int) :
    Calls Try.prog 79 #[ptr q, I i, I j, I d] w fun e w' => e = .returned (I 0) ∧ BPost q L w (A ++ [ratioF i d]) (B ++ [ratioF j d]) w' := by
  obtain ⟨qx, qy, ox, oy, h, rfl⟩ := h
  obtain ⟨c0, c1, lq⟩ := h.at0
  have ML := ma_len w qx ox A h.mx
  have PX := fun V o hV => ma_push i d V qx o A hV hn
  have PY := fun V o hV => ma_push j d V qy o B hV (by omega)
  have hn' : ¬ (8 : Int) ≤ (A.length : Int) := by omega
  generalize A ++ [ratioF i d] = A' at *
  generalize B ++ [ratioF j d] = B' at *
  go_enter Try.func79, Try.ntmps79
  go_wp2_with fail
  refine ML.mono ?_
  rintro e w1 ⟨rfl, m1⟩
  obtain ⟨ox1, h1, n1, u1⟩ := h.stepX m1
  clear c0 c1 lq ML m1
  obtain ⟨c0, c1, lq⟩ := h1.at0
  go_wp2_with fail
  refine (PX _ _ h1.mx).mono ?_
  rintro e w2 ⟨rfl, m2⟩
  obtain ⟨ox2, h2, n2, u2⟩ := h1.stepX m2
  clear c0 c1 lq PX m2
  obtain ⟨c0, c1, lq⟩ := h2.at0
  go_wp2_with fail
  refine (PY _ _ h2.my).mono ?_
  rintro e w3 ⟨rfl, m3⟩
  obtain ⟨oy3, h3, n3, u3⟩ := h2.stepY m3
  clear c0 c1 lq PY m3
  go_wp2
  go_ret
  exact ⟨rfl, .trans n1 u1 (.trans n2 u2 ⟨_, ⟨qx, qy, ox2, oy3, h3, rfl⟩, n3, u3⟩)⟩

set_option maxHeartbeats 1000000 in
theorem mbDrop_none (w : World) (q : Nat) (L A B : List Nat) (h : BM w q L A B) (hn : A = []) :
    Calls Try.prog 80 #[ptr q] w fun e w' => e = .returned (I 2) ∧ BPost q L w A B w' := by
  obtain ⟨qx, qy, ox, oy, h, rfl⟩ := h
  obtain ⟨c0, c1, lq⟩ := h.at0
  have ML := ma_len w qx ox A h.mx
  rw [show A.length = 0 from by rw [hn]; rfl] at ML
  clear hn
  go_enter Try.func80, Try.ntmps80
  go_wp2_with fail
  refine ML.mono ?_
  rintro e w1 ⟨rfl, m1⟩
  obtain ⟨ox1, h1, n1, u1⟩ := h.stepX m1
  go_wp2
  go_ret
  exact ⟨rfl, _, ⟨qx, qy, ox1, oy, h1, rfl⟩, n1, u1⟩

set_option maxHeartbeats 1000000 in
theorem mbDrop_some (w : World) (q : Nat) (L A B : List Nat) (h : BM w q L A B) (len : B.length = A.length) (hA : A ≠ []) :
    Calls Try.prog 80 #[ptr q] w fun e w' => e = .returned (I 0) ∧ BPost q L w A.dropLast B.dropLast w' := by
  obtain ⟨qx, qy, ox, oy, h, rfl⟩ := h
  obtain ⟨c0, c1, lq⟩ := h.at0
  have hB : B ≠ [] := by intro e; rw [e] at len; exact hA (List.eq_nil_of_length_eq_zero len.symm)
  have ML := ma_len w qx ox A h.mx
  have PX := fun V o hV => ma_pop V qx o A hV hA
  have PY := fun V o hV => ma_pop V qy o B hV hB
  have hn' : ((A.length : Int) == 0) = false := by simp; exact hA
  generalize A.dropLast = A' at *
  generalize B.dropLast = B' at *
  clear hA hB
  go_enter Try.func80, Try.ntmps80
  go_wp2_with fail
  refine ML.mono ?_
  rintro e w1 ⟨rfl, m1⟩
  obtain ⟨ox1, h1, n1, u1⟩ := h.stepX m1
  clear c0 c1 lq ML m1
  obtain ⟨c0, c1, lq⟩ := h1.at0
  go_wp2_with fail
  refine (PX _ _ h1.mx).mono ?_
  rintro e w2 ⟨rfl, m2⟩
  obtain ⟨ox2, h2, n2, u2⟩ := h1.stepX m2
  clear c0 c1 lq PX m2
  obtain ⟨c0, c1, lq⟩ := h2.at0
  go_wp2_with fail
  refine (PY _ _ h2.my).mono ?_
  rintro e w3 ⟨rfl, m3⟩
  obtain ⟨oy3, h3, n3, u3⟩ := h2.stepY m3
  clear c0 c1 lq PY m3
  go_wp2
  go_ret
  exact ⟨rfl, .trans n1 u1 (.trans n2 u2 ⟨_, ⟨qx, qy, ox2, oy3, h3, rfl⟩, n3, u3⟩)⟩
end Go.Proofs.Qxb6500472a
