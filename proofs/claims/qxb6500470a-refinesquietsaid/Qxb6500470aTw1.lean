import Derived.Test.Qxb6500470aCm4
import Derived.Test.Qxb6500470aKzh
namespace Go.Proofs.Qxb6500470a
open Go.RowKit
/-- The model's machine, its own blocks named. -/
structure MN (w : World) (m p : Nat) (a : Option Addr) (acc : Int) (l : List TV) : Prop where
  head : Blk w m #[ptr p, I acc] 103
  st : ∃ cap cs, MSA (fun k => k < w.heap.size ∧ ¬ ownS p a k) w p a cap l.reverse cs
  mp : m ≠ p
  ma : blk? a ≠ some m
  ok : Fine l
  a1 : -9223372036854775808 ≤ acc
  a2 : acc ≤ 9223372036854775807
theorem MacM.mn {K : Nat → Prop} {w : World} {m p : Nat} {acc : Int} {l : List TV} (h : MacM K w m p acc l) : ∃ a, MN w m p a acc l ∧ ∀ k, K k → ¬ ownM m p a k := by
  obtain ⟨a, cap, cs, hA⟩ := h.st
  have hs : ∀ k, (K k ∨ k = m) → k < w.heap.size ∧ ¬ ownS p a k := by
    intro k hk
    refine ⟨hA.ks k hk, ?_⟩
    rintro (rfl | e)
    · exact hA.kp hk
    · exact hA.ka k e hk
  refine ⟨a, ⟨h.head, ⟨cap, cs, hA.head, hA.own, hA.vals.mono hs, hA.far, fun e => e.2 (.inl rfl), fun g hg e => e.2 (.inr hg), fun _ h => h.1, hA.le⟩, fun e => hA.kp (.inr e.symm), fun e => hA.ka m e (.inr rfl), h.ok, h.a1, h.a2⟩, ?_⟩
  rintro k hk (rfl | e)
  · exact h.km hk
  · exact (hs k (.inl hk)).2 e
section
variable {w w' : World} {m p : Nat} {a : Option Addr} {acc : Int} {l : List TV}
theorem MN.mac (h : MN w m p a acc l) : MacM (fun k => k < w.heap.size ∧ ¬ ownM m p a k) w m p acc l := by
  obtain ⟨cap, cs, hA⟩ := h.st
  have ht : MT (fun k => k < w.heap.size ∧ ¬ ownS p a k) w p l := ⟨a, cap, cs, hA⟩
  refine ⟨h.head, ht.congr ?_, fun e => e.2 (.inl rfl), h.ok, h.a1, h.a2⟩
  intro k
  constructor
  · rintro ⟨h1, h2⟩
    by_cases e : k = m
    · exact .inr e
    · exact .inl ⟨h1, fun hk => hk.elim e h2⟩
  · rintro (⟨h1, h2⟩ | rfl)
    · exact ⟨h1, fun e => h2 (.inr e)⟩
    · exact ⟨h.head.lt, fun e => e.elim h.mp h.ma⟩
theorem MN.blocks (h : MN w m p a acc l) : ∀ k, ownM m p a k → ∃ c t, Blk w k c t ∧ (t = 103 ∨ t = 126 ∨ t = 137) := by
  obtain ⟨cap, cs, hA⟩ := h.st
  rintro k (rfl | rfl | hk)
  · exact ⟨_, _, h.head, .inl rfl⟩
  · exact ⟨_, _, hA.head, .inr (.inl rfl)⟩
  · rcases hA.own.2 with ⟨e, -⟩ | ⟨g, c, cur, hv, -, hg, -⟩
    · simp only [Value.slice.injEq] at e; rw [e.1] at hk; cases hk
    · simp only [Value.slice.injEq] at hv
      rw [hv.1] at hk
      obtain rfl : g = k := by simpa [blk?] using hk
      exact ⟨cur, _, hg, .inr (.inr rfl)⟩
theorem MN.lt (h : MN w m p a acc l) : ∀ k, ownM m p a k → k < w.heap.size := fun k hk => by
  obtain ⟨c, t, hb, -⟩ := h.blocks k hk
  exact hb.lt
theorem MO.blocks (h : MO w m p a acc l) : ∀ k, ownM m p a k → ∃ c t, Blk w k c t ∧ (t = 45 ∨ t = 62 ∨ t = 64) := by
  rintro k (rfl | hk)
  · exact ⟨_, _, h.head, .inl rfl⟩
  · obtain ⟨c, t, hb, ht⟩ := h.so.blocks k hk
    exact ⟨c, t, hb, .inr ht⟩
theorem MN.kept {L : Nat → Prop} (h : MN w m p a acc l) (kk : Kept L w w') (h1 : ∀ k, ownM m p a k → L k) (h0 : ∀ k c, Blk w k c 137 → L k) : MN w' m p a acc l := by
  obtain ⟨cap, cs, hA⟩ := h.st
  have row : ∀ k n cs, RowK (fun k => k < w.heap.size ∧ ¬ ownS p a k) w k n cs → RowK (fun k => k < w'.heap.size ∧ ¬ ownS p a k) w' k n cs := by
    rintro k n cs ⟨ho, hb⟩
    refine ⟨⟨ho.1, ?_⟩, fun g hg => ⟨Nat.lt_of_lt_of_le (hb g hg).1 kk.size, (hb g hg).2⟩⟩
    rcases ho.2 with h0' | ⟨g, c, cur, hv, h1, hg, h2⟩
    · exact .inl h0'
    · exact .inr ⟨g, c, cur, hv, h1, Blk.kept (w := w) (t := 137) hg kk (h0 g cur hg), h2⟩
  exact ⟨h.head.kept kk (h1 m (.inl rfl)), ⟨cap, cs, hA.head.kept kk (h1 p (.inr (.inl rfl))), own_kept hA.own kk (fun g hg => h1 g (.inr (.inr hg))), hA.vals.mono' row, hA.far, fun e => e.2 (.inl rfl), fun g hg e => e.2 (.inr hg), fun _ h => h.1, hA.le⟩, h.mp, h.ma, h.ok, h.a1, h.a2⟩
end
/-- The machine x and the model side by side; the blocks of L are nobody's. -/
def TwoC (L : Nat → Prop) (w : World) (m1 p1 m2 : Nat) (acc : Int) (st : List TV) (acc2 : Int) (st2 : List TV) : Prop :=
  ∃ a1 p2 a2, MO w m1 p1 a1 acc st ∧ MN w m2 p2 a2 acc2 st2 ∧ (∀ k, ownM m1 p1 a1 k → ¬ ownM m2 p2 a2 k) ∧ (∀ k, L k → ¬ ownM m1 p1 a1 k ∧ ¬ ownM m2 p2 a2 k) ∧ (∀ k, L k → k < w.heap.size)
section
variable {L : Nat → Prop} {w w' : World} {m1 p1 m2 : Nat} {acc acc2 : Int} {st st2 : List TV}
theorem TwoC.lt (h : TwoC L w m1 p1 m2 acc st acc2 st2) : ∀ k, L k → k < w.heap.size := by
  obtain ⟨a1, p2, a2, x, y, d, dl, lt⟩ := h
  exact lt
theorem TwoC.weak {M : Nat → Prop} (h : TwoC L w m1 p1 m2 acc st acc2 st2) (hs : ∀ k, M k → L k) : TwoC M w m1 p1 m2 acc st acc2 st2 := by
  obtain ⟨a1, p2, a2, x, y, d, dl, lt⟩ := h
  exact ⟨a1, p2, a2, x, y, d, fun k hk => dl k (hs k hk), fun k hk => lt k (hs k hk)⟩
/-- Whatever writes no block but those of answers. -/
theorem TwoC.kept {N : Nat → Prop} (h : TwoC L w m1 p1 m2 acc st acc2 st2) (kk : Kept N w w') (hN : ∀ k c t, Blk w k c t → t ≠ 57 → N k) : TwoC L w' m1 p1 m2 acc st acc2 st2 := by
  obtain ⟨a1, p2, a2, x, y, d, dl, lt⟩ := h
  refine ⟨a1, p2, a2, x.kept kk ?_ ?_, y.kept kk ?_ ?_, d, dl, fun k hk => Nat.lt_of_lt_of_le (lt k hk) kk.size⟩
  · intro k hk
    obtain ⟨c, t, hb, ht⟩ := x.blocks k hk
    exact hN k c t hb (by rcases ht with rfl | rfl | rfl <;> decide)
  · rintro k ⟨c, t, hb, ht⟩
    exact hN k c t hb (by rcases ht with rfl | rfl <;> decide)
  · intro k hk
    obtain ⟨c, t, hb, ht⟩ := y.blocks k hk
    exact hN k c t hb (by rcases ht with rfl | rfl | rfl <;> decide)
  · intro k c hb
    exact hN k c _ hb (by decide)
theorem TwoC.later (h : TwoC L w m1 p1 m2 acc st acc2 st2) (b : Below w.heap.size w w') : TwoC L w' m1 p1 m2 acc st acc2 st2 :=
  h.kept (Kept.of_below b (fun _ h => h)) (fun _ _ _ hb _ => hb.lt)
theorem TwoC.grow (h : TwoC L w m1 p1 m2 acc st acc2 st2) (b : Below w.heap.size w w') : TwoC (fun k => L k ∨ (w.heap.size ≤ k ∧ k < w'.heap.size)) w' m1 p1 m2 acc st acc2 st2 := by
  obtain ⟨a1, p2, a2, x, y, d, dl, lt⟩ := h
  have kk : Kept (· < w.heap.size) w w' := Kept.of_below b (fun _ h => h)
  refine ⟨a1, p2, a2, x.kept kk x.lt (fun _ h => h.lt), y.kept kk y.lt (fun _ _ h => h.lt), d, ?_, ?_⟩
  · rintro k (hk | hk)
    · exact dl k hk
    · exact ⟨fun e => by have := x.lt _ e; omega, fun e => by have := y.lt _ e; omega⟩
  · rintro k (hk | hk)
    · exact Nat.lt_of_lt_of_le (lt k hk) b.size
    · exact hk.2
theorem TwoC.set (h : TwoC L w m1 p1 m2 acc st acc2 st2) {q : Nat} {c : Array Value} (hq : Blk w q c 57) (i : Nat) (v : Value) : TwoC L (w.setCell ⟨q, i, none⟩ v) m1 p1 m2 acc st acc2 st2 :=
  h.kept (N := fun k => k ≠ q) ((Kept.refl _ w).setCell (fun e => e rfl) v) (fun k c' t hb hn e => hn (by subst e; exact hb.ty hq))
theorem TwoC.turnX (h : TwoC L w m1 p1 m2 acc st acc2 st2) : ∃ K : Nat → Prop, MacT K w m1 p1 acc st ∧ ∀ acc' st' w', Tm K w m1 p1 acc' st' w' → TwoC L w' m1 p1 m2 acc' st' acc2 st2 ∧ Kept L w w' := by
  obtain ⟨a1, p2, a2, x, y, d, dl, lt⟩ := h
  refine ⟨fun k => k < w.heap.size ∧ ¬ ownM m1 p1 a1 k, x.mac (fun k hk => ⟨hk.lt, x.kv k hk⟩) (fun _ h => h.2) (fun _ h => h.1), ?_⟩
  rintro acc' st' w' ⟨K', mm, nn, mt, kk⟩
  obtain ⟨a1', x', hd⟩ := mt.mo
  have yK : ∀ k, ownM m2 p2 a2 k → k < w.heap.size ∧ ¬ ownM m1 p1 a1 k := fun k hk => ⟨y.lt k hk, fun e => d k e hk⟩
  have LK : ∀ k, L k → k < w.heap.size ∧ ¬ ownM m1 p1 a1 k := fun k hk => ⟨lt k hk, (dl k hk).1⟩
  have vK : ∀ k c, Blk w k c 137 → k < w.heap.size ∧ ¬ ownM m1 p1 a1 k := by
    intro k c hb
    refine ⟨hb.lt, fun e => ?_⟩
    obtain ⟨c', t', hb', ht'⟩ := x.blocks k e
    have := hb.ty hb'
    subst this
    rcases ht' with e | e | e <;> cases e
  exact ⟨⟨a1', p2, a2, x', y.kept kk yK vK, fun k hk e => hd k (mm k (yK k e)) hk, fun k hk => ⟨hd k (mm k (LK k hk)), (dl k hk).2⟩, fun k hk => Nat.lt_of_lt_of_le (lt k hk) kk.size⟩, kk.weak LK⟩
theorem TwoC.turnY (h : TwoC L w m1 p1 m2 acc st acc2 st2) : ∃ (K : Nat → Prop) (p2 : Nat), MacM K w m2 p2 acc2 st2 ∧ ∀ acc' st' w', TmM K w m2 acc' st' w' → TwoC L w' m1 p1 m2 acc st acc' st' ∧ Kept L w w' := by
  obtain ⟨a1, p2, a2, x, y, d, dl, lt⟩ := h
  refine ⟨_, p2, y.mac, ?_⟩
  rintro acc' st' w' ⟨K', p2', mm, nn, mt, kk⟩
  obtain ⟨a2', y', hd⟩ := mt.mn
  have xK : ∀ k, ownM m1 p1 a1 k → k < w.heap.size ∧ ¬ ownM m2 p2 a2 k := fun k hk => ⟨x.lt k hk, d k hk⟩
  have LK : ∀ k, L k → k < w.heap.size ∧ ¬ ownM m2 p2 a2 k := fun k hk => ⟨lt k hk, (dl k hk).2⟩
  have vK : ∀ k, KV w k → k < w.heap.size ∧ ¬ ownM m2 p2 a2 k := by
    rintro k ⟨c, t, hb, ht⟩
    refine ⟨hb.lt, fun e => ?_⟩
    obtain ⟨c', t', hb', ht'⟩ := y.blocks k e
    have := hb.ty hb'
    subst this
    rcases ht with rfl | rfl <;> rcases ht' with e | e | e <;> cases e
  exact ⟨⟨a1, p2', a2', x.kept kk xK vK, y', fun k hk => hd k (mm k (xK k hk)), fun k hk => ⟨(dl k hk).1, hd k (mm k (LK k hk))⟩, fun k hk => Nat.lt_of_lt_of_le (lt k hk) kk.size⟩, kk.weak LK⟩
theorem two_run (h : TwoC L w m1 p1 m2 acc st acc2 st2) (s : List UInt8) (hs : s.length < 9223372036854775808) (R : ResT) (hR : runAllT s acc st = R) :
    Calls Try.prog 30 #[ptr m1, S s] w fun e w' => e = .returned (.tuple #[I R.1, I R.2.1]) ∧ TwoC L w' m1 p1 m2 R.2.2.1 R.2.2.2 acc2 st2 ∧ Kept L w w' := by
  obtain ⟨K, mt, hK⟩ := h.turnX
  refine (run_w K w m1 p1 acc st mt s R hR hs).mono ?_
  rintro e w' ⟨rfl, tm⟩
  exact ⟨rfl, hK _ _ _ tm⟩
theorem two_runM (h : TwoC L w m1 p1 m2 acc st acc2 st2) (s : List UInt8) (hs : s.length < 9223372036854775808) (R : ResT) (hR : runAllT s acc2 st2 = R) :
    Calls Try.prog 71 #[ptr m2, S s] w fun e w' => e = .returned (.tuple #[I R.1, I R.2.1]) ∧ TwoC L w' m1 p1 m2 acc st R.2.2.1 R.2.2.2 ∧ Kept L w w' := by
  obtain ⟨K, p2, mt, hK⟩ := h.turnY
  refine (runM_w K w m2 p2 acc2 st2 mt s R hR hs).mono ?_
  rintro e w' ⟨rfl, tm⟩
  exact ⟨rfl, hK _ _ _ tm⟩
theorem two_show (h : TwoC L w m1 p1 m2 acc st acc2 st2) : Calls Try.prog 31 #[ptr m1] w fun e w' => e = .returned (S (macTx acc st)) ∧ TwoC L w' m1 p1 m2 acc st acc2 st2 ∧ Kept L w w' := by
  obtain ⟨K, mt, hK⟩ := h.turnX
  refine (macShowT K w m1 p1 acc st mt).mono ?_
  rintro e w' ⟨rfl, b⟩
  exact ⟨rfl, h.later b, Kept.of_below b h.lt⟩
theorem two_check (h : TwoC L w m1 p1 m2 acc st acc2 st2) : Calls Try.prog 32 #[ptr m1] w fun e w' => e = .returned (.bool true) ∧ TwoC L w' m1 p1 m2 acc st acc2 st2 ∧ Kept L w w' := by
  obtain ⟨K, mt, hK⟩ := h.turnX
  refine (macCheckT K w m1 p1 acc st mt).mono ?_
  rintro e w' ⟨rfl, b⟩
  exact ⟨rfl, h.later b, Kept.of_below b h.lt⟩
theorem two_showM (h : TwoC L w m1 p1 m2 acc st acc2 st2) : Calls Try.prog 69 #[ptr m2] w fun e w' => e = .returned (S (macTx acc2 st2)) ∧ TwoC L w' m1 p1 m2 acc st acc2 st2 ∧ Kept L w w' := by
  obtain ⟨K, p2, mt, hK⟩ := h.turnY
  refine (cmShow_w K w m2 p2 acc2 st2 mt).mono ?_
  rintro e w' ⟨rfl, b⟩
  exact ⟨rfl, h.later b, Kept.of_below b h.lt⟩
theorem two_checkM (h : TwoC L w m1 p1 m2 acc st acc2 st2) : Calls Try.prog 70 #[ptr m2] w fun e w' => e = .returned (.bool true) ∧ TwoC L w' m1 p1 m2 acc st acc2 st2 ∧ Kept L w w' := by
  obtain ⟨K, p2, mt, hK⟩ := h.turnY
  refine (cmCheck_w K w m2 p2 acc2 st2 mt).mono ?_
  rintro e w' ⟨rfl, b⟩
  exact ⟨rfl, h.later b, Kept.of_below b h.lt⟩
end
end Go.Proofs.Qxb6500470a
