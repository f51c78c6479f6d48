import Derived.Test.Qxb6500470aVmu
import Derived.Test.Qxb6500470aVm8
import Derived.Test.Qxb6500470aVma
import Derived.Test.Qxb6500470aVms
import Derived.Test.Qxb6500470aKz1
namespace Go.Proofs.Qxb6500470a
open Go.RowKit
theorem mNeg_w (K : Nat → Prop) (w : World) (p : Nat) (st : List TV) (h : MT K w p st) (hf : Fine st) : Calls Try.prog 108 #[ptr p] w (Wm K w p (wNeg st)) := by
  cases st with
  | nil => refine (mneg_under K w p h).mono ?_; rintro e w' ⟨rfl, rfl⟩; exact ⟨rfl, .refl h⟩
  | cons x r =>
    have h5 := h.len
    have no : (tagM x = 2 ∨ tagM x = 3) → Calls Try.prog 108 #[ptr p] w (Wm K w p (x :: r, 5)) := by
      intro ht
      refine (mNeg_no K w p x r h ht).mono ?_
      rintro e w' ⟨rfl, bb⟩
      exact ⟨rfl, .below h bb⟩
    cases x with
    | int n =>
      have := mNeg_int K w p n r h
      obtain ⟨z1, z2⟩ := w64_bounds (-n)
      rw [put1 _ _ r h5 (int_len _ z1 z2)] at this
      exact this
    | pair a b =>
      have hl := hf.head
      rw [text_pair] at hl
      have la : (text a).length ≤ 30 := by simp at hl; omega
      have lb : (text b).length ≤ 30 := by simp at hl; omega
      have := mNeg_pair K w p a b r h la lb
      rw [put1 _ _ r h5 (by rw [text_pair]; simp at hl ⊢; omega)] at this
      exact this
    | str s => exact no (.inl rfl)
    | nil => exact no (.inr rfl)
    | cons a b => exact no (.inr rfl)
theorem mCons_w (K : Nat → Prop) (w : World) (p : Nat) (st : List TV) (h : MT K w p st) (hf : Fine st) : Calls Try.prog 104 #[ptr p] w (Wm K w p (wCons st)) := by
  match st, h, hf with
  | [], h, _ => refine (mcons_under K w p _ (by decide) h).mono ?_; rintro e w' ⟨rfl, rfl⟩; exact ⟨rfl, .refl h⟩
  | [_], h, _ => refine (mcons_under K w p _ (by simp) h).mono ?_; rintro e w' ⟨rfl, rfl⟩; exact ⟨rfl, .refl h⟩
  | y :: x :: r, h, hf =>
    unfold wCons
    dsimp only
    cases hx : x.isList with
    | false =>
      rw [if_neg (by simp)]
      refine (mCons_kind K w p y x r h hx).mono ?_
      rintro e w' ⟨rfl, rfl⟩
      exact ⟨rfl, .refl h⟩
    | true =>
      rw [if_pos rfl]
      have key : Calls Try.prog 104 #[ptr p] w (Wm K w p (wPutM 2 (.cons y x) (y :: x :: r))) := by
        cases x with
        | nil => exact mCons_nil K w p y r h hf.head
        | cons a b => exact mCons_cons K w p y _ r h hf.head hf.tail.head rfl (by show 0 < (a :: elems b).length; simp)
        | _ => cases hx
      rw [put2 y x _ r h.len _ rfl] at key
      by_cases hl : (text (.cons y x)).length ≤ 30
      · rw [if_neg (by omega), if_neg (by omega)] at key; rw [if_pos hl]; exact key
      · rw [if_pos (by omega), if_pos (by omega)] at key; rw [if_neg hl]; exact key
/-- The model's machine at m over the stack at p. -/
structure MacM (K : Nat → Prop) (w : World) (m p : Nat) (acc : Int) (l : List TV) : Prop where
  head : Blk w m #[ptr p, I acc] 103
  st : MT (fun k => K k ∨ k = m) w p l
  km : ¬ K m
  ok : Fine l
  a1 : -9223372036854775808 ≤ acc
  a2 : acc ≤ 9223372036854775807
/-- The machine behind a call. -/
def TmM (K : Nat → Prop) (w : World) (m : Nat) (acc : Int) (st : List TV) (w' : World) : Prop := ∃ (K' : Nat → Prop) (p : Nat), (∀ k, K k → K' k) ∧ (∀ k, K' k → K k ∨ w.heap.size ≤ k) ∧ MacM K' w' m p acc st ∧ Kept K w w'
theorem MacM.ks {K : Nat → Prop} {w : World} {m p : Nat} {acc : Int} {st : List TV} (h : MacM K w m p acc st) : ∀ k, K k → k < w.heap.size := fun k hk => h.st.ks k (.inl hk)
theorem MacM.later {K : Nat → Prop} {w w' : World} {m p : Nat} {acc : Int} {st : List TV} (h : MacM K w m p acc st) (b : Below w.heap.size w w') : MacM K w' m p acc st :=
  ⟨h.head.below b h.head.lt, h.st.later b, h.km, h.ok, h.a1, h.a2⟩
theorem MacM.drewN {K : Nat → Prop} {w : World} {m p : Nat} {acc : Int} {st : List TV} (h : MacM K w m p acc st) (n : Nat) : MacM K (w.drewN n) m p acc st := h.later ⟨rfl, rfl, rfl, Nat.le_refl _, fun _ _ => rfl⟩
theorem MacM.at0 {K : Nat → Prop} {w : World} {m p : Nat} {acc : Int} {st : List TV} (h : MacM K w m p acc st) : w.cell? ⟨m, 0, none⟩ = some (ptr p) ∧ w.cell? ⟨m, 1, none⟩ = some (I acc) ∧ w.frozen? ⟨m, 0, none⟩ = false ∧ w.frozen? ⟨m, 1, none⟩ = false ∧ m < w.heap.size :=
  ⟨h.head.cell 0, h.head.cell 1, h.head.frozen 0, h.head.frozen 1, h.head.lt⟩
theorem TmM.below {K : Nat → Prop} {w w' : World} {m p : Nat} {acc : Int} {st : List TV} (h : MacM K w m p acc st) (b : Below w.heap.size w w') : TmM K w m acc st w' := ⟨K, p, fun _ h => h, fun _ h => .inl h, h.later b, Kept.of_below b h.ks⟩
theorem TmM.refl {K : Nat → Prop} {w : World} {m p : Nat} {acc : Int} {st : List TV} (h : MacM K w m p acc st) : TmM K w m acc st w := .below h (Below.refl _ _)
theorem TmM.trans {K K1 : Nat → Prop} {w w1 w2 : World} {m : Nat} {acc : Int} {st : List TV} (mm : ∀ k, K k → K1 k) (n : ∀ k, K1 k → K k ∨ w.heap.size ≤ k) (kk : Kept K w w1) (t : TmM K1 w1 m acc st w2) : TmM K w m acc st w2 := by
  obtain ⟨K2, p2, m2, n2, s2, k2⟩ := t
  refine ⟨K2, p2, fun k h => m2 k (mm k h), fun k h => ?_, s2, kk.trans (k2.weak mm)⟩
  rcases n2 k h with e | e
  · exact n k e
  · exact .inr (Nat.le_trans kk.size e)
theorem MT.congr {K L : Nat → Prop} {w : World} {p : Nat} {st : List TV} (h : MT K w p st) (e : ∀ k, K k ↔ L k) : MT L w p st := by
  obtain ⟨a, cap, cs, h⟩ := h
  exact ⟨a, cap, cs, h.head, h.own, h.vals.mono (fun k hk => (e k).1 hk), h.far, fun hk => h.kp ((e p).2 hk), fun g hg hk => h.ka g hg ((e g).2 hk), fun k hk => h.ks k ((e k).2 hk), h.le⟩
/-- Behind a call on the stack. -/
theorem MacM.word {K : Nat → Prop} {w w' : World} {m p : Nat} {acc : Int} {st st' : List TV} (h : MacM K w m p acc st) (t : TurnM (fun k => K k ∨ k = m) w p st' w') (hf : Fine st') : TmM K w m acc st' w' := by
  obtain ⟨K2, m2, n2, s2, k2⟩ := t
  refine ⟨fun k => K2 k ∧ k ≠ m, p, fun k hk => ⟨m2 k (.inl hk), fun e => h.km (e ▸ hk)⟩, ?_, ⟨h.head.kept k2 (.inr rfl), s2.congr (fun k => ?_), fun e => e.2 rfl, hf, h.a1, h.a2⟩, k2.weak (fun _ h => .inl h)⟩
  · rintro k ⟨hk, hne⟩
    rcases n2 k hk with (e | e) | e
    · exact .inl e
    · exact absurd e hne
    · exact .inr e
  · constructor
    · intro hk
      by_cases e : k = m
      · exact .inr e
      · exact .inl ⟨hk, e⟩
    · rintro (e | rfl)
      · exact e.1
      · exact m2 _ (.inr rfl)
/-- A store into the machine's own block. -/
theorem MacM.stAt {K : Nat → Prop} {w w' : World} {m p : Nat} {acc : Int} {st : List TV} (h : MacM K w m p acc st) (hs : w'.heap.size = w.heap.size) (hk : ∀ k, k ≠ m → w'.heap[k]? = w.heap[k]?) : MT (fun k => K k ∨ k = m) w' p st := by
  obtain ⟨a, cap, cs, hA⟩ := h.st
  have row : ∀ k n cs, RowK (fun k => K k ∨ k = m) w k n cs → RowK (fun k => K k ∨ k = m) w' k n cs := by
    rintro k n cs ⟨ho, hb⟩
    refine ⟨⟨ho.1, ?_⟩, hb⟩
    rcases ho.2 with h0 | ⟨g, c, cur, hv, h1, hg, h2⟩
    · exact .inl h0
    · refine .inr ⟨g, c, cur, hv, h1, ?_, h2⟩
      have hne : g ≠ m := by
        rintro rfl
        have := Blk.ty (w := w) (t := 137) hg h.head
        exact absurd this (by decide)
      rw [hk g hne]
      exact hg
  have hp : p ≠ m := fun e => hA.kp (.inr e)
  have ow : w'.ownsRow 0 137 4 (.slice a st.reverse.length cap) st.reverse.length cs := by
    refine ⟨hA.own.1, ?_⟩
    rcases hA.own.2 with h0 | ⟨g, c, cur, hv, h1, hg, h2⟩
    · exact .inl h0
    · refine .inr ⟨g, c, cur, hv, h1, ?_, h2⟩
      have e : a = some ⟨g, 0, none⟩ := by simp only [Value.slice.injEq] at hv; exact hv.1
      have hne : g ≠ m := fun e2 => hA.ka g (by rw [e]; rfl) (.inr e2)
      rw [hk g hne]
      exact hg
  have hd : Blk w' p #[.slice a st.reverse.length cap] 126 := (hk p hp).trans hA.head
  exact ⟨a, cap, cs, hd, ow, hA.vals.mono' row, hA.far, hA.kp, hA.ka, fun k e => by rw [hs]; exact hA.ks k e, hA.le⟩
theorem MacM.acc {K : Nat → Prop} {w : World} {m p : Nat} {acc acc' : Int} {st : List TV} (h : MacM K w m p acc st) (a1 : -9223372036854775808 ≤ acc') (a2 : acc' ≤ 9223372036854775807) : MacM K (w.setCell ⟨m, 1, none⟩ (I acc')) m p acc' st ∧ Kept K w (w.setCell ⟨m, 1, none⟩ (I acc')) :=
  ⟨⟨h.head.set (i := 1) (I acc'), h.stAt (by simp [World.setCell]) (fun _ hk => Below.heap_setCell _ _ _ _ hk), h.km, h.ok, a1, a2⟩, (Kept.refl K w).setCell h.km _⟩
end Go.Proofs.Qxb6500470a
