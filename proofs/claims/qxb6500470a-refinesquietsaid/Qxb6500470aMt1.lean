import Derived.Test.Qxb6500470aWd3
import Derived.Test.Qxb6500470aCal12
namespace Go.Proofs.Qxb6500470a
open Go.RowKit
/-- The machine at m over the stack at p: the accumulator acc, the values st (the top first). -/
structure MacT (K : Nat → Prop) (w : World) (m p : Nat) (acc : Int) (l : List TV) : Prop where
  head : Blk w m (macCells p acc) 45
  st : SRep (fun k => K k ∨ k = m) w p l
  km : ¬ K m
  ok : Fine l
  a1 : -9223372036854775808 ≤ acc
  a2 : acc ≤ 9223372036854775807
/-- The machine behind a call. -/
def Tm (K : Nat → Prop) (w : World) (m p : Nat) (acc : Int) (st : List TV) (w' : World) : Prop := ∃ K' : Nat → Prop, (∀ k, K k → K' k) ∧ (∀ k, K' k → K k ∨ w.heap.size ≤ k) ∧ MacT K' w' m p acc st ∧ Kept K w w'
theorem MacT.ks {K : Nat → Prop} {w : World} {m p : Nat} {acc : Int} {st : List TV} (h : MacT K w m p acc st) : ∀ k, K k → k < w.heap.size := fun k hk => h.st.ks k (.inl hk)
theorem MacT.later {K : Nat → Prop} {w w' : World} {m p : Nat} {acc : Int} {st : List TV} (h : MacT K w m p acc st) (b : Below w.heap.size w w') : MacT K w' m p acc st :=
  ⟨h.head.below b h.head.lt, h.st.later b, h.km, h.ok, h.a1, h.a2⟩
theorem MacT.at0 {K : Nat → Prop} {w : World} {m p : Nat} {acc : Int} {st : List TV} (h : MacT K w m p acc st) : w.cell? ⟨m, 0, none⟩ = some (ptr p) ∧ w.cell? ⟨m, 1, none⟩ = some (I acc) ∧ w.frozen? ⟨m, 1, none⟩ = false ∧ m < w.heap.size :=
  ⟨h.head.cell 0, h.head.cell 1, h.head.frozen 1, h.head.lt⟩
theorem MacT.low {K : Nat → Prop} {w : World} {m p : Nat} {acc : Int} {st : List TV} (h : MacT K w m p acc st) (k : Nat) (v : Value) (hv : (macCells p acc)[k]? = some v) : w.cell? ⟨m, k, none⟩ = some v := (h.head.cell k).trans hv
theorem Tm.below {K : Nat → Prop} {w w' : World} {m p : Nat} {acc : Int} {st : List TV} (h : MacT K w m p acc st) (b : Below w.heap.size w w') : Tm K w m p acc st w' := ⟨K, fun _ h => h, fun _ h => .inl h, h.later b, Kept.of_below b h.ks⟩
theorem Tm.refl {K : Nat → Prop} {w : World} {m p : Nat} {acc : Int} {st : List TV} (h : MacT K w m p acc st) : Tm K w m p acc st w := .below h (Below.refl _ _)
theorem Tm.trans {K K1 : Nat → Prop} {w w1 w2 : World} {m p : Nat} {acc : Int} {st : List TV} (mm : ∀ k, K k → K1 k) (n : ∀ k, K1 k → K k ∨ w.heap.size ≤ k) (kk : Kept K w w1) (t : Tm K1 w1 m p acc st w2) : Tm K w m p acc st w2 := by
  obtain ⟨K2, m2, n2, s2, k2⟩ := t
  refine ⟨K2, fun k h => m2 k (mm k h), fun k h => ?_, s2, kk.trans (k2.weak mm)⟩
  rcases n2 k h with e | e
  · exact n k e
  · exact .inr (by have := kk.size; omega)
theorem SRep.congr {K L : Nat → Prop} {w : World} {p : Nat} {st : List TV} (h : SRep K w p st) (e : ∀ k, K k ↔ L k) : SRep L w p st := by
  obtain ⟨vs, hs, r⟩ := h
  exact ⟨vs, hs.weak (fun k hk => (e k).2 hk), r.mono (fun k hk => (e k).1 hk)⟩
/-- Behind a call on the stack. -/
theorem MacT.word {K : Nat → Prop} {w w' : World} {m p : Nat} {acc : Int} {st st' : List TV} (h : MacT K w m p acc st) (t : Turn (fun k => K k ∨ k = m) w p st' w') (hf : Fine st') : Tm K w m p acc st' w' := by
  obtain ⟨K2, m2, n2, s2, k2⟩ := t
  refine ⟨fun k => K2 k ∧ k ≠ m, fun k hk => ⟨m2 k (.inl hk), fun e => h.km (e ▸ hk)⟩, ?_, ⟨h.head.kept k2 (.inr rfl), s2.congr (fun k => ?_), fun e => e.2 rfl, hf, h.a1, h.a2⟩, k2.weak (fun _ h => .inl h)⟩
  · rintro k ⟨hk, hne⟩
    rcases n2 k hk with (e | e) | e
    · exact .inl e
    · exact absurd e hne
    · exact .inr e
  · constructor
    · intro hk
      by_cases e : k = m
      · exact .inr e
      · exact .inl ⟨hk, e⟩
    · rintro (e | rfl)
      · exact e.1
      · exact m2 _ (.inr rfl)
theorem SRep.kept {K : Nat → Prop} {w w' : World} {p b i : Nat} {u : Value} {st : List TV} (h : SRep (fun k => K k ∨ k = b) w p st) (hw : w' = w.setCell ⟨b, i, none⟩ u) (hv : ∀ x v, RV (fun k => K k ∨ k = b) w x v → RV (fun k => K k ∨ k = b) w' x v) : SRep (fun k => K k ∨ k = b) w' p st := by
  obtain ⟨vs, ⟨a, cap, hA⟩, r⟩ := h
  subst hw
  refine ⟨vs, ⟨a, cap, hA.kept (L := fun k => k ≠ b) ⟨rfl, rfl, rfl, by simp [World.setCell], fun k hk => Below.heap_setCell _ _ _ _ hk⟩ (fun e => hA.kp (.inr e)) (fun g hg e => hA.ka g hg (.inr e))⟩, ?_⟩
  clear hA
  induction st generalizing vs with
  | nil => cases vs with
    | nil => trivial
    | cons v vs => exact r.elim
  | cons x st ih => cases vs with
    | nil => exact r.elim
    | cons v vs => exact ⟨hv x v r.1, ih vs r.2⟩
theorem RV.mach {K : Nat → Prop} {w w' : World} {m : Nat} {c : Array Value} (bm : Blk w m c 45) (kk : ∀ k, k ≠ m → w'.heap[k]? = w.heap[k]?) : ∀ {x : TV} {v : Value}, RV (fun k => K k ∨ k = m) w x v → RV (fun k => K k ∨ k = m) w' x v := by
  have ne : ∀ {q : Nat} {c' : Array Value} {t : TypeId}, Blk w q c' t → t ≠ 45 → Blk w' q c' t := by
    intro q c' t hb ht
    have : q ≠ m := by
      rintro rfl
      unfold Blk at hb bm
      rw [hb] at bm
      simp only [Option.some.injEq, Obj.cells.injEq] at bm
      exact ht bm.2.1
    exact (kk q this).trans hb
  intro x
  induction x with
  | int n => intro v h; exact h
  | str s => intro v h; exact h
  | nil => intro v h; exact h
  | cons a b iha ihb =>
    rintro v ⟨q, hv, tp, e, k, bl, r1, r2⟩
    exact ⟨q, hv, tp, e, k, ne bl (by decide), iha r1, ihb r2⟩
  | pair a b iha ihb =>
    rintro v ⟨q, av, bv, e, k, bl, r1, r2⟩
    exact ⟨q, av, bv, e, k, ne bl (by decide), iha r1, ihb r2⟩
theorem MacT.acc {K : Nat → Prop} {w : World} {m p : Nat} {acc acc' : Int} {st : List TV} (h : MacT K w m p acc st) (a1 : -9223372036854775808 ≤ acc') (a2 : acc' ≤ 9223372036854775807) : MacT K (w.setCell ⟨m, 1, none⟩ (I acc')) m p acc' st ∧ Kept K w (w.setCell ⟨m, 1, none⟩ (I acc')) :=
  ⟨⟨h.head.set (i := 1) (I acc'), h.st.kept rfl (fun _ _ r => r.mach h.head (fun _ hk => Below.heap_setCell _ _ _ _ hk)), h.km, h.ok, a1, a2⟩, (Kept.refl K w).setCell h.km _⟩
theorem SRep.drewN {K : Nat → Prop} {w : World} {p : Nat} {st : List TV} (h : SRep K w p st) (n : Nat) : SRep K (w.drewN n) p st := by
  obtain ⟨vs, ⟨a, cap, hA⟩, r⟩ := h
  have kk : ∀ L, Kept L w (w.drewN n) := fun L => ⟨rfl, rfl, rfl, Nat.le_refl _, fun _ _ => rfl⟩
  exact ⟨vs, ⟨a, cap, hA.kept (kk (fun _ => True)) trivial (fun _ _ => trivial)⟩, r.kept (kk _)⟩
theorem MacT.drewN {K : Nat → Prop} {w : World} {m p : Nat} {acc : Int} {st : List TV} (h : MacT K w m p acc st) (n : Nat) : MacT K (w.drewN n) m p acc st := ⟨h.head, h.st.drewN n, h.km, h.ok, h.a1, h.a2⟩
/-- TopInt's two answers. -/
def topT : List TV → Int × Int
  | [] => (0, 4)
  | .int n :: _ => (n, 0)
  | _ => (0, 2)
theorem topInt_w (K : Nat → Prop) (w : World) (p : Nat) (st : List TV) (h : SRep K w p st) : Calls Try.prog 92 #[ptr p] w fun e w' => e = .returned (.tuple #[I (topT st).1, I (topT st).2]) ∧ w' = w := by
  cases st with
  | nil => exact topInt_none K w p h.nil
  | cons x st =>
    obtain ⟨v, us, hs, rx, rs⟩ := h.c1
    cases x with
    | int n => obtain ⟨rfl, -⟩ := rx; exact topInt_int K w p _ n hs
    | str z => obtain rfl : v = VS z := rx; exact topInt_str K w p _ z hs
    | nil => obtain rfl : v = VL := rx; exact topInt_lst K w p _ none hs
    | cons a b => obtain ⟨q, hv, tq, rfl, -⟩ := rx; exact topInt_lst K w p _ _ hs
    | pair a b => obtain ⟨q, av, bv, rfl, -⟩ := rx; exact topInt_pair K w p _ _ hs
theorem SRep.topB {K : Nat → Prop} {w : World} {p : Nat} {n : Int} {st : List TV} (h : SRep K w p (.int n :: st)) : -9223372036854775808 ≤ n ∧ n ≤ 9223372036854775807 := by
  obtain ⟨v, us, hs, rx, rs⟩ := h.c1
  exact rx.2
theorem topT_zero {st : List TV} (h : (topT st).2 = 0) : ∃ n r, st = .int n :: r ∧ topT st = (n, 0) := by
  match st, h with
  | [], h => cases h
  | .int n :: r, _ => exact ⟨n, r, rfl, rfl⟩
  | .str _ :: _, h => cases h
  | .nil :: _, h => cases h
  | .cons _ _ :: _, h => cases h
  | .pair _ _ :: _, h => cases h
/-- The accumulator's words: the accumulator, the stack and the answer behind. -/
def regT (c : UInt8) (acc : Int) (st : List TV) : Int × List TV × Int :=
  if (topT st).2 ≠ 0 then (acc, st, (topT st).2)
  else if c = 83 then ((topT st).1, st.tail, 0)
  else if (topT st).1 = 0 then (acc, st, 10)
  else if c = 68 then (wrap64 (acc.tdiv (topT st).1), st.tail, 0)
  else (acc.tmod (topT st).1, st.tail, 0)
end Go.Proofs.Qxb6500470a
