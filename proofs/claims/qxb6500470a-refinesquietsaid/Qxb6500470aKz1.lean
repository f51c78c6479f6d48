import Derived.Test.Qxb6500470aMt8
namespace Go.Proofs.Qxb6500470a
open Go.RowKit
/-- The cells of values: no word ever writes one. -/
def KV (w : World) (k : Nat) : Prop := ∃ c t, Blk w k c t ∧ (t = 72 ∨ t = 91)
theorem KV.lt {w : World} {k : Nat} (h : KV w k) : k < w.heap.size := by obtain ⟨c, t, b, -⟩ := h; exact b.lt
theorem RV.kv {K : Nat → Prop} {w : World} : ∀ {x : TV} {v : Value}, RV K w x v → RV (KV w) w x v
  | .int _, _, h => h
  | .str _, _, h => h
  | .nil, _, h => h
  | .cons _ _, _, ⟨q, hv, tp, e, _, b, r1, r2⟩ => ⟨q, hv, tp, e, ⟨_, _, b, .inl rfl⟩, b, RV.kv r1, RV.kv r2⟩
  | .pair _ _, _, ⟨q, av, bv, e, _, b, r1, r2⟩ => ⟨q, av, bv, e, ⟨_, _, b, .inr rfl⟩, b, RV.kv r1, RV.kv r2⟩
theorem RS.kv {K : Nat → Prop} {w : World} : ∀ {xs : List TV} {vs : List Value}, RS K w xs vs → RS (KV w) w xs vs
  | [], [], _ => trivial
  | _ :: _, _ :: _, h => ⟨h.1.kv, RS.kv h.2⟩
  | [], _ :: _, h => h.elim
  | _ :: _, [], h => h.elim
theorem Blk.ty {w : World} {b : Nat} {c c' : Array Value} {t t' : TypeId} (h : Blk w b c t) (h' : Blk w b c' t') : t = t' := by
  unfold Blk at h h'
  rw [h] at h'
  simp only [Option.some.injEq, Obj.cells.injEq] at h'
  exact h'.2.1
def ownS (p : Nat) (a : Option Addr) (k : Nat) : Prop := k = p ∨ blk? a = some k
def ownM (m p : Nat) (a : Option Addr) (k : Nat) : Prop := k = m ∨ ownS p a k
/-- The stack at p, its values in the block of a. -/
structure SO (w : World) (p : Nat) (a : Option Addr) (l : List TV) : Prop where
  st : ∃ cap vs, StA (fun _ => False) w p a cap vs.reverse ∧ RS (KV w) w l vs
  ok : Fine l
structure MO (w : World) (m p : Nat) (a : Option Addr) (acc : Int) (l : List TV) : Prop where
  head : Blk w m (macCells p acc) 45
  so : SO w p a l
  mp : m ≠ p
  ma : blk? a ≠ some m
  a1 : -9223372036854775808 ≤ acc
  a2 : acc ≤ 9223372036854775807
theorem SO.blocks {w : World} {p : Nat} {a : Option Addr} {l : List TV} (h : SO w p a l) : ∀ k, ownS p a k → ∃ c t, Blk w k c t ∧ (t = 62 ∨ t = 64) := by
  obtain ⟨cap, vs, hA, -⟩ := h.st
  rintro k (rfl | hk)
  · exact ⟨_, _, hA.head, .inl rfl⟩
  · rcases hA.own.2 with ⟨e, -⟩ | ⟨g, c, cur, hv, -, hg, -⟩
    · simp only [Value.slice.injEq] at e; rw [e.1] at hk; cases hk
    · simp only [Value.slice.injEq] at hv
      rw [hv.1] at hk
      obtain rfl : g = k := by simpa [blk?] using hk
      exact ⟨cur, _, hg, .inr rfl⟩
theorem SO.kv {w : World} {p : Nat} {a : Option Addr} {l : List TV} (h : SO w p a l) : ∀ k, KV w k → ¬ ownS p a k := by
  rintro k ⟨c, t, hb, ht⟩ hk
  obtain ⟨c', t', hb', ht'⟩ := h.blocks k hk
  have := hb.ty hb'
  subst this
  rcases ht with rfl | rfl <;> rcases ht' with e | e <;> cases e
theorem MO.kv {w : World} {m p : Nat} {a : Option Addr} {acc : Int} {l : List TV} (h : MO w m p a acc l) : ∀ k, KV w k → ¬ ownM m p a k := by
  rintro k hk (rfl | e)
  · obtain ⟨c, t, hb, ht⟩ := hk
    have := hb.ty h.head
    subst this
    rcases ht with e | e <;> cases e
  · exact h.so.kv k hk e
theorem SO.lt {w : World} {p : Nat} {a : Option Addr} {l : List TV} (h : SO w p a l) : ∀ k, ownS p a k → k < w.heap.size := fun k hk => by
  obtain ⟨c, t, hb, -⟩ := h.blocks k hk
  exact hb.lt
theorem MO.lt {w : World} {m p : Nat} {a : Option Addr} {acc : Int} {l : List TV} (h : MO w m p a acc l) : ∀ k, ownM m p a k → k < w.heap.size := by
  rintro k (rfl | e)
  · exact h.head.lt
  · exact h.so.lt k e
theorem StA.anyK {K K' : Nat → Prop} {w : World} {p : Nat} {a : Option Addr} {cap : Nat} {vs : List Value} (h : StA K w p a cap vs) (h1 : ∀ k, K' k → ¬ ownS p a k) (h2 : ∀ k, K' k → k < w.heap.size) : StA K' w p a cap vs :=
  ⟨h.head, h.own, h.far, fun e => h1 p e (.inl rfl), fun g hg e => h1 g e (.inr hg), h2, h.le⟩
theorem SO.rep {w : World} {p : Nat} {a : Option Addr} {l : List TV} (h : SO w p a l) {K : Nat → Prop} (h0 : ∀ k, KV w k → K k) (h1 : ∀ k, K k → ¬ ownS p a k) (h2 : ∀ k, K k → k < w.heap.size) : SRep K w p l := by
  obtain ⟨cap, vs, hA, r⟩ := h.st
  exact ⟨vs, ⟨a, cap, hA.anyK h1 h2⟩, r.mono h0⟩
theorem MO.mac {w : World} {m p : Nat} {a : Option Addr} {acc : Int} {l : List TV} (h : MO w m p a acc l) {K : Nat → Prop} (h0 : ∀ k, KV w k → K k) (h1 : ∀ k, K k → ¬ ownM m p a k) (h2 : ∀ k, K k → k < w.heap.size) : MacT K w m p acc l := by
  refine ⟨h.head, h.so.rep (fun k hk => .inl (h0 k hk)) ?_ ?_, fun e => h1 m e (.inl rfl), h.so.ok, h.a1, h.a2⟩
  · rintro k (e | rfl) hk
    · exact h1 k e (.inr hk)
    · rcases hk with e | e
      · exact h.mp e
      · exact h.ma e
  · rintro k (e | rfl)
    · exact h2 k e
    · exact h.head.lt
theorem SRep.so {K : Nat → Prop} {w : World} {p : Nat} {l : List TV} (h : SRep K w p l) (hf : Fine l) : ∃ a, SO w p a l ∧ ∀ k, K k → ¬ ownS p a k := by
  obtain ⟨vs, ⟨a, cap, hA⟩, r⟩ := h
  refine ⟨a, ⟨⟨cap, vs, hA.anyK (fun _ h => h.elim) (fun _ h => h.elim), r.kv⟩, hf⟩, ?_⟩
  rintro k hk (rfl | e)
  · exact hA.kp hk
  · exact hA.ka k e hk
theorem MacT.mo {K : Nat → Prop} {w : World} {m p : Nat} {acc : Int} {l : List TV} (h : MacT K w m p acc l) : ∃ a, MO w m p a acc l ∧ ∀ k, K k → ¬ ownM m p a k := by
  obtain ⟨a, so, hd⟩ := h.st.so h.ok
  refine ⟨a, ⟨h.head, so, fun e => hd m (.inr rfl) (.inl e), fun e => hd m (.inr rfl) (.inr e), h.a1, h.a2⟩, ?_⟩
  rintro k hk (rfl | e)
  · exact h.km hk
  · exact hd k (.inl hk) e
theorem KV.kept {L : Nat → Prop} {w w' : World} (kk : Kept L w w') (h : ∀ k, KV w k → L k) : ∀ k, KV w k → KV w' k := by
  rintro k hk
  have := h k hk
  obtain ⟨c, t, hb, ht⟩ := hk
  exact ⟨c, t, hb.kept kk this, ht⟩
theorem SO.kept {L : Nat → Prop} {w w' : World} {p : Nat} {a : Option Addr} {l : List TV} (h : SO w p a l) (kk : Kept L w w') (h1 : ∀ k, ownS p a k → L k) (h0 : ∀ k, KV w k → L k) : SO w' p a l := by
  obtain ⟨cap, vs, hA, r⟩ := h.st
  exact ⟨⟨cap, vs, hA.kept kk (h1 p (.inl rfl)) (fun g hg => h1 g (.inr hg)), (r.kept (kk.weak h0)).mono (KV.kept kk h0)⟩, h.ok⟩
theorem MO.kept {L : Nat → Prop} {w w' : World} {m p : Nat} {a : Option Addr} {acc : Int} {l : List TV} (h : MO w m p a acc l) (kk : Kept L w w') (h1 : ∀ k, ownM m p a k → L k) (h0 : ∀ k, KV w k → L k) : MO w' m p a acc l :=
  ⟨h.head.kept kk (h1 m (.inl rfl)), h.so.kept kk (fun k hk => h1 k (.inr hk)) h0, h.mp, h.ma, h.a1, h.a2⟩
/-- The blocks of L and the values' cells are as they were. -/
def Kp (L : Nat → Prop) (w w' : World) : Prop := Kept (fun k => L k ∨ KV w k) w w'
theorem Kp.refl (L : Nat → Prop) (w : World) : Kp L w w := Kept.refl _ _
theorem Kp.trans {L : Nat → Prop} {a b c : World} (h : Kp L a b) (k : Kp L b c) : Kp L a c :=
  Kept.trans h (Kept.weak k (fun i hi => hi.elim .inl (fun e => .inr (KV.kept h (fun _ h => .inr h) i e))))
theorem Kp.weak {L M : Nat → Prop} {a b : World} (h : Kp L a b) (hs : ∀ k, M k → L k) : Kp M a b := Kept.weak h (fun _ hi => hi.elim (fun e => .inl (hs _ e)) .inr)
theorem Kp.of_below {L : Nat → Prop} {w w' : World} (b : Below w.heap.size w w') (h : ∀ k, L k → k < w.heap.size) : Kp L w w' := Kept.of_below b (fun k hk => hk.elim (h k) KV.lt)
/-- The machine y (over the stack p2) and the stack z (p3) side by side; the blocks of L are nobody's. -/
def YZ (L : Nat → Prop) (w : World) (m2 p2 p3 : Nat) (acc : Int) (st sz : List TV) : Prop :=
  ∃ a2 a3, MO w m2 p2 a2 acc st ∧ SO w p3 a3 sz ∧ (∀ k, ownM m2 p2 a2 k → ¬ ownS p3 a3 k) ∧ (∀ k, L k → ¬ ownM m2 p2 a2 k ∧ ¬ ownS p3 a3 k) ∧ (∀ k, L k → k < w.heap.size)
theorem YZ.later {L : Nat → Prop} {w w' : World} {m2 p2 p3 : Nat} {acc : Int} {st sz : List TV} (h : YZ L w m2 p2 p3 acc st sz) (b : Below w.heap.size w w') : YZ L w' m2 p2 p3 acc st sz := by
  obtain ⟨a2, a3, mo, so, d, dl, lt⟩ := h
  have kk : Kept (· < w.heap.size) w w' := Kept.of_below b (fun _ h => h)
  exact ⟨a2, a3, mo.kept kk mo.lt (fun _ h => h.lt), so.kept kk so.lt (fun _ h => h.lt), d, dl, fun k hk => Nat.lt_of_lt_of_le (lt k hk) b.size⟩
theorem YZ.lt {L : Nat → Prop} {w : World} {m2 p2 p3 : Nat} {acc : Int} {st sz : List TV} (h : YZ L w m2 p2 p3 acc st sz) : ∀ k, L k → k < w.heap.size := by
  obtain ⟨a2, a3, mo, so, d, dl, lt⟩ := h
  exact lt
theorem YZ.weak {L M : Nat → Prop} {w : World} {m2 p2 p3 : Nat} {acc : Int} {st sz : List TV} (h : YZ L w m2 p2 p3 acc st sz) (hs : ∀ k, M k → L k) : YZ M w m2 p2 p3 acc st sz := by
  obtain ⟨a2, a3, mo, so, d, dl, lt⟩ := h
  exact ⟨a2, a3, mo, so, d, fun k hk => dl k (hs k hk), fun k hk => lt k (hs k hk)⟩
/-- A new block joins L. -/
theorem YZ.grow {L : Nat → Prop} {w w' : World} {m2 p2 p3 q : Nat} {acc : Int} {st sz : List TV} (h : YZ L w m2 p2 p3 acc st sz) (b : Below w.heap.size w w') (h1 : w.heap.size ≤ q) (h2 : q < w'.heap.size) : YZ (fun k => L k ∨ k = q) w' m2 p2 p3 acc st sz := by
  obtain ⟨a2, a3, mo, so, d, dl, lt⟩ := h
  have kk : Kept (· < w.heap.size) w w' := Kept.of_below b (fun _ h => h)
  refine ⟨a2, a3, mo.kept kk mo.lt (fun _ h => h.lt), so.kept kk so.lt (fun _ h => h.lt), d, ?_, ?_⟩
  · rintro k (hk | rfl)
    · exact dl k hk
    · exact ⟨fun e => by have := mo.lt _ e; omega, fun e => by have := so.lt _ e; omega⟩
  · rintro k (hk | rfl)
    · exact Nat.lt_of_lt_of_le (lt k hk) b.size
    · exact h2
/-- A call on the machine y. -/
theorem YZ.turnY {L : Nat → Prop} {w : World} {m2 p2 p3 : Nat} {acc : Int} {st sz : List TV} (h : YZ L w m2 p2 p3 acc st sz) : ∃ K : Nat → Prop, MacT K w m2 p2 acc st ∧ ∀ acc' st' w', Tm K w m2 p2 acc' st' w' → YZ L w' m2 p2 p3 acc' st' sz ∧ Kp L w w' := by
  obtain ⟨a2, a3, mo, so, d, dl, lt⟩ := h
  refine ⟨fun k => k < w.heap.size ∧ ¬ ownM m2 p2 a2 k, mo.mac (fun k hk => ⟨hk.lt, mo.kv k hk⟩) (fun _ h => h.2) (fun _ h => h.1), ?_⟩
  rintro acc' st' w' ⟨K', mm, nn, mt, kk⟩
  obtain ⟨a2', mo', hd⟩ := mt.mo
  have kvK : ∀ k, KV w k → k < w.heap.size ∧ ¬ ownM m2 p2 a2 k := fun k hk => ⟨hk.lt, mo.kv k hk⟩
  have szK : ∀ k, ownS p3 a3 k → k < w.heap.size ∧ ¬ ownM m2 p2 a2 k := fun k hk => ⟨so.lt k hk, fun e => d k e hk⟩
  have LK : ∀ k, L k → k < w.heap.size ∧ ¬ ownM m2 p2 a2 k := fun k hk => ⟨lt k hk, (dl k hk).1⟩
  refine ⟨⟨a2', a3, mo', so.kept kk szK kvK, fun k hk e => hd k (mm k (szK k e)) hk, fun k hk => ⟨hd k (mm k (LK k hk)), (dl k hk).2⟩, fun k hk => Nat.lt_of_lt_of_le (lt k hk) kk.size⟩, ?_⟩
  exact kk.weak (fun k hk => hk.elim (LK k) (kvK k))
/-- A call on the stack z. -/
theorem YZ.turnZ {L : Nat → Prop} {w : World} {m2 p2 p3 : Nat} {acc : Int} {st sz : List TV} (h : YZ L w m2 p2 p3 acc st sz) : ∃ K : Nat → Prop, SRep K w p3 sz ∧ Fine sz ∧ ∀ st' w', Fine st' → Turn K w p3 st' w' → YZ L w' m2 p2 p3 acc st st' ∧ Kp L w w' := by
  obtain ⟨a2, a3, mo, so, d, dl, lt⟩ := h
  refine ⟨fun k => k < w.heap.size ∧ ¬ ownS p3 a3 k, so.rep (fun k hk => ⟨hk.lt, so.kv k hk⟩) (fun _ h => h.2) (fun _ h => h.1), so.ok, ?_⟩
  rintro st' w' hf ⟨K', mm, nn, sr, kk⟩
  obtain ⟨a3', so', hd⟩ := sr.so hf
  have kvK : ∀ k, KV w k → k < w.heap.size ∧ ¬ ownS p3 a3 k := fun k hk => ⟨hk.lt, so.kv k hk⟩
  have yK : ∀ k, ownM m2 p2 a2 k → k < w.heap.size ∧ ¬ ownS p3 a3 k := fun k hk => ⟨mo.lt k hk, d k hk⟩
  have LK : ∀ k, L k → k < w.heap.size ∧ ¬ ownS p3 a3 k := fun k hk => ⟨lt k hk, (dl k hk).2⟩
  refine ⟨⟨a2, a3', mo.kept kk yK kvK, so', fun k hk e => hd k (mm k (yK k hk)) e, fun k hk => ⟨(dl k hk).1, hd k (mm k (LK k hk))⟩, fun k hk => Nat.lt_of_lt_of_le (lt k hk) kk.size⟩, ?_⟩
  exact kk.weak (fun k hk => hk.elim (LK k) (kvK k))
theorem yz_run {L : Nat → Prop} {w : World} {m2 p2 p3 : Nat} {acc : Int} {st sz : List TV} (h : YZ L w m2 p2 p3 acc st sz) (s : List UInt8) (hs : s.length < 9223372036854775808) (R : ResT) (hR : runAllT s acc st = R) :
    Calls Try.prog 30 #[ptr m2, S s] w fun e w' => e = .returned (.tuple #[I R.1, I R.2.1]) ∧ YZ L w' m2 p2 p3 R.2.2.1 R.2.2.2 sz ∧ Kp L w w' := by
  obtain ⟨K, mt, hK⟩ := h.turnY
  refine (run_w K w m2 p2 acc st mt s R hR hs).mono ?_
  rintro e w' ⟨rfl, tm⟩
  exact ⟨rfl, hK _ _ _ tm⟩
theorem yz_show {L : Nat → Prop} {w : World} {m2 p2 p3 : Nat} {acc : Int} {st sz : List TV} (h : YZ L w m2 p2 p3 acc st sz) :
    Calls Try.prog 31 #[ptr m2] w fun e w' => e = .returned (S (macTx acc st)) ∧ Below w.heap.size w w' := by
  obtain ⟨K, mt, hK⟩ := h.turnY
  exact macShowT K w m2 p2 acc st mt
/-- The law's looks at a stack, through the struct that holds it. -/
def yv (p : Nat) : Value := .agg #[ptr p]
end Go.Proofs.Qxb6500470a
