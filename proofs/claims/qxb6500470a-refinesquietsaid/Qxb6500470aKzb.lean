import Derived.Test.Qxb6500470aKza
namespace Go.Proofs.Qxb6500470a
open Go.RowKit
theorem drop_cons (p : List UInt8) (i : Nat) (h : i < p.length) : ∃ c r, p.drop i = c :: r := ⟨p[i], p.drop (i + 1), List.drop_eq_getElem_cons h⟩
theorem runT_end (f : Nat) (p : List UInt8) (acc : Int) (st : List TV) : runT f p p.length acc st = (p.length, 0, acc, st) := by
  cases f with
  | zero => rfl
  | succ f =>
    have : p[p.length]? = none := by simp
    unfold runT
    rw [this]
/-- Where a run stands. -/
theorem runT_stands : ∀ (f : Nat) (p : List UInt8) (i : Nat) (acc : Int) (st : List TV), p.length < i + f → i ≤ p.length → i ≤ (runT f p i acc st).1 ∧ (runT f p i acc st).1 ≤ p.length ∧ ((runT f p i acc st).2.1 = 0 → (runT f p i acc st).1 = p.length) ∧ ((runT f p i acc st).2.1 ≠ 0 → (runT f p i acc st).1 < p.length)
  | 0, p, i, acc, st, hf, hi => absurd hf (by omega)
  | f + 1, p, i, acc, st, hf, hi => by
    by_cases hl : i = p.length
    · subst hl
      rw [runT_end]
      exact ⟨Nat.le_refl _, Nat.le_refl _, fun _ => rfl, fun h => absurd rfl h⟩
    · obtain ⟨c, r, hp⟩ := drop_cons p i (by omega)
      rw [runT_word f p i c r hp]
      have h1 := wdT_pos c r
      have h2 := wdT_le c r
      obtain ⟨-, -, h3⟩ := dropG hp
      split
      · have := runT_stands f p (i + wdT c r) (wordT c (tlT c r) acc st).2.2.1 (wordT c (tlT c r) acc st).2.2.2 (by omega) (by omega)
        exact ⟨by omega, this.2⟩
      · next h => exact ⟨Nat.le_refl _, hi, fun e => absurd e h, fun _ => by show i < p.length; omega⟩
theorem runT_loop (f : Nat) (p : List UInt8) (i : Nat) (acc : Int) (st : List TV) (R : ResT) (hR : runT f p i acc st = R) (hf : p.length < i + f) (hn : R.1 ≤ p.length) (hi : i < R.1) :
    ∃ c r f', p.drop i = c :: r ∧ (wordT c (tlT c r) acc st).2.1 = 0 ∧ runT f' p (i + wdT c r) (wordT c (tlT c r) acc st).2.2.1 (wordT c (tlT c r) acc st).2.2.2 = R ∧ p.length < i + wdT c r + f' ∧ i + wdT c r ≤ R.1 := by
  cases f with
  | zero => omega
  | succ f =>
    obtain ⟨c, r, hp⟩ := drop_cons p i (by omega)
    have h1 := wdT_pos c r
    have h2 := wdT_le c r
    obtain ⟨-, -, h3⟩ := dropG hp
    rw [runT_word f p i c r hp] at hR
    by_cases h : (wordT c (tlT c r) acc st).2.1 = 0
    · rw [if_pos h] at hR
      refine ⟨c, r, f, hp, h, hR, by omega, ?_⟩
      have := (runT_stands f p (i + wdT c r) (wordT c (tlT c r) acc st).2.2.1 (wordT c (tlT c r) acc st).2.2.2 (by omega) (by omega)).1
      rw [hR] at this
      exact this
    · rw [if_neg h] at hR
      rw [← hR] at hi
      exact absurd hi (Nat.lt_irrefl _)
theorem runT_last (f : Nat) (p : List UInt8) (acc : Int) (st : List TV) (R : ResT) (hR : runT f p R.1 acc st = R) (hf : p.length < R.1 + f) (hn : R.1 < p.length) :
    ∃ c r, p.drop R.1 = c :: r ∧ (wordT c (tlT c r) acc st).2.1 = R.2.1 ∧ R.2.2 = (acc, st) ∧ R.2.1 ≠ 0 := by
  cases f with
  | zero => omega
  | succ f =>
    obtain ⟨c, r, hp⟩ := drop_cons p R.1 hn
    have h1 := wdT_pos c r
    have h2 := wdT_le c r
    obtain ⟨-, -, h3⟩ := dropG hp
    rw [runT_word f p R.1 c r hp] at hR
    by_cases h : (wordT c (tlT c r) acc st).2.1 = 0
    · rw [if_pos h] at hR
      have := (runT_stands f p (R.1 + wdT c r) (wordT c (tlT c r) acc st).2.2.1 (wordT c (tlT c r) acc st).2.2.2 (by omega) (by omega)).1
      rw [hR] at this
      omega
    · rw [if_neg h] at hR
      refine ⟨c, r, hp, ?_, ?_, ?_⟩
      · rw [← hR]
      · rw [← hR]
      · rw [← hR]; exact h
/-- The two machines x, y and the stack z side by side. -/
def XYZ (L : Nat → Prop) (w : World) (m1 p1 m2 p2 p3 : Nat) (accx : Int) (stx : List TV) (acc : Int) (st sz : List TV) : Prop :=
  ∃ a1, MO w m1 p1 a1 accx stx ∧ YZ (fun k => L k ∨ ownM m1 p1 a1 k) w m2 p2 p3 acc st sz ∧ (∀ k, L k → ¬ ownM m1 p1 a1 k)
section
variable {L : Nat → Prop} {w : World} {m1 p1 m2 p2 p3 : Nat} {accx acc : Int} {stx st sz : List TV}
theorem XYZ.lt (h : XYZ L w m1 p1 m2 p2 p3 accx stx acc st sz) : ∀ k, L k → k < w.heap.size := by
  obtain ⟨a1, mo, yz, d⟩ := h
  exact fun k hk => yz.lt k (.inl hk)
theorem XYZ.later {w' : World} (h : XYZ L w m1 p1 m2 p2 p3 accx stx acc st sz) (b : Below w.heap.size w w') : XYZ L w' m1 p1 m2 p2 p3 accx stx acc st sz := by
  obtain ⟨a1, mo, yz, d⟩ := h
  exact ⟨a1, mo.kept (Kept.of_below b (fun _ h => h)) mo.lt (fun _ h => h.lt), yz.later b, d⟩
theorem XYZ.weak {M : Nat → Prop} (h : XYZ L w m1 p1 m2 p2 p3 accx stx acc st sz) (hs : ∀ k, M k → L k) : XYZ M w m1 p1 m2 p2 p3 accx stx acc st sz := by
  obtain ⟨a1, mo, yz, d⟩ := h
  exact ⟨a1, mo, yz.weak (fun k hk => hk.elim (fun e => .inl (hs k e)) .inr), fun k hk => d k (hs k hk)⟩
theorem XYZ.grow {w' : World} {q : Nat} (h : XYZ L w m1 p1 m2 p2 p3 accx stx acc st sz) (b : Below w.heap.size w w') (h1 : w.heap.size ≤ q) (h2 : q < w'.heap.size) : XYZ (fun k => L k ∨ k = q) w' m1 p1 m2 p2 p3 accx stx acc st sz := by
  obtain ⟨a1, mo, yz, d⟩ := h
  have y := yz.grow b h1 h2
  refine ⟨a1, mo.kept (Kept.of_below b (fun _ h => h)) mo.lt (fun _ h => h.lt), y.weak ?_, ?_⟩
  · rintro k ((hk | rfl) | hk)
    · exact .inl (.inl hk)
    · exact .inr rfl
    · exact .inl (.inr hk)
  · rintro k (hk | rfl) e
    · exact d k hk e
    · have := mo.lt k e; omega
/-- A call that turns y and z alone. -/
theorem XYZ.turnYZ (h : XYZ L w m1 p1 m2 p2 p3 accx stx acc st sz) : ∃ L1 : Nat → Prop, YZ L1 w m2 p2 p3 acc st sz ∧ ∀ acc' st' sz' w', YZ L1 w' m2 p2 p3 acc' st' sz' → Kp L1 w w' → XYZ L w' m1 p1 m2 p2 p3 accx stx acc' st' sz' ∧ Kp L w w' := by
  obtain ⟨a1, mo, yz, d⟩ := h
  refine ⟨_, yz, ?_⟩
  intro acc' st' sz' w' y k
  exact ⟨⟨a1, mo.kept k (fun _ e => .inl (.inr e)) (fun _ e => .inr e), y, d⟩, k.weak (fun _ e => .inl e)⟩
/-- A call on the machine x. -/
theorem XYZ.turnX (h : XYZ L w m1 p1 m2 p2 p3 accx stx acc st sz) : ∃ K : Nat → Prop, MacT K w m1 p1 accx stx ∧ ∀ acc' st' w', Tm K w m1 p1 acc' st' w' → XYZ L w' m1 p1 m2 p2 p3 acc' st' acc st sz ∧ Kp L w w' := by
  obtain ⟨a1, mo, ⟨a2, a3, my, so, d, dl, lt⟩, dx⟩ := h
  refine ⟨fun k => k < w.heap.size ∧ ¬ ownM m1 p1 a1 k, mo.mac (fun k hk => ⟨hk.lt, mo.kv k hk⟩) (fun _ h => h.2) (fun _ h => h.1), ?_⟩
  rintro acc' st' w' ⟨K', mm, nn, mt, kk⟩
  obtain ⟨a1', mo', hd⟩ := mt.mo
  have kvK : ∀ k, KV w k → k < w.heap.size ∧ ¬ ownM m1 p1 a1 k := fun k hk => ⟨hk.lt, mo.kv k hk⟩
  have szK : ∀ k, ownS p3 a3 k → k < w.heap.size ∧ ¬ ownM m1 p1 a1 k := fun k hk => ⟨so.lt k hk, fun e => (dl k (.inr e)).2 hk⟩
  have yK : ∀ k, ownM m2 p2 a2 k → k < w.heap.size ∧ ¬ ownM m1 p1 a1 k := fun k hk => ⟨my.lt k hk, fun e => (dl k (.inr e)).1 hk⟩
  have LK : ∀ k, L k → k < w.heap.size ∧ ¬ ownM m1 p1 a1 k := fun k hk => ⟨lt k (.inl hk), dx k hk⟩
  refine ⟨⟨a1', mo', ⟨a2, a3, my.kept kk yK kvK, so.kept kk szK kvK, d, ?_, ?_⟩, fun k hk => hd k (mm k (LK k hk))⟩, kk.weak (fun k hk => hk.elim (LK k) (kvK k))⟩
  · rintro k (hk | hk)
    · exact dl k (.inl hk)
    · exact ⟨fun e => hd k (mm k (yK k e)) hk, fun e => hd k (mm k (szK k e)) hk⟩
  · rintro k (hk | hk)
    · exact Nat.lt_of_lt_of_le (lt k (.inl hk)) kk.size
    · exact mo'.lt k hk
end
/-- The boxes of Kept's two looks, and what they look at. -/
structure HX (L L' : Nat → Prop) (w W : World) (q1 q2 m1 p1 m2 p2 p3 : Nat) (accx : Int) (stx : List TV) (acc : Int) (st sz : List TV) : Prop where
  xyz : XYZ L' W m1 p1 m2 p2 p3 accx stx acc st sz
  b1 : Blk W q1 #[ptr p2] 31
  b2 : Blk W q2 #[ptr p3] 31
  l1 : L' q1
  l2 : L' q2
  sub : ∀ k, L k → L' k
  kp : Kp L w W
theorem HX.start {L : Nat → Prop} {w : World} {m1 p1 m2 p2 p3 : Nat} {accx acc : Int} {stx st sz : List TV} (h : XYZ L w m1 p1 m2 p2 p3 accx stx acc st sz) :
    ∃ L', HX L L' w ((w.alloc (.cells #[ptr p2] 31)).alloc (.cells #[ptr p3] 31)) w.heap.size (w.heap.size + 1) m1 p1 m2 p2 p3 accx stx acc st sz := by
  have b1 : Below w.heap.size w (w.alloc (.cells #[ptr p2] 31)) := (Below.refl _ _).alloc (Nat.le_refl _) _
  have b2 : Below (w.alloc (.cells #[ptr p2] 31)).heap.size (w.alloc (.cells #[ptr p2] 31)) ((w.alloc (.cells #[ptr p2] 31)).alloc (.cells #[ptr p3] 31)) := (Below.refl _ _).alloc (Nat.le_refl _) _
  have s1 : (w.alloc (.cells #[ptr p2] 31)).heap.size = w.heap.size + 1 := World.size_alloc _ _
  have h1 := h.grow (q := w.heap.size) b1 (Nat.le_refl _) (by rw [s1]; omega)
  have h2 := h1.grow (q := w.heap.size + 1) b2 (by rw [s1]; omega) (by rw [World.size_alloc, s1]; omega)
  have bb : Blk (w.alloc (.cells #[ptr p2] 31)) w.heap.size #[ptr p2] 31 := Blk.new rfl
  have bc : Blk ((w.alloc (.cells #[ptr p2] 31)).alloc (.cells #[ptr p3] 31)) (w.heap.size + 1) #[ptr p3] 31 := Blk.new s1.symm
  exact ⟨_, h2, bb.below b2 bb.lt, bc, .inl (.inr rfl), .inr rfl, fun k hk => .inl (.inl hk), .of_below (b1.trans (b2.mono b1.size)) h.lt⟩
section
variable {L L' : Nat → Prop} {w W : World} {q1 q2 m1 p1 m2 p2 p3 : Nat} {accx acc : Int} {stx st sz : List TV}
theorem HX.cells (h : HX L L' w W q1 q2 m1 p1 m2 p2 p3 accx stx acc st sz) : W.cell? ⟨q1, 0, none⟩ = some (ptr p2) ∧ W.cell? ⟨q2, 0, none⟩ = some (ptr p3) := ⟨h.b1.cell 0, h.b2.cell 0⟩
theorem HX.later (h : HX L L' w W q1 q2 m1 p1 m2 p2 p3 accx stx acc st sz) {W' : World} (b : Below W.heap.size W W') : HX L L' w W' q1 q2 m1 p1 m2 p2 p3 accx stx acc st sz :=
  ⟨h.xyz.later b, h.b1.below b h.b1.lt, h.b2.below b h.b2.lt, h.l1, h.l2, h.sub, h.kp.trans (.of_below b (fun k hk => h.xyz.lt k (h.sub k hk)))⟩
theorem HX.turn (h : HX L L' w W q1 q2 m1 p1 m2 p2 p3 accx stx acc st sz) {W' : World} {accx' acc' : Int} {stx' st' sz' : List TV} (y : XYZ L' W' m1 p1 m2 p2 p3 accx' stx' acc' st' sz') (k : Kp L' W W') : HX L L' w W' q1 q2 m1 p1 m2 p2 p3 accx' stx' acc' st' sz' :=
  ⟨y, h.b1.kept k (.inl h.l1), h.b2.kept k (.inl h.l2), h.l1, h.l2, h.sub, h.kp.trans (k.weak h.sub)⟩
theorem HX.drewN (h : HX L L' w W q1 q2 m1 p1 m2 p2 p3 accx stx acc st sz) (n : Nat) : HX L L' w (W.drewN n) q1 q2 m1 p1 m2 p2 p3 accx stx acc st sz := h.later (below_drewNk W n)
theorem hx_run (h : HX L L' w W q1 q2 m1 p1 m2 p2 p3 accx stx acc st sz) (s : List UInt8) (hs : s.length < 9223372036854775808) (R : ResT) (hR : runAllT s accx stx = R) : Calls Try.prog 30 #[ptr m1, S s] W fun e w' => e = .returned (.tuple #[I R.1, I R.2.1]) ∧ HX L L' w w' q1 q2 m1 p1 m2 p2 p3 R.2.2.1 R.2.2.2 acc st sz := by
  obtain ⟨K, mt, hK⟩ := h.xyz.turnX
  refine (run_w K W m1 p1 accx stx mt s R hR hs).mono ?_
  rintro e w' ⟨rfl, tm⟩
  obtain ⟨y, k⟩ := hK _ _ _ tm
  exact ⟨rfl, h.turn y k⟩
theorem hx_showX (h : HX L L' w W q1 q2 m1 p1 m2 p2 p3 accx stx acc st sz) : Calls Try.prog 31 #[ptr m1] W fun e w' => e = .returned (S (macTx accx stx)) ∧ HX L L' w w' q1 q2 m1 p1 m2 p2 p3 accx stx acc st sz := by
  obtain ⟨K, mt, hK⟩ := h.xyz.turnX
  refine (macShowT K W m1 p1 accx stx mt).mono ?_
  rintro e w' ⟨rfl, b⟩
  exact ⟨rfl, h.later b⟩
theorem hx_checkX (h : HX L L' w W q1 q2 m1 p1 m2 p2 p3 accx stx acc st sz) : Calls Try.prog 32 #[ptr m1] W fun e w' => e = .returned (.bool true) ∧ HX L L' w w' q1 q2 m1 p1 m2 p2 p3 accx stx acc st sz := by
  obtain ⟨K, mt, hK⟩ := h.xyz.turnX
  refine (macCheckT K W m1 p1 accx stx mt).mono ?_
  rintro e w' ⟨rfl, b⟩
  exact ⟨rfl, h.later b⟩
theorem hx_showY (h : HX L L' w W q1 q2 m1 p1 m2 p2 p3 accx stx acc st sz) : Calls Try.prog 31 #[ptr m2] W fun e w' => e = .returned (S (macTx acc st)) ∧ HX L L' w w' q1 q2 m1 p1 m2 p2 p3 accx stx acc st sz := by
  obtain ⟨L1, yz, -⟩ := h.xyz.turnYZ
  refine (yz_show yz).mono ?_
  rintro e w' ⟨rfl, b⟩
  exact ⟨rfl, h.later b⟩
theorem hx_held (h : HX L L' w W q1 q2 m1 p1 m2 p2 p3 accx stx acc st st) (c : UInt8) (s : List UInt8) (hs : s.length < 24) (hw : IsW c s) (E A : Int) (ST : List TV) (hR : (wordT c s acc st).2 = (E, A, ST)) : Calls Try.prog 67 #[ptr m2, yv p2, yv p3, I acc, S (c :: s)] W fun e w' => e = .returned (.tuple #[I E, I A, .bool true]) ∧ HX L L' w w' q1 q2 m1 p1 m2 p2 p3 accx stx A ST ST := by
  obtain ⟨L1, yz, hK⟩ := h.xyz.turnYZ
  refine (held_any yz c s hs hw).mono ?_
  rw [hR]
  rintro e w' ⟨rfl, y, k⟩
  obtain ⟨y', k'⟩ := hK _ _ _ _ y k
  exact ⟨rfl, h.turn y' k'⟩
theorem HX.done (h : HX L L' w W q1 q2 m1 p1 m2 p2 p3 accx stx acc st sz) : XYZ L W m1 p1 m2 p2 p3 accx stx acc st sz ∧ Kp L w W := ⟨h.xyz.weak h.sub, h.kp⟩
end
/-- What Kept answers. -/
def KP (L : Nat → Prop) (w : World) (m1 p1 m2 p2 p3 : Nat) (A : Int) (ST : List TV) : Ending → World → Prop := fun e w' => e = .returned (.tuple #[I A, .bool true]) ∧ XYZ L w' m1 p1 m2 p2 p3 A ST A ST ST ∧ Kp L w w'
end Go.Proofs.Qxb6500470a
