import Derived.Test.Qxb6500470aKzd
import Derived.Test.Qxb6500470aKze
import Derived.Test.Qxb6500470aKzf
import Derived.Test.Qxb6500470aKzg
import Derived.Test.Qxb6500470aOpS
namespace Go.Proofs.Qxb6500470a
open Go.RowKit
theorem kept_any {L : Nat → Prop} {w : World} {m1 p1 m2 p2 p3 : Nat} {acc : Int} {st : List TV} (h : XYZ L w m1 p1 m2 p2 p3 acc st acc st st) (p : List UInt8) (hp63 : p.length < 9223372036854775808) (q : Bool) :
    Calls Try.prog 49 #[ptr m1, ptr m2, yv p2, yv p3, I acc, S p, .bool q] w (KP L w m1 p1 m2 p2 p3 (runAllT p acc st).2.2.1 (runAllT p acc st).2.2.2) := by
  by_cases hp : 24 < p.length
  · have e : runAllT p acc st = (0, 1, acc, st) := by unfold runAllT; rw [if_pos hp]
    rw [e]
    cases q
    · exact kept_longf h p hp hp63
    · exact kept_longt h p hp hp63
  · have e : runAllT p acc st = runT 30 p 0 acc st := by unfold runAllT; rw [if_neg hp]
    obtain ⟨-, s2, s3, s4⟩ := runT_stands 30 p 0 acc st (by omega) (by omega)
    by_cases hE : (runT 30 p 0 acc st).2.1 = 0
    · have e2 : runAllT p acc st = ((runT 30 p 0 acc st).1, 0, (runT 30 p 0 acc st).2.2.1, (runT 30 p 0 acc st).2.2.2) := by rw [← hE]; exact e
      rw [e]
      cases q
      · exact kept_of h p (by omega) _ _ _ (s3 hE) e2
      · exact kept_ot h p (by omega) _ _ _ (s3 hE) e2
    · have e2 : runAllT p acc st = ((runT 30 p 0 acc st).1, (runT 30 p 0 acc st).2.1, (runT 30 p 0 acc st).2.2.1, (runT 30 p 0 acc st).2.2.2) := e
      rw [e]
      cases q
      · exact kept_ef h p (by omega) _ _ _ _ hE (s4 hE) e2
      · exact kept_et h p (by omega) _ _ _ _ hE (s4 hE) e2
theorem fine_nil : Fine [] := fun x hx => by cases hx
theorem groundY (w : World) : Calls Try.prog 28 #[] w fun e w' => ∃ p a, e = .returned (.agg #[ptr p]) ∧ SO w' p a [] ∧ (∀ k, k < w.heap.size → ¬ ownS p a k) ∧ Below w.heap.size w w' := by
  refine (ground_any w).mono ?_
  rintro e w' ⟨p, rfl, s, b⟩
  obtain ⟨a, so, hd⟩ := SRep.so (K := (· < w.heap.size)) (l := []) ⟨[], s, trivial⟩ fine_nil
  exact ⟨p, a, rfl, so, hd, b⟩
theorem newY (w : World) (p : Nat) (a : Option Addr) (so : SO w p a []) : Calls Try.prog 29 #[ptr p] w fun e w' => ∃ m a', e = .returned (ptr m) ∧ MO w' m p a' 0 [] ∧ (∀ k, k < w.heap.size → ¬ ownS p a k → ¬ ownM m p a' k) ∧ Below w.heap.size w w' := by
  have sr := so.rep (K := fun k => k < w.heap.size ∧ ¬ ownS p a k) (fun k hk => ⟨hk.lt, so.kv k hk⟩) (fun _ h => h.2) (fun _ h => h.1)
  refine (macNew _ w p sr.nil).mono ?_
  rintro e w' ⟨rfl, m, b⟩
  have mt : MacT (fun k => k < w.heap.size ∧ ¬ ownS p a k) w' w.heap.size p 0 [] := ⟨m.head, ⟨[], m.st, trivial⟩, m.km, fine_nil, m.a1, m.a2⟩
  obtain ⟨a', mo, hd⟩ := mt.mo
  exact ⟨_, a', rfl, mo, fun k h1 h2 => hd k ⟨h1, h2⟩, b⟩
/-- What KeptUpTo holds at each round: the machines and the boxes of the twin's stack and of z. -/
structure HK (w W : World) (q2 q3 m1 p1 m2 p2 p3 : Nat) (acc : Int) (st : List TV) : Prop where
  xyz : XYZ (fun k => k < w.heap.size ∨ k = q2 ∨ k = q3) W m1 p1 m2 p2 p3 acc st acc st st
  b2 : Blk W q2 #[ptr p2] 31
  b3 : Blk W q3 #[ptr p3] 31
  bl : Below w.heap.size w W
section
variable {w W : World} {q2 q3 m1 p1 m2 p2 p3 : Nat} {acc : Int} {st : List TV}
theorem HK.cells (h : HK w W q2 q3 m1 p1 m2 p2 p3 acc st) : W.cell? ⟨q2, 0, none⟩ = some (ptr p2) ∧ W.cell? ⟨q3, 0, none⟩ = some (ptr p3) := ⟨h.b2.cell 0, h.b3.cell 0⟩
theorem HK.later (h : HK w W q2 q3 m1 p1 m2 p2 p3 acc st) {W' : World} (b : Below W.heap.size W W') : HK w W' q2 q3 m1 p1 m2 p2 p3 acc st :=
  ⟨h.xyz.later b, h.b2.below b h.b2.lt, h.b3.below b h.b3.lt, h.bl.trans (b.mono h.bl.size)⟩
theorem HK.drewN (h : HK w W q2 q3 m1 p1 m2 p2 p3 acc st) (n : Nat) : HK w (W.drewN n) q2 q3 m1 p1 m2 p2 p3 acc st := h.later (below_drewNk W n)
theorem Kp.below {L : Nat → Prop} {a b : World} (h : Kp L a b) {B : Nat} (hs : ∀ k, k < B → L k) : Below B a b := ⟨h.os, h.tape, h.output, h.size, fun k hk => h.block k (.inl (hs k hk))⟩
theorem hk_kept (h : HK w W q2 q3 m1 p1 m2 p2 p3 acc st) (p : List UInt8) (hp63 : p.length < 9223372036854775808) (q : Bool) :
    Calls Try.prog 49 #[ptr m1, ptr m2, yv p2, yv p3, I acc, S p, .bool q] W fun e w' => e = .returned (.tuple #[I (runAllT p acc st).2.2.1, .bool true]) ∧ HK w w' q2 q3 m1 p1 m2 p2 p3 (runAllT p acc st).2.2.1 (runAllT p acc st).2.2.2 := by
  refine (kept_any h.xyz p hp63 q).mono ?_
  rintro e w' ⟨rfl, x, k⟩
  exact ⟨rfl, x, h.b2.kept k (.inl (.inr (.inl rfl))), h.b3.kept k (.inl (.inr (.inr rfl))), h.bl.trans (k.below (fun k hk => .inl hk))⟩
theorem hk_showX (h : HK w W q2 q3 m1 p1 m2 p2 p3 acc st) : Calls Try.prog 31 #[ptr m1] W fun e w' => e = .returned (S (macTx acc st)) ∧ HK w w' q2 q3 m1 p1 m2 p2 p3 acc st := by
  obtain ⟨K, mt, -⟩ := h.xyz.turnX
  refine (macShowT K W m1 p1 acc st mt).mono ?_
  rintro e w' ⟨rfl, b⟩
  exact ⟨rfl, h.later b⟩
theorem hk_checkX (h : HK w W q2 q3 m1 p1 m2 p2 p3 acc st) : Calls Try.prog 32 #[ptr m1] W fun e w' => e = .returned (.bool true) ∧ HK w w' q2 q3 m1 p1 m2 p2 p3 acc st := by
  obtain ⟨K, mt, -⟩ := h.xyz.turnX
  refine (macCheckT K W m1 p1 acc st mt).mono ?_
  rintro e w' ⟨rfl, b⟩
  exact ⟨rfl, h.later b⟩
theorem hk_showY (h : HK w W q2 q3 m1 p1 m2 p2 p3 acc st) : Calls Try.prog 31 #[ptr m2] W fun e w' => e = .returned (S (macTx acc st)) ∧ HK w w' q2 q3 m1 p1 m2 p2 p3 acc st := by
  obtain ⟨L1, yz, -⟩ := h.xyz.turnYZ
  refine (yz_show yz).mono ?_
  rintro e w' ⟨rfl, b⟩
  exact ⟨rfl, h.later b⟩
end
theorem SO.later {w w' : World} {p : Nat} {a : Option Addr} {l : List TV} (h : SO w p a l) (b : Below w.heap.size w w') : SO w' p a l := h.kept (Kept.of_below b (fun _ h => h)) h.lt (fun _ h => h.lt)
theorem MO.later {w w' : World} {m p : Nat} {a : Option Addr} {acc : Int} {l : List TV} (h : MO w m p a acc l) (b : Below w.heap.size w w') : MO w' m p a acc l := h.kept (Kept.of_below b (fun _ h => h)) h.lt (fun _ h => h.lt)
/-- The law's own building. -/
theorem HK.make {w0 w2 w3 w4 w5 W : World} {m1 p1 m2 p2 p3 : Nat} {a1 a2 a2' a3 : Option Addr} (x : MO w2 m1 p1 a1 0 []) (hx : ∀ k, k < w0.heap.size → ¬ ownM m1 p1 a1 k) (b02 : Below w0.heap.size w0 w2)
    (s2 : SO w3 p2 a2 []) (d2 : ∀ k, k < w2.heap.size → ¬ ownS p2 a2 k) (b23 : Below w2.heap.size w2 w3)
    (y : MO w4 m2 p2 a2' 0 []) (dy : ∀ k, k < (w3.alloc (.cells #[ptr p2] 31)).heap.size → ¬ ownS p2 a2 k → ¬ ownM m2 p2 a2' k) (b34 : Below (w3.alloc (.cells #[ptr p2] 31)).heap.size (w3.alloc (.cells #[ptr p2] 31)) w4)
    (s3 : SO w5 p3 a3 []) (d3 : ∀ k, k < w4.heap.size → ¬ ownS p3 a3 k) (b45 : Below w4.heap.size w4 w5) (hW : W = w5.alloc (.cells #[ptr p3] 31)) :
    HK w0 W w3.heap.size w5.heap.size m1 p1 m2 p2 p3 0 [] := by
  subst hW
  have sz3 : (w3.alloc (.cells #[ptr p2] 31)).heap.size = w3.heap.size + 1 := World.size_alloc _ _
  have c3 : Below w3.heap.size w3 (w3.alloc (.cells #[ptr p2] 31)) := (Below.refl _ _).alloc (Nat.le_refl _) _
  have c5 : Below w5.heap.size w5 (w5.alloc (.cells #[ptr p3] 31)) := (Below.refl _ _).alloc (Nat.le_refl _) _
  have z1 := b02.size
  have z2 := b23.size
  have z3 := b34.size
  have z4 := b45.size
  have z5 := c5.size
  rw [sz3] at z3 dy
  have b24 : Below w2.heap.size w2 w4 := (b23.trans (c3.mono z2)).trans (b34.mono (by omega))
  have b2W : Below w2.heap.size w2 _ := (b24.trans (b45.mono (by omega))).trans (c5.mono (by omega))
  have b4W : Below w4.heap.size w4 _ := b45.trans (c5.mono z4)
  have bb2 : Blk (w3.alloc (.cells #[ptr p2] 31)) w3.heap.size #[ptr p2] 31 := Blk.new rfl
  have bb2' := (bb2.below b34 bb2.lt).below b4W (bb2.below b34 bb2.lt).lt
  have lx : ∀ k, ownM m1 p1 a1 k → k < w2.heap.size := x.lt
  have ly : ∀ k, ownM m2 p2 a2' k → k < w4.heap.size := y.lt
  have lz : ∀ k, ownS p3 a3 k → k < w5.heap.size := s3.lt
  have ls : ∀ k, ownS p2 a2 k → k < w3.heap.size := s2.lt
  have nx2 : ∀ k, k < w2.heap.size → ¬ ownM m2 p2 a2' k := fun k hk => dy k (by omega) (d2 k hk)
  have nq : ¬ ownM m2 p2 a2' w3.heap.size := dy _ (by omega) (fun e => Nat.lt_irrefl _ (ls _ e))
  refine ⟨⟨a1, x.later b2W, ⟨a2', a3, y.later b4W, s3.later c5, fun k hk => d3 k (ly k hk), ?_, ?_⟩, ?_⟩, bb2', Blk.new rfl, b02.trans (b2W.mono z1)⟩
  · rintro k ((hk | rfl | rfl) | hk)
    · exact ⟨nx2 k (by omega), d3 k (by omega)⟩
    · exact ⟨nq, d3 _ (by omega)⟩
    · exact ⟨fun e => by have := ly _ e; omega, fun e => Nat.lt_irrefl _ (lz _ e)⟩
    · have := lx k hk
      exact ⟨nx2 k this, d3 k (by omega)⟩
  · rintro k ((hk | rfl | rfl) | hk)
    · omega
    · omega
    · rw [World.size_alloc]; omega
    · have := lx k hk; omega
  · rintro k (hk | rfl | rfl) e
    · exact hx k hk e
    · have := lx _ e; omega
    · have := lx _ e; omega
end Go.Proofs.Qxb6500470a
