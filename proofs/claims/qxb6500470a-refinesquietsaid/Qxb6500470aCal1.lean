import Derived.Test.Qxb6500470aCItoa
import Derived.Deep.AppendLies
namespace Go.Proofs.Qxb6500470a
open Go.RowKit

abbrev ptr (p : Nat) : Value := .pointer (some ⟨p, 0, none⟩)
/-- Of the blocks of K none has turned. -/
structure Kept (K : Nat → Prop) (w w' : World) : Prop where
  os : w'.os = w.os
  tape : w'.tape = w.tape
  output : w'.output = w.output
  size : w.heap.size ≤ w'.heap.size
  block : ∀ k, K k → w'.heap[k]? = w.heap[k]?
theorem Kept.refl (K : Nat → Prop) (w : World) : Kept K w w := ⟨rfl, rfl, rfl, Nat.le_refl _, fun _ _ => rfl⟩
theorem Kept.trans {K : Nat → Prop} {a b c : World} (h : Kept K a b) (k : Kept K b c) : Kept K a c :=
  ⟨k.os.trans h.os, k.tape.trans h.tape, k.output.trans h.output, Nat.le_trans h.size k.size, fun i hi => (k.block i hi).trans (h.block i hi)⟩
theorem Kept.weak {K L : Nat → Prop} {w w' : World} (h : Kept K w w') (hs : ∀ k, L k → K k) : Kept L w w' := ⟨h.os, h.tape, h.output, h.size, fun k hk => h.block k (hs k hk)⟩
theorem Kept.of_below {K : Nat → Prop} {w w' : World} (h : Below w.heap.size w w') (hk : ∀ k, K k → k < w.heap.size) : Kept K w w' := ⟨h.os, h.tape, h.output, h.size, fun k h1 => h.block k (hk k h1)⟩
theorem Kept.below {N : Nat} {w w' : World} (h : Kept (· < N) w w') : Below N w w' := ⟨h.os, h.tape, h.output, h.size, fun k hk => h.block k hk⟩
theorem Kept.setCell {K : Nat → Prop} {a w : World} (h : Kept K a w) {p : Addr} (hp : ¬ K p.block) (u : Value) : Kept K a (w.setCell p u) :=
  ⟨h.os, h.tape, h.output, by simpa [World.setCell] using h.size, fun k hk => by
    rw [Below.heap_setCell _ _ _ _ (by intro e; subst e; exact hp hk)]; exact h.block k hk⟩
theorem Kept.alloc {K : Nat → Prop} {a w : World} (h : Kept K a w) (hk : ∀ k, K k → k < w.heap.size) (o : Obj) : Kept K a (w.alloc o) :=
  h.trans ⟨rfl, rfl, rfl, by simp, fun k h1 => Below.heap_alloc _ _ _ (hk k h1)⟩
theorem Blk.kept {K : Nat → Prop} {w w' : World} {b : Nat} {c : Array Value} {t : TypeId} (k : Blk w b c t) (h : Kept K w w') (hn : K b) : Blk w' b c t := by
  unfold Blk at *; rw [h.block b hn]; exact k

/-- The block of a slice's address. -/
def blk? : Option Addr → Option Nat
  | some a => some a.block
  | none => none
theorem own_slice (a : Option Addr) (n c : Nat) : (Value.slice a n c).ownBlock = blk? a := by cases a <;> rfl

/-- The stack at p holds vs; none of its blocks is of K. -/
structure StA (K : Nat → Prop) (w : World) (p : Nat) (a : Option Addr) (cap : Nat) (vs : List Value) : Prop where
  head : Blk w p #[.slice a vs.length cap, .bool false] 62
  own : w.ownsRow 0 64 1 (.slice a vs.length cap) vs.length vs
  far : blk? a ≠ some p
  kp : ¬ K p
  ka : ∀ g, blk? a = some g → ¬ K g
  ks : ∀ k, K k → k < w.heap.size
  le : vs.length ≤ 5
def StR (K : Nat → Prop) (w : World) (p : Nat) (vs : List Value) : Prop := ∃ a cap, StA K w p a cap vs
theorem StA.kept {K : Nat → Prop} {w w' : World} {p : Nat} {a : Option Addr} {cap : Nat} {vs : List Value} {L : Nat → Prop} (h : StA K w p a cap vs) (u : Kept L w w') (hp : L p) (ha : ∀ g, blk? a = some g → L g) : StA K w' p a cap vs := by
  refine ⟨h.head.kept u hp, ⟨h.own.1, ?_⟩, h.far, h.kp, h.ka, fun k hk => Nat.lt_of_lt_of_le (h.ks k hk) u.size, h.le⟩
  rcases h.own.2 with h0 | ⟨g, c, cur, hv, h1, hg, h2⟩
  · exact .inl h0
  · refine .inr ⟨g, c, cur, hv, h1, ?_, h2⟩
    have e : a = some ⟨g, 0, none⟩ := by simp only [Value.slice.injEq] at hv; exact hv.1
    exact Blk.kept (w := w) (t := 64) hg u (ha g (by rw [e]; rfl))
theorem StA.lt {K : Nat → Prop} {w : World} {p : Nat} {a : Option Addr} {cap : Nat} {vs : List Value} (h : StA K w p a cap vs) : p < w.heap.size ∧ ∀ g, blk? a = some g → g < w.heap.size := by
  refine ⟨h.head.lt, fun g' hg' => ?_⟩
  rcases h.own.2 with ⟨e, _⟩ | ⟨g, c, cur, hv, -, hg, -⟩
  · simp only [Value.slice.injEq] at e; rw [e.1] at hg'; cases hg'
  · simp only [Value.slice.injEq] at hv
    rw [hv.1] at hg'
    obtain rfl : g = g' := by simpa [blk?] using hg'
    exact Blk.lt (w := w) (c := cur) (t := 64) hg
theorem StR.later {K : Nat → Prop} {w w' : World} {p : Nat} {vs : List Value} (h : StR K w p vs) (b : Below w.heap.size w w') : StR K w' p vs := by
  obtain ⟨a, cap, h⟩ := h
  obtain ⟨l1, l2⟩ := h.lt
  exact ⟨a, cap, h.kept (L := (· < w.heap.size)) ⟨b.os, b.tape, b.output, b.size, fun k hk => b.block k hk⟩ l1 l2⟩
theorem StA.at0 {K : Nat → Prop} {w : World} {p : Nat} {a : Option Addr} {cap : Nat} {vs : List Value} (h : StA K w p a cap vs) : w.cell? ⟨p, 0, none⟩ = some (.slice a vs.length cap) ∧ w.cell? ⟨p, 1, none⟩ = some (.bool false) ∧ w.frozen? ⟨p, 0, none⟩ = false ∧ w.frozen? ⟨p, 1, none⟩ = false ∧ p < w.heap.size :=
  ⟨h.head.cell 0, h.head.cell 1, h.head.frozen 0, h.head.frozen 1, h.head.lt⟩
theorem StA.form {K : Nat → Prop} {w : World} {p : Nat} {a : Option Addr} {cap : Nat} {vs : List Value} (h : StA K w p a cap vs) (hn : 0 < vs.length) :
    ∃ g, a = some ⟨g, 0, none⟩ ∧ (∀ i, i < vs.length → w.cell? ⟨g, i, none⟩ = some (vs.getD i .nilIface)) ∧ vs.length ≤ cap ∧ g ≠ p ∧ g < w.heap.size := by
  rcases h.own.2 with ⟨_, h0⟩ | ⟨g, c, cur, hv, -, hg, hle, -, hs, ht⟩
  · omega
  · simp only [Value.slice.injEq, true_and] at hv
    obtain ⟨rfl, rfl⟩ := hv
    refine ⟨g, rfl, ?_, hle, ?_, Blk.lt (w := w) (c := cur) (t := 64) hg⟩
    · intro i hi
      rw [Blk.cell (w := w) (c := cur) (t := 64) hg i, ← Array.getElem?_toList]
      have e : (cur.toList.take (vs.length * 1))[i]? = vs[i]? := by rw [ht]
      rw [List.getElem?_take, if_pos (by omega)] at e
      rw [e, List.getElem?_eq_getElem hi, List.getD_eq_getElem?_getD, List.getElem?_eq_getElem hi]
      rfl
    · intro e
      subst e
      exact h.far rfl
theorem own_pre {w : World} {a : Option Addr} {cap n : Nat} {vs : List Value} (h : w.ownsRow 0 64 1 (.slice a vs.length cap) vs.length vs) (hn : n ≤ vs.length) : w.ownsRow 0 64 1 (.slice a n cap) n (vs.take n) := by
  refine ⟨by rw [List.length_take]; omega, ?_⟩
  rcases h.2 with ⟨e, h0⟩ | ⟨g, c, cur, hv, h1, hg, hle, hm, hs, ht⟩
  · simp only [Value.slice.injEq] at e
    obtain ⟨rfl, -, rfl⟩ := e
    exact .inl ⟨by rw [show n = 0 from by omega], by omega⟩
  · simp only [Value.slice.injEq] at hv
    obtain ⟨rfl, -, rfl⟩ := hv
    refine .inr ⟨g, cap, cur, rfl, h1, hg, by omega, hm, hs, ?_⟩
    rw [← ht, List.take_take]
    congr 1
    omega

set_option maxHeartbeats 400000 in
theorem vNew_any (w : World) : Calls Try.prog 35 #[] w fun e w' => e = .returned (ptr w.heap.size) ∧ StR (· < w.heap.size) w' w.heap.size [] ∧ Below w.heap.size w w' := by
  go_enter Try.func35, Try.ntmps35
  go_wp2
  go_ret
  exact ⟨rfl, ⟨none, 0, Blk.new rfl, World.ownsRow_nil _ _ _ _, by simp [blk?], by simp, by simp [blk?], by simp; omega, by simp⟩, (Below.refl _ _).alloc (Nat.le_refl _) _⟩

set_option maxHeartbeats 400000 in
theorem depth_any (K : Nat → Prop) (w : World) (p : Nat) (vs : List Value) (h : StR K w p vs) :
    Calls Try.prog 61 #[ptr p] w fun e w' => e = .returned (I vs.length) ∧ w' = w := by
  obtain ⟨a, cap, h⟩ := h
  obtain ⟨c0, c1, f0, f1, lp⟩ := h.at0
  go_enter Try.func61, Try.ntmps61
  go_wp2
  go_ret
  exact ⟨rfl, rfl⟩

set_option maxHeartbeats 1000000 in
theorem peek_some (K : Nat → Prop) (w : World) (p : Nat) (vs : List Value) (h : StR K w p vs) (i : Nat) (hi : i < vs.length) :
    Calls Try.prog 54 #[ptr p, I i] w fun e w' => e = .returned (vs.getD (vs.length - 1 - i) .nilIface) ∧ w' = w := by
  obtain ⟨a, cap, h⟩ := h
  obtain ⟨c0, c1, f0, f1, lp⟩ := h.at0
  have h5 := h.le
  obtain ⟨g, rfl, hg, hle, hne, hl⟩ := h.form (by omega)
  have cg := hg (vs.length - 1 - i) (by omega)
  have e1 : ((vs.length : Int) - 1 - (i : Int)) = ((vs.length - 1 - i : Nat) : Int) := by omega
  have i0 : ¬ (i : Int) < 0 := by omega
  have i1 : ¬ (vs.length : Int) ≤ (i : Int) := by omega
  have w1 := wr64 ((vs.length : Int) - 1) (by omega) (by omega)
  have w2 := wr64 ((vs.length - 1 - i : Nat) : Int) (by omega) (by omega)
  have i2 : ((vs.length - 1 - i : Nat) : Int) < (vs.length : Int) := by omega
  generalize vs.getD (vs.length - 1 - i) .nilIface = v at *
  go_enter Try.func54, Try.ntmps54
  go_wp2
  go_ret
  exact ⟨rfl, rfl⟩
end Go.Proofs.Qxb6500470a
