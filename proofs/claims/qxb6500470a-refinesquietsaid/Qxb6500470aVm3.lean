import Derived.Test.Qxb6500470aVm2
import Derived.Deep.RegionHeld3
namespace Go.Proofs.Qxb6500470a
open Go.RowKit
/-- The model's stack at p holds xs (the bottom first); none of its own blocks is of K; the values' rows are of K. -/
structure MSA (K : Nat → Prop) (w : World) (p : Nat) (a : Option Addr) (cap : Nat) (xs : List TV) (cs : List Value) : Prop where
  head : Blk w p #[.slice a xs.length cap] 126
  own : w.ownsRow 0 137 4 (.slice a xs.length cap) xs.length cs
  vals : MRs K w xs cs
  far : blk? a ≠ some p
  kp : ¬ K p
  ka : ∀ g, blk? a = some g → ¬ K g
  ks : ∀ k, K k → k < w.heap.size
  le : xs.length ≤ 5
def MS (K : Nat → Prop) (w : World) (p : Nat) (xs : List TV) : Prop := ∃ a cap cs, MSA K w p a cap xs cs
theorem own_kept {L : Nat → Prop} {w w' : World} {a : Option Addr} {n cap : Nat} {cs : List Value} (h : w.ownsRow 0 137 4 (.slice a n cap) n cs) (u : Kept L w w') (ha : ∀ g, blk? a = some g → L g) : w'.ownsRow 0 137 4 (.slice a n cap) n cs := by
  refine ⟨h.1, ?_⟩
  rcases h.2 with h0 | ⟨g, c, cur, hv, h1, hg, h2⟩
  · exact .inl h0
  · refine .inr ⟨g, c, cur, hv, h1, ?_, h2⟩
    have e : a = some ⟨g, 0, none⟩ := by simp only [Value.slice.injEq] at hv; exact hv.1
    exact Blk.kept (w := w) (t := 137) hg u (ha g (by rw [e]; rfl))
theorem own_lt {w : World} {a : Option Addr} {n cap : Nat} {cs : List Value} (h : w.ownsRow 0 137 4 (.slice a n cap) n cs) : ∀ g, blk? a = some g → g < w.heap.size := by
  intro g' hg'
  rcases h.2 with ⟨e, _⟩ | ⟨g, c, cur, hv, -, hg, -⟩
  · simp only [Value.slice.injEq] at e; rw [e.1] at hg'; cases hg'
  · simp only [Value.slice.injEq] at hv
    rw [hv.1] at hg'
    obtain rfl : g = g' := by simpa [blk?] using hg'
    exact Blk.lt (w := w) (c := cur) (t := 137) hg
theorem MSA.kept {K L : Nat → Prop} {w w' : World} {p : Nat} {a : Option Addr} {cap : Nat} {xs : List TV} {cs : List Value} (h : MSA K w p a cap xs cs) (u : Kept L w w') (hp : L p) (ha : ∀ g, blk? a = some g → L g) (hk : ∀ k, K k → L k) : MSA K w' p a cap xs cs :=
  ⟨h.head.kept u hp, own_kept h.own u ha, h.vals.kept (u.weak hk), h.far, h.kp, h.ka, fun k hk' => Nat.lt_of_lt_of_le (h.ks k hk') u.size, h.le⟩
theorem MSA.later {K : Nat → Prop} {w w' : World} {p : Nat} {a : Option Addr} {cap : Nat} {xs : List TV} {cs : List Value} (h : MSA K w p a cap xs cs) (b : Below w.heap.size w w') : MSA K w' p a cap xs cs :=
  h.kept (L := (· < w.heap.size)) (Kept.of_below b (fun _ h => h)) h.head.lt (own_lt h.own) h.ks
theorem MS.later {K : Nat → Prop} {w w' : World} {p : Nat} {xs : List TV} (h : MS K w p xs) (b : Below w.heap.size w w') : MS K w' p xs := by
  obtain ⟨a, cap, cs, h⟩ := h
  exact ⟨a, cap, cs, h.later b⟩
theorem MS.ks {K : Nat → Prop} {w : World} {p : Nat} {xs : List TV} (h : MS K w p xs) : ∀ k, K k → k < w.heap.size := by
  obtain ⟨a, cap, cs, h⟩ := h
  exact h.ks
theorem MS.le {K : Nat → Prop} {w : World} {p : Nat} {xs : List TV} (h : MS K w p xs) : xs.length ≤ 5 := by
  obtain ⟨a, cap, cs, h⟩ := h
  exact h.le
theorem MSA.at0 {K : Nat → Prop} {w : World} {p : Nat} {a : Option Addr} {cap : Nat} {xs : List TV} {cs : List Value} (h : MSA K w p a cap xs cs) : w.cell? ⟨p, 0, none⟩ = some (.slice a xs.length cap) ∧ w.frozen? ⟨p, 0, none⟩ = false ∧ p < w.heap.size :=
  ⟨h.head.cell 0, h.head.frozen 0, h.head.lt⟩
/-- Element i of the stack. -/
theorem MSA.elem {K : Nat → Prop} {w : World} {p : Nat} {a : Option Addr} {cap : Nat} {xs : List TV} {cs : List Value} (h : MSA K w p a cap xs cs) (i : Nat) (hi : i < xs.length) :
    ∃ g c0 c1 c2 c3, a = some ⟨g, 0, none⟩ ∧ g ≠ p ∧ ¬ K g ∧ g < w.heap.size ∧ xs.length ≤ cap ∧ w.cell? ⟨g, i * 4, none⟩ = some c0 ∧ w.cell? ⟨g, i * 4 + 1, none⟩ = some c1 ∧ w.cell? ⟨g, i * 4 + 2, none⟩ = some c2 ∧ w.cell? ⟨g, i * 4 + 3, none⟩ = some c3 ∧ MR K w xs[i] c0 c1 c2 c3 := by
  have hr : RowK (fun _ => True) w (.slice a xs.length cap) xs.length cs := ⟨h.own, fun _ _ => trivial⟩
  obtain ⟨g, cap', e, -, hle, hc, hl⟩ := hr.form (by omega)
  obtain ⟨c0, c1, c2, c3, h0, h1, h2, h3, hm⟩ := h.vals.at i hi
  simp only [Value.slice.injEq, true_and] at e
  obtain ⟨rfl, rfl⟩ := e
  exact ⟨g, c0, c1, c2, c3, rfl, fun e => h.far (by rw [e]; rfl), h.ka g rfl, hl, hle, hc _ _ h0, hc _ _ h1, hc _ _ h2, hc _ _ h3, hm⟩
theorem own_pre4 {w : World} {a : Option Addr} {cap m n : Nat} {cs : List Value} (h : w.ownsRow 0 137 4 (.slice a m cap) m cs) (hn : n ≤ m) : w.ownsRow 0 137 4 (.slice a n cap) n (cs.take (n * 4)) := by
  have hl := h.1
  refine ⟨by rw [List.length_take]; omega, ?_⟩
  rcases h.2 with ⟨e, h0⟩ | ⟨g, c, cur, hv, h1, hg, hle, hm, hs, ht⟩
  · simp only [Value.slice.injEq] at e
    obtain ⟨rfl, -, rfl⟩ := e
    exact .inl ⟨by rw [show n = 0 from by omega], by omega⟩
  · simp only [Value.slice.injEq] at hv
    obtain ⟨rfl, -, rfl⟩ := hv
    refine .inr ⟨g, cap, cur, rfl, h1, hg, by omega, hm, hs, ?_⟩
    rw [← ht, List.take_take]
    congr 1
    omega
theorem MRs.take {K : Nat → Prop} {w : World} {xs : List TV} {cs : List Value} (h : MRs K w xs cs) (n : Nat) : MRs K w (xs.take n) (cs.take (n * 4)) := by
  by_cases hn : n ≤ xs.length
  · have e := h
    rw [← List.take_append_drop n xs] at e
    obtain ⟨a, b, rfl, ha, hb⟩ := e.split
    have hl := ha.len
    rw [List.length_take, Nat.min_eq_left hn] at hl
    rw [← hl, List.take_left]
    exact ha
  · rw [List.take_of_length_le (by omega), List.take_of_length_le (by rw [h.len]; omega)]
    exact h
theorem mInfo : (Try.prog.info? 137).map (fun i => (i.zero, i.size, i.bytes)) = some (some (.agg #[I 0, I 0, S [], .slice none 0 0]), 4, 56) := by kernel_rfl
theorem put_post {K : Nat → Prop} {w w1 : World} {p : Nat} {a : Option Addr} {cap n : Nat} {xs : List TV} {cs : List Value} {g cap' : Nat} {x : TV} {c0 c1 c2 c3 : Value} (h : MSA K w p a cap xs cs) (hx : MR K w x c0 c1 c2 c3) (hn : n < 5) (hnv : n ≤ xs.length)
    (hown : w1.ownsRow 0 137 4 (.slice (some ⟨g, 0, none⟩) (n + 1) cap') (n + 1) (cs.take (n * 4) ++ [c0, c1, c2, c3])) (hgrow : w.grownBy w1 (blk? a)) (hat : blk? a = some g ∨ w.heap.size ≤ g) :
    MS K (w1.setCell ⟨p, 0, none⟩ (.slice (some ⟨g, 0, none⟩) (n + 1) cap')) p (xs.take n ++ [x]) ∧ Kept K w (w1.setCell ⟨p, 0, none⟩ (.slice (some ⟨g, 0, none⟩) (n + 1) cap')) := by
  have lp := h.head.lt
  have P1 : Blk w1 p #[.slice a xs.length cap] 126 := (hgrow.block p lp (fun e => h.far e.symm)).trans h.head
  have hl : (xs.take n ++ [x]).length = n + 1 := by simp; omega
  have hgp : g ≠ p := by
    rcases hat with e | e
    · intro e2; subst e2; exact h.far e
    · omega
  have kg : ¬ K g := by
    rcases hat with e | e
    · exact h.ka g e
    · intro hk; have := h.ks g hk; omega
  have kg' : ∀ g', blk? (some ⟨g, 0, none⟩) = some g' → ¬ K g' := by
    intro g' e
    obtain rfl : g = g' := by simpa [blk?] using e
    exact kg
  have kk1 : Kept K w w1 := ⟨hgrow.os, hgrow.tape, hgrow.output, hgrow.size, fun j hj => hgrow.block j (h.ks j hj) (fun e => h.ka j e.symm hj)⟩
  have kk : Kept K w (w1.setCell ⟨p, 0, none⟩ (.slice (some ⟨g, 0, none⟩) (n + 1) cap')) := kk1.setCell h.kp _
  refine ⟨⟨some ⟨g, 0, none⟩, cap', cs.take (n * 4) ++ [c0, c1, c2, c3], ?_, ?_, ((h.vals.take n).append (.one hx)).kept kk, fun e => hgp (by simpa [blk?] using e), h.kp, kg', fun k hk => Nat.lt_of_lt_of_le (h.ks k hk) kk.size, by rw [hl]; omega⟩, kk⟩
  · rw [hl]
    exact P1.set (i := 0) _
  · rw [hl]
    refine ⟨hown.1, ?_⟩
    rcases hown.2 with h0 | ⟨g', c, cur, hv, h1, hg, h2⟩
    · exact .inl h0
    · refine .inr ⟨g', c, cur, hv, h1, ?_, h2⟩
      have e : g = g' := by simp only [Value.slice.injEq, Option.some.injEq, Addr.mk.injEq] at hv; exact hv.1.1
      subst e
      exact Blk.other (w := w1) (t := 137) hg (a := ⟨p, 0, none⟩) hgp _
end Go.Proofs.Qxb6500470a
