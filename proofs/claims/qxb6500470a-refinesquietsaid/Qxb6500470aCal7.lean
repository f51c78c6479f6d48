import Derived.Test.Qxb6500470aCal6
namespace Go.Proofs.Qxb6500470a
open Go.RowKit

theorem run_store_fn {P : Program} {w : World} {a : Addr} {m : Mode} (f : Fn) (x y : Array Value) : (store a (.func f x y) m).run P w = stored P w a (.func f x y) m := run_store P w a _ m rfl
attribute [local go_sem] run_store_fn
abbrev Fv (k : Nat) : Value := .func (.func k) #[] #[]
def macCells (p : Nat) (acc : Int) : Array Value := #[ptr p, I acc, Fv 36, .nilFunc, Fv 37, Fv 38, .nilFunc, Fv 39, .nilFunc, .nilFunc, .nilFunc, .nilFunc, .nilFunc, Fv 40, .nilFunc, Fv 41, .nilFunc, Fv 42, .nilFunc, .nilFunc, Fv 43, .nilFunc, .nilFunc, .nilFunc, .nilFunc, Fv 44, .nilFunc, .nilFunc]
/-- The machine at m over the stack at p: the accumulator acc, the values l. -/
structure Mac (K : Nat → Prop) (w : World) (m p : Nat) (acc : Int) (l : List V) : Prop where
  head : Blk w m (macCells p acc) 45
  st : StR (fun k => K k ∨ k = m) w p (l.map vOf)
  km : ¬ K m
  ok : ∀ v ∈ l, okV v
  a1 : -9223372036854775808 ≤ acc
  a2 : acc ≤ 9223372036854775807
theorem Mac.later {K : Nat → Prop} {w w' : World} {m p : Nat} {acc : Int} {l : List V} (h : Mac K w m p acc l) (b : Below w.heap.size w w') : Mac K w' m p acc l :=
  ⟨h.head.below b h.head.lt, h.st.later b, h.km, h.ok, h.a1, h.a2⟩
theorem Mac.ks {K : Nat → Prop} {w : World} {m p : Nat} {acc : Int} {l : List V} (h : Mac K w m p acc l) : ∀ k, K k → k < w.heap.size := by
  obtain ⟨a, cap, hA⟩ := h.st
  exact fun k hk => hA.ks k (.inl hk)
theorem Mac.le {K : Nat → Prop} {w : World} {m p : Nat} {acc : Int} {l : List V} (h : Mac K w m p acc l) : l.length ≤ 5 := by
  obtain ⟨a, cap, hA⟩ := h.st
  have := hA.le
  rw [List.length_map] at this
  exact this
/-- Behind a call on the stack. -/
theorem Mac.turn {K : Nat → Prop} {w w' : World} {m p : Nat} {acc : Int} {l l' : List V} (h : Mac K w m p acc l) (s : StR (fun k => K k ∨ k = m) w' p (l'.map vOf)) (k : Kept (fun k => K k ∨ k = m) w w') (ok : ∀ v ∈ l', okV v) : Mac K w' m p acc l' ∧ Kept K w w' :=
  ⟨⟨h.head.kept k (.inr rfl), s, h.km, ok, h.a1, h.a2⟩, k.weak (fun _ h => .inl h)⟩
theorem Mac.acc {K : Nat → Prop} {w : World} {m p : Nat} {acc acc' : Int} {l : List V} (h : Mac K w m p acc l) (a1 : -9223372036854775808 ≤ acc') (a2 : acc' ≤ 9223372036854775807) : Mac K (w.setCell ⟨m, 1, none⟩ (I acc')) m p acc' l ∧ Kept K w (w.setCell ⟨m, 1, none⟩ (I acc')) := by
  have hs : StR (fun k => K k ∨ k = m) (w.setCell ⟨m, 1, none⟩ (I acc')) p (l.map vOf) := by
    obtain ⟨a, cap, hA⟩ := h.st
    have hpm : p ≠ m := fun e => hA.kp (.inr e)
    have ham : ∀ g, blk? a = some g → g ≠ m := fun g hg e => hA.ka g hg (.inr e)
    refine ⟨a, cap, hA.kept (L := fun k => k ≠ m) ⟨rfl, rfl, rfl, by simp [World.setCell], fun k hk => ?_⟩ hpm ham⟩
    exact Below.heap_setCell _ _ _ _ hk
  exact ⟨⟨h.head.set (i := 1) (I acc'), hs, h.km, h.ok, a1, a2⟩, (Kept.refl K w).setCell h.km _⟩
theorem Mac.at0 {K : Nat → Prop} {w : World} {m p : Nat} {acc : Int} {l : List V} (h : Mac K w m p acc l) : w.cell? ⟨m, 0, none⟩ = some (ptr p) ∧ w.cell? ⟨m, 1, none⟩ = some (I acc) ∧ w.frozen? ⟨m, 1, none⟩ = false ∧ m < w.heap.size :=
  ⟨h.head.cell 0, h.head.cell 1, h.head.frozen 1, h.head.lt⟩

def macText (acc : Int) (l : List V) : List UInt8 := [97, 99, 99, 61] ++ itoa acc ++ [32, 124, 32] ++ stPre l l.length
set_option maxRecDepth 100000 in
set_option maxHeartbeats 1000000 in
theorem macShow (K : Nat → Prop) (w : World) (m p : Nat) (acc : Int) (l : List V) (h : Mac K w m p acc l) :
    Calls Try.prog 31 #[ptr m] w fun e w' => e = .returned (S (macText acc l)) ∧ Below w.heap.size w w' := by
  obtain ⟨c0, c1, f1, lm⟩ := h.at0
  have hpl := stPre_len l l.length h.ok h.le
  have hl := itoa_len acc h.a1 h.a2
  rw [← str_size] at hl
  go_enter Try.func31, Try.ntmps31
  go_wp2_with fail
  refine (itoa_any acc h.a1 h.a2 w).mono ?_
  rintro e w1 ⟨rfl, b1⟩
  have d0 := (b1.cell (p := ⟨m, 0, none⟩) lm).trans c0
  clear c0 c1 f1
  go_wp2_with fail
  refine (stShow _ w1 p l h.ok (h.st.later b1)).mono ?_
  rintro e w2 ⟨rfl, b2⟩
  go_wp2
  go_ret
  refine ⟨?_, b1.trans (b2.mono b1.size)⟩
  show Ending.returned (.string (str [97, 99, 99, 61] ++ str (itoa acc) ++ str [32, 124, 32] ++ str (stPre l l.length))) = _
  rw [str_append, str_append, str_append]
  rfl

theorem StR.weak {K L : Nat → Prop} {w : World} {p : Nat} {vs : List Value} (h : StR K w p vs) (hs : ∀ k, L k → K k) : StR L w p vs := by
  obtain ⟨a, cap, h⟩ := h
  exact ⟨a, cap, h.head, h.own, h.far, fun e => h.kp (hs _ e), fun g hg e => h.ka g hg (hs _ e), fun k hk => h.ks k (hs k hk), h.le⟩
set_option maxRecDepth 100000 in
set_option maxHeartbeats 1000000 in
theorem ground_any (w : World) :
    Calls Try.prog 28 #[] w fun e w' => ∃ p, e = .returned (.agg #[ptr p]) ∧ StR (· < w.heap.size) w' p [] ∧ Below w.heap.size w w' := by
  go_enter Try.func28, Try.ntmps28
  go_wp2_with fail
  refine (vNew_any _).mono ?_
  rintro e w1 ⟨rfl, s1, b1⟩
  have B1 : Blk w1 w.heap.size #[.pointer none] 31 := (Blk.new rfl).below b1 (by rw [World.size_alloc]; omega)
  have k1 := B1.cell 0
  have k2 := B1.frozen 0
  have bb : Below w.heap.size w w1 := ((Below.refl _ _).alloc (Nat.le_refl _) _).trans (b1.mono (by rw [World.size_alloc]; omega))
  rw [World.size_alloc] at s1
  have B2 := B1.set (i := 0) (ptr (w.heap.size + 1))
  have s2 : StR (· < w.heap.size) (w1.setCell ⟨w.heap.size, 0, none⟩ (ptr (w.heap.size + 1))) (w.heap.size + 1) [] := by
    obtain ⟨a, cap, hA⟩ := s1
    refine StR.weak (K := (· < w.heap.size + 1)) ⟨a, cap, hA.kept (L := fun k => k ≠ w.heap.size) ⟨rfl, rfl, rfl, by simp [World.setCell], fun k hk => ?_⟩ (by omega) (fun g hg e => ?_)⟩ (fun k hk => Nat.lt_succ_of_lt hk)
    · exact Below.heap_setCell _ _ _ _ hk
    · exact hA.ka g hg (by omega)
  go_wp2
  exact ret_row Try.results28 rfl rfl B2 Try.underlying31 rfl (by kernel_rfl) ⟨_, rfl, s2, bb.setCell (Nat.le_refl _) _⟩

set_option maxRecDepth 100000 in
set_option maxHeartbeats 2000000 in
theorem macNew (K : Nat → Prop) (w : World) (p : Nat) (h : StR K w p []) :
    Calls Try.prog 29 #[ptr p] w fun e w' => e = .returned (ptr w.heap.size) ∧ Mac K w' w.heap.size p 0 [] ∧ Below w.heap.size w w' := by
  go_enter Try.func29, Try.ntmps29
  go_wp2
  go_ret
  have b1 := (Below.refl w.heap.size w).alloc (Nat.le_refl _) (.cells (macCells p 0) 45)
  refine ⟨rfl, ⟨Blk.new rfl, ?_, ?_, by simp, by decide, by decide⟩, b1⟩
  · obtain ⟨a, cap, hA⟩ := h
    obtain ⟨l1, l2⟩ := hA.lt
    have hN := hA.kept (L := (· < w.heap.size)) ⟨b1.os, b1.tape, b1.output, b1.size, fun k hk => b1.block k hk⟩ l1 l2
    refine ⟨a, cap, hN.head, hN.own, hN.far, ?_, ?_, ?_, by simp⟩
    · rintro (e | e)
      · exact hA.kp e
      · omega
    · rintro g hg (e | e)
      · exact hA.ka g hg e
      · have := l2 g hg; omega
    · rintro k (e | e)
      · exact hN.ks k e
      · rw [e, World.size_alloc]; omega
  · obtain ⟨a, cap, hA⟩ := h
    exact fun hk => Nat.lt_irrefl _ (hA.ks _ hk)
end Go.Proofs.Qxb6500470a
