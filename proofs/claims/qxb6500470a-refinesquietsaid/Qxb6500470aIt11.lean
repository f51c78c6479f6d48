import Derived.Test.Qxb6500470aIt10
namespace Go.Proofs.Qxb6500470a
open Go.RowKit Go.Shelf
theorem StR.growK {K K' : Nat → Prop} {w w' : World} {p : Nat} {vs : List Value} (h : StR K w p vs) (b : Below w.heap.size w w') (n : ∀ k, K' k → K k ∨ (w.heap.size ≤ k ∧ k < w'.heap.size)) : StR K' w' p vs := by
  obtain ⟨a, cap, h⟩ := h
  obtain ⟨lp, lg⟩ := h.lt
  have h' : StA K w' p a cap vs := h.kept (L := (· < w.heap.size)) ⟨b.os, b.tape, b.output, b.size, fun k hk => b.block k hk⟩ lp lg
  refine ⟨a, cap, h'.head, h'.own, h'.far, ?_, ?_, ?_, h'.le⟩
  · intro hk
    rcases n _ hk with e | e
    · exact h'.kp e
    · omega
  · intro g hg hk
    rcases n _ hk with e | e
    · exact h'.ka g hg e
    · have := lg g hg; omega
  · intro k hk
    rcases n _ hk with e | e
    · exact h'.ks k e
    · exact e.2
theorem add_under (K : Nat → Prop) (w : World) (p : Nat) (vs : List Value) (h : StR K w p vs) (hn : vs.length < 2) :
    Calls Try.prog 36 #[ptr p] w fun e w' => e = .returned (I 4) ∧ w' = w := by
  obtain ⟨a, cap, c0, lp⟩ := count_lt K w p vs h
  have i1 : (vs.length : Int) < 2 := by omega
  go_enter Try.func36, Try.ntmps36
  go_wp2
  go_ret
  exact ⟨rfl, rfl⟩
set_option maxRecDepth 100000 in
set_option maxHeartbeats 4000000 in
theorem add_err (K : Nat → Prop) (w : World) (p : Nat) (us : List Value) (va vb : Value) (k : Int) (h : StR K w p (us ++ [va, vb])) (hk : k ≠ 0) (hP : Calls Try.prog 55 #[va, vb] w fun e w' => e = .returned (.tuple #[.nilIface, I k]) ∧ Below w.heap.size w w') :
    Calls Try.prog 36 #[ptr p] w fun e w' => e = .returned (I k) ∧ Below w.heap.size w w' := by
  obtain ⟨a, cap, c0, lp⟩ := count_lt K w p _ h
  have h5 := h.le
  have p1 := peek_some K w p _ h 1 (by simp)
  rw [getD_last2] at p1
  have p0 := peek_some K w p _ h 0 (by simp)
  rw [getD_last1] at p0
  rw [List.length_append] at c0 h5
  simp only [List.length_cons, List.length_nil] at c0 h5
  have i1 : ¬ ((us.length + (0 + 1 + 1) : Nat) : Int) < 2 := by omega
  have k0 : (k != 0) = true := by simpa using hk
  go_enter Try.func36, Try.ntmps36
  go_wp2_with fail
  refine p1.mono ?_
  rintro e w1 ⟨rfl, rfl⟩
  go_wp2_with fail
  refine p0.mono ?_
  rintro e w1 ⟨rfl, rfl⟩
  go_wp2_with fail
  refine hP.mono ?_
  rintro e w2 ⟨rfl, b2⟩
  go_wp2
  go_ret
  exact ⟨rfl, b2⟩
set_option maxRecDepth 100000 in
set_option maxHeartbeats 4000000 in
theorem add_ok (K : Nat → Prop) (w : World) (p : Nat) (us : List Value) (va vb : Value) (x : TV) (h : StR K w p (us ++ [va, vb])) (hP : Calls Try.prog 55 #[va, vb] w fun e w' => (∃ v, e = .returned (.tuple #[v, I 0]) ∧ NewV K w x v w') ∧ Below w.heap.size w w') :
    Calls Try.prog 36 #[ptr p] w fun e w' => e = .returned (I 0) ∧ ∃ K' v, (∀ k, K k → K' k) ∧ (∀ k, K' k → K k ∨ w.heap.size ≤ k) ∧ RV K' w' x v ∧ StR K' w' p (us ++ [v]) ∧ Kept K w w' := by
  obtain ⟨a, cap, c0, lp⟩ := count_lt K w p _ h
  have h5 := h.le
  have p1 := peek_some K w p _ h 1 (by simp)
  rw [getD_last2] at p1
  have p0 := peek_some K w p _ h 0 (by simp)
  rw [getD_last1] at p0
  rw [List.length_append] at c0 h5
  simp only [List.length_cons, List.length_nil] at c0 h5
  have i1 : ¬ ((us.length + (0 + 1 + 1) : Nat) : Int) < 2 := by omega
  have ksw := h.ks
  go_enter Try.func36, Try.ntmps36
  go_wp2_with fail
  refine p1.mono ?_
  rintro e w1 ⟨rfl, hw⟩
  rw [hw]
  clear hw w1
  go_wp2_with fail
  refine p0.mono ?_
  rintro e w1 ⟨rfl, hw⟩
  rw [hw]
  clear hw w1
  go_wp2_with fail
  refine hP.mono ?_
  rintro e w2 ⟨⟨v, rfl, K', m, n, rv⟩, b2⟩
  obtain ⟨tv, uv, rfl⟩ := rv.iface
  have S2 := h.growK b2 n
  have kw := Kept.of_below (K := K) b2 ksw
  go_wp2_with fail
  refine (swap_any _ w2 p _ S2 us.length 2 (by simp) (by omega) _ _).mono ?_
  rintro e w3 ⟨rfl, s3, k3⟩
  rw [take_but2] at s3
  go_wp2
  go_ret
  refine ⟨rfl, K', _, m, fun k hk => ?_, rv.kept k3, s3, kw.trans (k3.weak m)⟩
  rcases n k hk with e | e
  · exact .inl e
  · exact .inr e.1
/-- A value lies on where blocks that are no cells turn. -/
theorem RV.grown {K : Nat → Prop} {w w' : World} {row : Option Nat} (hg : w.grownBy w' row) (hr : ∀ r, row = some r → ∃ o : Obj, w.heap[r]? = some o ∧ o.isCells = false) : ∀ {x : TV} {v : Value}, RV K w x v → RV K w' x v := by
  have hb : ∀ {q : Nat} {c : Array Value} {t : TypeId}, Blk w q c t → Blk w' q c t := by
    intro q c t h
    refine (hg.block q h.lt ?_).trans h
    intro e
    obtain ⟨o, ho, hc⟩ := hr q e.symm
    have h' : w.heap[q]? = some (.cells c t) := h
    rw [h'] at ho
    cases ho
    cases hc
  intro x
  induction x with
  | int n => intro v h; exact h
  | str s => intro v h; exact h
  | nil => intro v h; exact h
  | cons a b iha ihb =>
    rintro v ⟨q, hv, tp, e, k, bl, r1, r2⟩
    exact ⟨q, hv, tp, e, k, hb bl, iha r1, ihb r2⟩
  | pair a b iha ihb =>
    rintro v ⟨q, hv, tp, e, k, bl, r1, r2⟩
    exact ⟨q, hv, tp, e, k, hb bl, iha r1, ihb r2⟩
end Go.Proofs.Qxb6500470a
