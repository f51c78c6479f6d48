import Derived.Test.Qxb6500475aLone
import Derived.Test.Qxb6500475aEval
namespace Go.Proofs.Qxb6500475a
open Go.RowKit Go.Conc
abbrev Jb (i v : Int) : Value := .agg #[I i, I 1, I 0, I 1, I v, I 0, I 0]
abbrev Pt (i v : Int) : Value := .agg #[I i, I 1, I v, I 0, I 0, I 0]

theorem setChan_other (w : World) (c c' cap : Nat) (buf : Array Value) (closed : Bool) (s r : Nat) (tm : Bool) (h : c ≠ c') : (w.setChan c cap buf closed s r tm).heap[c']? = w.heap[c']? := by
  simp [World.setChan, Array.getElem?_setIfInBounds_ne h]
theorem lt_of_heap {w : World} {c : Nat} {o : Obj} (h : w.heap[c]? = some o) : c < w.heap.size := by
  rcases Nat.lt_or_ge c w.heap.size with h' | h'
  · exact h'
  · simp [Array.getElem?_eq_none h'] at h
/-- A channel's block is turned; two other blocks stay. -/
theorem chan3 {B : Nat} {w₀ w : World} {c c' c'' cap s r : Nat} {buf : Array Value} {cl tm : Bool} {o o' o'' : Obj} (hb : Below B w₀ w) (hB : B ≤ c) (h : w.heap[c]? = some o) (h' : w.heap[c']? = some o') (h'' : w.heap[c'']? = some o'') (d : c ≠ c') (d' : c ≠ c'') :
    ∃ w1, w.setChan c cap buf cl s r tm = w1 ∧ Below B w₀ w1 ∧ w1.heap[c]? = some (.chan cap buf cl s r tm) ∧ w1.heap[c']? = some o' ∧ w1.heap[c'']? = some o'' :=
  ⟨_, rfl, below_setChan hb hB _ _ _ _ _ _, heap_setChan _ _ _ _ _ _ _ _ (lt_of_heap h), by rw [setChan_other _ _ _ _ _ _ _ _ _ d]; exact h', by rw [setChan_other _ _ _ _ _ _ _ _ _ d']; exact h''⟩
/-- Behind a call: blocks that were there. -/
theorem later {w w' : World} {c : Nat} {o : Obj} (hb : Below w.heap.size w w') (h : w.heap[c]? = some o) : w'.heap[c]? = some o := by rw [hb.block c (lt_of_heap h)]; exact h
theorem laid {w : World} {c : Nat} {o : Obj} (o' : Obj) (h : w.heap[c]? = some o) : (w.alloc o').heap[c]? = some o := by rw [Below.heap_alloc _ _ _ (lt_of_heap h)]; exact h

set_option maxRecDepth 100000 in
set_option maxHeartbeats 4000000 in
theorem work (B : Nat) (id i0 v0 i1 v1 : Int) (a0 : 0 ≤ v0) (a1 : v0 ≤ 1000) (b0 : 0 ≤ v1) (b1 : v1 ≤ 1000) (w : World) (c1 c2 c3 : Nat) (d12 : c1 ≠ c2) (d13 : c1 ≠ c3) (d23 : c2 ≠ c3)
    (B1 : B ≤ c1) (B2 : B ≤ c2) (B3 : B ≤ c3)
    (h1 : w.heap[c1]? = some (.chan 2 #[Jb i0 v0, Jb i1 v1] true 2 0 false)) (h2 : w.heap[c2]? = some (.chan 2 #[] false 0 0 false)) (h3 : w.heap[c3]? = some (.chan 1 #[] false 0 0 false)) :
    Calls Try.prog 29 #[I id, .chan (some c1), .chan (some c2), .chan (some c3)] w fun e w' => e = .returned (.tuple #[]) ∧ Below B w w' ∧ w'.heap[c2]? = some (.chan 2 #[Pt i0 v0, Pt i1 v1] false 2 0 false) ∧ w'.heap[c3]? = some (.chan 1 #[.agg #[I id, I 2]] false 1 0 false) := by
  refine calls_of_loneTo fun cs => ?_
  have e : Frame.enter Try.prog 29 #[I id, .chan (some c1), .chan (some c2), .chan (some c3)] .normal = (base 29).at ⟨#[I id, .chan (some c1), .chan (some c2), .chan (some c3), undef, undef, undef, undef, undef, undef, undef, undef, undef, undef, undef, undef, undef, undef, undef, undef, undef, undef, undef, undef, undef], []⟩ [.code (Try.f29.body.getD .skip)] := by
    simp [Frame.enter, Frame.at, Try.func29, base, Try.f29]
  rw [e]
  clear e
  simp only [Try.f29, Option.getD_some]
  refine l_seq (l_code ?_)
  go_wp2
  refine nt (l_seq (l_seq (l_code ?_)))
  go_wp2
  refine nt (l_block (l_loop (l_seq (l_reg ?_))))
  simp only [List.size_toArray, List.length_cons, List.length_nil, Nat.reduceAdd, Nat.zero_add, List.range, List.range.loop]
  have hb := Below.refl B w
  refine l_recv (c := c1) (z := .agg #[I 0, I 0, I 0, I 0, I 0, I 0, I 0]) true (by decide) rfl rfl (by simp [go_sem, rcase]) h1 (by simp) ?_
  obtain ⟨wa0, ha0, hb, h1, h2, h3⟩ := chan3 (cap := 2) (s := 2) (r := 0 + 1) (buf := #[Jb i1 v1]) (cl := true) (tm := false) hb B1 h1 h2 h3 d12 d13
  rw [show (#[Jb i0 v0, Jb i1 v1] : Array Value).extract 1 (#[Jb i0 v0, Jb i1 v1] : Array Value).size = #[Jb i1 v1] from rfl, ha0]
  clear ha0
  rw [show got true ((#[Jb i0 v0, Jb i1 v1] : Array Value).getD 0 undef) true = .tuple #[Jb i0 v0, .bool true] from rfl]
  walk_nrm
  refine l_op rfl rfl (fun K hK => ?_)
  go_simp
  refine hK _ _ ?_
  clear hK K
  refine l_end (l_seq (l_cond (t := true) rfl ?_))
  simp only [if_true]
  refine l_skip (l_block (l_seq (l_code ?_)))
  go_wp2
  refine nt (l_seq (l_code ?_))
  go_wp2_with fail
  refine (eval_one i0 0 v0 0 0 _ (by assumption) (by assumption)).mono ?_
  rintro e we0 ⟨rfl, be0⟩
  have hl : B ≤ wa0.heap.size := by have := lt_of_heap h1; omega
  replace hb := (hb.alloc hl _).trans (be0.mono (by simp; omega))
  replace h1 := later be0 (laid _ h1)
  replace h2 := later be0 (laid _ h2)
  replace h3 := later be0 (laid _ h3)
  replace hl : B ≤ we0.heap.size := by have := lt_of_heap h1; omega
  go_wp2
  refine nt (l_seq (l_reg ?_))
  simp only [List.size_toArray, List.length_cons, List.length_nil, Nat.reduceAdd, Nat.zero_add, List.range, List.range.loop]
  replace hb := hb.alloc hl (.cells #[I i0, I 1, I v0, I 0, I 0, I 0] 31)
  replace h1 := laid (.cells #[I i0, I 1, I v0, I 0, I 0, I 0] 31) h1
  replace h2 := laid (.cells #[I i0, I 1, I v0, I 0, I 0, I 0] 31) h2
  replace h3 := laid (.cells #[I i0, I 1, I v0, I 0, I 0, I 0] 31) h3
  refine l_op rfl rfl (fun K hK => ?_)
  go_simp
  refine hK _ _ ?_
  clear hK K
  refine l_op rfl rfl (fun K hK => ?_)
  go_simp
  refine hK _ _ ?_
  clear hK K
  refine l_send (c := c2) (v := Pt i0 v0) (z := .tuple #[]) (by decide) rfl rfl (by simp [execOp, scase, Act.eval]) h2 (by simp) ?_
  obtain ⟨wb0, ha0, hb, h2, h1, h3⟩ := chan3 (cap := 2) (s := 0 + 1) (r := 0) (buf := #[Pt i0 v0]) (cl := false) (tm := false) hb B2 h2 h1 h3 (Ne.symm d12) d23
  rw [show (#[] : Array Value).push (Pt i0 v0) = #[Pt i0 v0] from rfl, ha0]
  clear ha0
  walk_nrm
  refine l_end (l_code ?_)
  go_wp2
  refine nt (l_inBlock (l_inLoop (l_seq (l_reg ?_))))
  simp only [List.size_toArray, List.length_cons, List.length_nil, Nat.reduceAdd, Nat.zero_add, List.range, List.range.loop]
  refine l_recv (c := c1) (z := .agg #[I 0, I 0, I 0, I 0, I 0, I 0, I 0]) true (by decide) rfl rfl (by simp [go_sem, rcase]) h1 (by simp) ?_
  obtain ⟨wa1, ha1, hb, h1, h2, h3⟩ := chan3 (cap := 2) (s := 2) (r := 1 + 1) (buf := #[]) (cl := true) (tm := false) hb B1 h1 h2 h3 d12 d13
  rw [show (#[Jb i1 v1] : Array Value).extract 1 (#[Jb i1 v1] : Array Value).size = #[] from rfl, ha1]
  clear ha1
  rw [show got true ((#[Jb i1 v1] : Array Value).getD 0 undef) true = .tuple #[Jb i1 v1, .bool true] from rfl]
  walk_nrm
  refine l_op rfl rfl (fun K hK => ?_)
  go_simp
  refine hK _ _ ?_
  clear hK K
  refine l_end (l_seq (l_cond (t := true) rfl ?_))
  simp only [if_true]
  refine l_skip (l_block (l_seq (l_code ?_)))
  go_wp2
  refine nt (l_seq (l_code ?_))
  go_wp2_with fail
  refine (eval_one i1 0 v1 0 0 _ (by assumption) (by assumption)).mono ?_
  rintro e we1 ⟨rfl, be1⟩
  have hl : B ≤ wa1.heap.size := by have := lt_of_heap h1; omega
  replace hb := (hb.alloc hl _).trans (be1.mono (by simp; omega))
  replace h1 := later be1 (laid _ h1)
  replace h2 := later be1 (laid _ h2)
  replace h3 := later be1 (laid _ h3)
  replace hl : B ≤ we1.heap.size := by have := lt_of_heap h1; omega
  go_wp2
  refine nt (l_seq (l_reg ?_))
  simp only [List.size_toArray, List.length_cons, List.length_nil, Nat.reduceAdd, Nat.zero_add, List.range, List.range.loop]
  replace hb := hb.alloc hl (.cells #[I i1, I 1, I v1, I 0, I 0, I 0] 31)
  replace h1 := laid (.cells #[I i1, I 1, I v1, I 0, I 0, I 0] 31) h1
  replace h2 := laid (.cells #[I i1, I 1, I v1, I 0, I 0, I 0] 31) h2
  replace h3 := laid (.cells #[I i1, I 1, I v1, I 0, I 0, I 0] 31) h3
  refine l_op rfl rfl (fun K hK => ?_)
  go_simp
  refine hK _ _ ?_
  clear hK K
  refine l_op rfl rfl (fun K hK => ?_)
  go_simp
  refine hK _ _ ?_
  clear hK K
  refine l_send (c := c2) (v := Pt i1 v1) (z := .tuple #[]) (by decide) rfl rfl (by simp [execOp, scase, Act.eval]) h2 (by simp) ?_
  obtain ⟨wb1, ha1, hb, h2, h1, h3⟩ := chan3 (cap := 2) (s := 1 + 1) (r := 0) (buf := #[Pt i0 v0, Pt i1 v1]) (cl := false) (tm := false) hb B2 h2 h1 h3 (Ne.symm d12) d23
  rw [show (#[Pt i0 v0] : Array Value).push (Pt i1 v1) = #[Pt i0 v0, Pt i1 v1] from rfl, ha1]
  clear ha1
  walk_nrm
  refine l_end (l_code ?_)
  go_wp2
  refine nt (l_inBlock (l_inLoop (l_seq (l_reg ?_))))
  simp only [List.size_toArray, List.length_cons, List.length_nil, Nat.reduceAdd, Nat.zero_add, List.range, List.range.loop]
  refine l_shut (c := c1) (z := .agg #[I 0, I 0, I 0, I 0, I 0, I 0, I 0]) true (by decide) rfl rfl (by simp [go_sem, rcase]) h1 ?_
  rw [show got true (.agg #[I 0, I 0, I 0, I 0, I 0, I 0, I 0]) false = .tuple #[.agg #[I 0, I 0, I 0, I 0, I 0, I 0, I 0], .bool false] from rfl]
  walk_nrm
  refine l_op rfl rfl (fun K hK => ?_)
  go_simp
  refine hK _ _ ?_
  clear hK K
  refine l_end (l_seq (l_cond (t := false) rfl ?_))
  simp only [Bool.false_eq_true, if_false]
  refine l_exit rfl (l_reg ?_)
  simp only [List.size_toArray, List.length_cons, List.length_nil, Nat.reduceAdd, Nat.zero_add, List.range, List.range.loop]
  refine l_op rfl rfl (fun K hK => ?_)
  go_simp
  refine hK _ _ ?_
  clear hK K
  refine l_op rfl rfl (fun K hK => ?_)
  go_simp
  refine hK _ _ ?_
  clear hK K
  refine l_op rfl rfl (fun K hK => ?_)
  go_simp
  refine hK _ _ ?_
  clear hK K
  refine l_op rfl rfl (fun K hK => ?_)
  go_simp
  refine hK _ _ ?_
  clear hK K
  refine l_send (c := c3) (v := .agg #[I id, I 2]) (z := .tuple #[]) (by decide) rfl rfl (by simp [execOp, scase, Act.eval]) h3 (by simp) ?_
  obtain ⟨wz, haz, hb, h3, h1, h2⟩ := chan3 (cap := 1) (s := 0 + 1) (r := 0) (buf := #[.agg #[I id, I 2]]) (cl := false) (tm := false) hb B3 h3 h1 h2 (Ne.symm d13) (Ne.symm d23)
  rw [show (#[] : Array Value).push (.agg #[I id, I 2]) = #[.agg #[I id, I 2]] from rfl, haz]
  clear haz
  walk_nrm
  refine l_end (l_step step_end ?_)
  refine LoneTo.done ⟨.returned (.tuple #[]), _, rfl, ⟨rfl, hb, h2, h3⟩, rfl, rfl, rfl, rfl, _, Try.func29, by simp [results, Try.f29]⟩
end Go.Proofs.Qxb6500475a
