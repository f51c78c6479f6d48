import Derived.Test.Qxb6500475aRows
import Derived.WalkKit
import Derived.ProofKit
import Derived.OpenShut
import Derived.ShutString
import Derived.ChangeOld
import Derived.Below
import Derived.Test.Qxb6500475aJobs
namespace Go.Proofs.Qxb6500475a.edgeCopied
open Go.ChangeShapes Go.WideShapes Go.ChangeAt Go.RowKit
open Go.ChangeMaps (open_string shut_string)
set_option linter.unusedVariables false      -- a walk need not use every 'w<i>' (that an integer argument fits its kind)

theorem own : ownKnob Try.prog.godebug = none := by kernel_rfl

open Go.Conc
theorem kept_set {w : World} {c : Nat} {o : Obj} (h : w.heap[c]? = some o) {p : Addr} (hp : c ≠ p.block) (v : Value) : (w.setCell p v).heap[c]? = some o := by rw [Below.heap_setCell _ _ _ _ hp]; exact h
set_option maxRecDepth 100000 in
set_option maxHeartbeats 4000000 in
theorem walk (w : World) :
    Calls Try.prog 11 #[] w fun e w' => e = .returned (.bool true) ∧ Below w.heap.size w w' := by
  have m1 : ∀ W : World, (Instr.makeChan 25 (.int .i64 2)).run Try.prog W = .ok (.chan (some W.heap.size)) (W.alloc (.chan 2 #[] false 0 0 false)) := fun W => mkc (t := 25) (e := 37) (n := 2) (b := 56) Try.underlying25 (by kernel_rfl) (by decide) (by decide) W
  have m2 : ∀ W : World, (Instr.makeChan 26 (.int .i64 2)).run Try.prog W = .ok (.chan (some W.heap.size)) (W.alloc (.chan 2 #[] false 0 0 false)) := fun W => mkc (t := 26) (e := 31) (n := 2) (b := 48) Try.underlying26 (by kernel_rfl) (by decide) (by decide) W
  have m3 : ∀ W : World, (Instr.makeChan 27 (.int .i64 1)).run Try.prog W = .ok (.chan (some W.heap.size)) (W.alloc (.chan 1 #[] false 0 0 false)) := fun W => mkc (t := 27) (e := 33) (n := 1) (b := 16) Try.underlying27 (by kernel_rfl) (by decide) (by decide) W
  refine calls_of_loneTo fun cs => ?_
  have e : Frame.enter Try.prog 11 #[] .normal = (base 11).at ⟨Array.replicate 47 undef, []⟩ [.code (Try.f11.body.getD .skip)] := by
    simp [Frame.enter, Frame.at, Try.func11, base, Try.f11]
  rw [e]
  clear e
  rw [show Array.replicate 47 undef = #[undef, undef, undef, undef, undef, undef, undef, undef, undef, undef, undef, undef, undef, undef, undef, undef, undef, undef, undef, undef, undef, undef, undef, undef, undef, undef, undef, undef, undef, undef, undef, undef, undef, undef, undef, undef, undef, undef, undef, undef, undef, undef, undef, undef, undef, undef, undef] from rfl]
  simp only [Try.f11, Option.getD_some]
  refine l_seq (l_code ?_)
  go_wp2
  refine nt (l_seq (l_code ?_))
  go_wp2
  refine nt (l_seq (l_code ?_))
  go_wp2
  refine nt (l_seq (l_code ?_))
  go_wp2
  clear m1 m2 m3
  refine nt (l_seq (l_code ?_))
  have hb := (((Below.refl w.heap.size w).alloc (Nat.le_refl _) (.chan 2 #[] false 0 0 false)).alloc (by simp) (.chan 2 #[] false 0 0 false)).alloc (by simp; omega) (.chan 1 #[] false 0 0 false)
  have h1 : (((w.alloc (.chan 2 #[] false 0 0 false)).alloc (.chan 2 #[] false 0 0 false)).alloc (.chan 1 #[] false 0 0 false)).heap[w.heap.size]? = some (.chan 2 #[] false 0 0 false) := laid _ (laid _ (heap_alloc_new _ _))
  have h2 : (((w.alloc (.chan 2 #[] false 0 0 false)).alloc (.chan 2 #[] false 0 0 false)).alloc (.chan 1 #[] false 0 0 false)).heap[w.heap.size + 1]? = some (.chan 2 #[] false 0 0 false) := by
    have h := heap_alloc_new (w.alloc (.chan 2 #[] false 0 0 false)) (.chan 2 #[] false 0 0 false)
    rw [World.size_alloc] at h
    exact laid _ h
  have h3 : (((w.alloc (.chan 2 #[] false 0 0 false)).alloc (.chan 2 #[] false 0 0 false)).alloc (.chan 1 #[] false 0 0 false)).heap[w.heap.size + 1 + 1]? = some (.chan 1 #[] false 0 0 false) := by
    have h := heap_alloc_new ((w.alloc (.chan 2 #[] false 0 0 false)).alloc (.chan 2 #[] false 0 0 false)) (.chan 1 #[] false 0 0 false)
    rw [World.size_alloc, World.size_alloc] at h
    exact h
  generalize ((w.alloc (.chan 2 #[] false 0 0 false)).alloc (.chan 2 #[] false 0 0 false)).alloc (.chan 1 #[] false 0 0 false) = w0 at *
  have d12 : w.heap.size ≠ w.heap.size + 1 := by omega
  have d13 : w.heap.size ≠ w.heap.size + 1 + 1 := by omega
  have d23 : w.heap.size + 1 ≠ w.heap.size + 1 + 1 := by omega
  go_wp2_with fail
  refine (one 0 9 _).mono ?_
  rintro e we ⟨rfl, be⟩
  have hl : w.heap.size ≤ w0.heap.size := by have := lt_of_heap h1; omega
  replace hb := hb.trans (be.mono hl)
  replace h1 := later be h1
  replace h2 := later be h2
  replace h3 := later be h3
  clear be hl
  have hl : w.heap.size + 1 + 1 < we.heap.size := lt_of_heap h3
  go_wp2
  refine nt (l_seq (l_reg ?_))
  simp only [List.size_toArray, List.length_cons, List.length_nil, Nat.reduceAdd, Nat.zero_add, List.range, List.range.loop]
  have PJ : Blk (we.alloc (.cells #[I 0, I 1, I 0, I 1, I 9, I 0, I 0] 37)) we.heap.size #[I 0, I 1, I 0, I 1, I 9, I 0, I 0] 37 := Blk.new rfl
  replace hb := hb.alloc (by omega) (.cells #[I 0, I 1, I 0, I 1, I 9, I 0, I 0] 37)
  replace h1 := laid (.cells #[I 0, I 1, I 0, I 1, I 9, I 0, I 0] 37) h1
  replace h2 := laid (.cells #[I 0, I 1, I 0, I 1, I 9, I 0, I 0] 37) h2
  replace h3 := laid (.cells #[I 0, I 1, I 0, I 1, I 9, I 0, I 0] 37) h3
  have dJ : w.heap.size ≠ we.heap.size := by omega
  refine l_op rfl rfl (fun K hK => ?_)
  go_simp
  refine hK _ _ ?_
  clear hK K
  refine l_op rfl rfl (fun K hK => ?_)
  go_simp
  refine hK _ _ ?_
  clear hK K
  refine l_send (c := w.heap.size) (v := Jb 0 9) (z := .tuple #[]) (by decide) rfl rfl (by simp [execOp, scase, Act.eval]) h1 (by simp) ?_
  obtain ⟨_, ha', _, _, PJ', _⟩ := chan3 (cap := 2) (s := 0 + 1) (r := 0) (buf := #[Jb 0 9]) (cl := false) (tm := false) hb (Nat.le_refl _) h1 PJ PJ dJ dJ
  obtain ⟨w1, ha, hb, h1, h2, h3⟩ := chan3 (cap := 2) (s := 0 + 1) (r := 0) (buf := #[Jb 0 9]) (cl := false) (tm := false) hb (Nat.le_refl _) h1 h2 h3 d12 d13
  rw [show (#[] : Array Value).push (Jb 0 9) = #[Jb 0 9] from rfl]
  rw [ha] at ha' ⊢
  subst ha'
  clear ha
  replace PJ : Blk w1 we.heap.size #[I 0, I 1, I 0, I 1, I 9, I 0, I 0] 37 := PJ'
  try walk_nrm
  obtain ⟨tJ, fJ, lJ⟩ := PJ.facts
  refine l_end (l_seq (l_code ?_))
  go_wp2
  refine nt (l_seq (l_code ?_))
  replace PJ := PJ.set (i := 0) (I 1)
  replace hb := hb.setCell (p := ⟨we.heap.size, 0, none⟩) (by simp; omega) (I 1)
  replace h1 := kept_set h1 (p := ⟨we.heap.size, 0, none⟩) (by simp; omega) (I 1)
  replace h2 := kept_set h2 (p := ⟨we.heap.size, 0, none⟩) (by simp; omega) (I 1)
  replace h3 := kept_set h3 (p := ⟨we.heap.size, 0, none⟩) (by simp; omega) (I 1)
  clear tJ fJ lJ
  generalize w1.setCell ⟨we.heap.size, 0, none⟩ (I 1) = w1a at *
  replace PJ : Blk w1a we.heap.size #[I 1, I 1, I 0, I 1, I 9, I 0, I 0] 37 := PJ
  obtain ⟨tJ, fJ, lJ⟩ := PJ.facts
  go_wp2
  refine nt (l_seq (l_reg ?_))
  simp only [List.size_toArray, List.length_cons, List.length_nil, Nat.reduceAdd, Nat.zero_add, List.range, List.range.loop]
  replace PJ := PJ.set (i := 4) (I 7)
  replace hb := hb.setCell (p := ⟨we.heap.size, 4, none⟩) (by simp; omega) (I 7)
  replace h1 := kept_set h1 (p := ⟨we.heap.size, 4, none⟩) (by simp; omega) (I 7)
  replace h2 := kept_set h2 (p := ⟨we.heap.size, 4, none⟩) (by simp; omega) (I 7)
  replace h3 := kept_set h3 (p := ⟨we.heap.size, 4, none⟩) (by simp; omega) (I 7)
  clear tJ fJ lJ
  generalize w1a.setCell ⟨we.heap.size, 4, none⟩ (I 7) = w1aa at *
  replace PJ : Blk w1aa we.heap.size #[I 1, I 1, I 0, I 1, I 7, I 0, I 0] 37 := PJ
  obtain ⟨tJ, fJ, lJ⟩ := PJ.facts
  refine l_op rfl rfl (fun K hK => ?_)
  go_simp
  refine hK _ _ ?_
  clear hK K
  refine l_op rfl rfl (fun K hK => ?_)
  go_simp
  refine hK _ _ ?_
  clear hK K
  refine l_send (c := w.heap.size) (v := Jb 1 7) (z := .tuple #[]) (by decide) rfl rfl (by simp [execOp, scase, Act.eval]) h1 (by simp) ?_
  obtain ⟨w2, ha, hb, h1, h2, h3⟩ := chan3 (cap := 2) (s := 1 + 1) (r := 0) (buf := #[Jb 0 9, Jb 1 7]) (cl := false) (tm := false) hb (Nat.le_refl _) h1 h2 h3 d12 d13
  rw [show (#[Jb 0 9] : Array Value).push (Jb 1 7) = #[Jb 0 9, Jb 1 7] from rfl, ha]
  clear ha tJ fJ lJ PJ
  try walk_nrm
  refine l_end (l_seq (l_reg ?_))
  simp only [List.size_toArray, List.length_cons, List.length_nil, Nat.reduceAdd, Nat.zero_add, List.range, List.range.loop]
  refine l_op rfl rfl (fun K hK => ?_)
  go_simp
  refine hK _ _ ?_
  clear hK K
  have hcl := fun ats ty => run_close_open (P := Try.prog) (w := w2) ats ty h1
  refine l_op rfl rfl (fun K hK => ?_)
  go_simp
  refine hK _ _ ?_
  clear hK K hcl
  change LoneTo _ _ _ (w2.setChan w.heap.size 2 #[Jb 0 9, Jb 1 7] true 2 0 false)
  obtain ⟨w3, ha, hb, h1, h2, h3⟩ := chan3 (cap := 2) (s := 2) (r := 0) (buf := #[Jb 0 9, Jb 1 7]) (cl := true) (tm := false) hb (Nat.le_refl _) h1 h2 h3 d12 d13
  rw [ha]
  clear ha
  refine l_end (l_seq (l_code ?_))
  go_wp2_with fail
  refine (work w.heap.size 6 0 9 1 7 (by decide) (by decide) (by decide) (by decide) _ w.heap.size (w.heap.size + 1) (w.heap.size + 1 + 1) d12 d13 d23 (Nat.le_refl _) (by omega) (by omega) h1 h2 h3).mono ?_
  rintro e w4 ⟨rfl, be, g2, g3⟩
  replace hb := hb.trans be
  clear h1 h2 h3 be
  go_wp2
  refine nt (l_seq (l_reg ?_))
  simp only [List.size_toArray, List.length_cons, List.length_nil, Nat.reduceAdd, Nat.zero_add, List.range, List.range.loop]
  refine l_op rfl rfl (fun K hK => ?_)
  go_simp
  refine hK _ _ ?_
  clear hK K
  refine l_recv (c := (w.heap.size + 1)) (z := .agg #[I 0, I 0, I 0, I 0, I 0, I 0]) false (by decide) rfl rfl (by simp [go_sem, rcase]) g2 (by simp) ?_
  obtain ⟨v1, ha, hb, g2', o1', o2'⟩ := chan3 (cap := 2) (s := 2) (r := 0 + 1) (buf := #[Pt 1 7]) (cl := false) (tm := false) hb (by omega) g2 g3 g3 d23 d23
  rw [show (#[Pt 0 9, Pt 1 7] : Array Value).extract 1 (#[Pt 0 9, Pt 1 7] : Array Value).size = #[Pt 1 7] from rfl, ha]
  clear ha
  rw [show got false ((#[Pt 0 9, Pt 1 7] : Array Value).getD 0 undef) true = Pt 0 9 from rfl]
  try walk_nrm
  replace g2 := g2'
  replace g3 := o1'
  have hl : (w.heap.size + 1) < v1.heap.size := lt_of_heap g2
  have hm1 : w.heap.size + 1 + 1 < v1.heap.size := lt_of_heap g3
  refine l_op rfl rfl (fun K hK => ?_)
  go_simp
  refine hK _ _ ?_
  clear hK K
  refine l_op rfl rfl (fun K hK => ?_)
  go_simp
  refine hK _ _ ?_
  clear hK K
  have Q1 : (v1.alloc (.cells #[I 0, I 1, I 9, I 0, I 0, I 0] 31)).heap[v1.heap.size]? = some (.cells #[I 0, I 1, I 9, I 0, I 0, I 0] 31) := heap_alloc_new _ _
  replace hb := hb.alloc (by omega) (.cells #[I 0, I 1, I 9, I 0, I 0, I 0] 31)
  replace g2 := laid (.cells #[I 0, I 1, I 9, I 0, I 0, I 0] 31) g2
  replace g3 := laid (.cells #[I 0, I 1, I 9, I 0, I 0, I 0] 31) g3
  refine l_end (l_seq (l_reg ?_))
  simp only [List.size_toArray, List.length_cons, List.length_nil, Nat.reduceAdd, Nat.zero_add, List.range, List.range.loop]
  refine l_op rfl rfl (fun K hK => ?_)
  go_simp
  refine hK _ _ ?_
  clear hK K
  refine l_recv (c := (w.heap.size + 1)) (z := .agg #[I 0, I 0, I 0, I 0, I 0, I 0]) false (by decide) rfl rfl (by simp [go_sem, rcase]) g2 (by simp) ?_
  obtain ⟨v2, ha, hb, g2', o1', o2'⟩ := chan3 (cap := 2) (s := 2) (r := 1 + 1) (buf := #[]) (cl := false) (tm := false) hb (by omega) g2 g3 Q1 d23 (by omega)
  rw [show (#[Pt 1 7] : Array Value).extract 1 (#[Pt 1 7] : Array Value).size = #[] from rfl, ha]
  clear ha
  rw [show got false ((#[Pt 1 7] : Array Value).getD 0 undef) true = Pt 1 7 from rfl]
  try walk_nrm
  replace g2 := g2'
  replace g3 := o1'
  replace Q1 := o2'
  have hl : (w.heap.size + 1) < v2.heap.size := lt_of_heap g2
  have hm2 : w.heap.size + 1 + 1 < v2.heap.size := lt_of_heap g3
  refine l_op rfl rfl (fun K hK => ?_)
  go_simp
  refine hK _ _ ?_
  clear hK K
  refine l_op rfl rfl (fun K hK => ?_)
  go_simp
  refine hK _ _ ?_
  clear hK K
  have Q2 : (v2.alloc (.cells #[I 1, I 1, I 7, I 0, I 0, I 0] 31)).heap[v2.heap.size]? = some (.cells #[I 1, I 1, I 7, I 0, I 0, I 0] 31) := heap_alloc_new _ _
  replace hb := hb.alloc (by omega) (.cells #[I 1, I 1, I 7, I 0, I 0, I 0] 31)
  replace g2 := laid (.cells #[I 1, I 1, I 7, I 0, I 0, I 0] 31) g2
  replace Q1 := laid (.cells #[I 1, I 1, I 7, I 0, I 0, I 0] 31) Q1
  replace g3 := laid (.cells #[I 1, I 1, I 7, I 0, I 0, I 0] 31) g3
  refine l_end (l_seq (l_reg ?_))
  simp only [List.size_toArray, List.length_cons, List.length_nil, Nat.reduceAdd, Nat.zero_add, List.range, List.range.loop]
  have hlq : v1.heap.size < v2.heap.size + 1 := by have := lt_of_heap Q1; simpa using this
  clear g2
  refine l_op rfl rfl (fun K hK => ?_)
  go_simp
  refine hK _ _ ?_
  clear hK K
  refine l_recv (c := (w.heap.size + 1 + 1)) (z := .agg #[I 0, I 0]) false (by decide) rfl rfl (by simp [go_sem, rcase]) g3 (by simp) ?_
  obtain ⟨v3, ha, hb, g3', o1', o2'⟩ := chan3 (cap := 1) (s := 1) (r := 0 + 1) (buf := #[]) (cl := false) (tm := false) hb (by omega) g3 Q1 Q2 (by omega) (by omega)
  rw [show (#[.agg #[I 6, I 2]] : Array Value).extract 1 (#[.agg #[I 6, I 2]] : Array Value).size = #[] from rfl, ha]
  clear ha
  rw [show got false ((#[.agg #[I 6, I 2]] : Array Value).getD 0 undef) true = .agg #[I 6, I 2] from rfl]
  try walk_nrm
  replace g3 := g3'
  replace Q1 := o1'
  replace Q2 := o2'
  have hl : (w.heap.size + 1 + 1) < v3.heap.size := lt_of_heap g3
  refine l_op rfl rfl (fun K hK => ?_)
  go_simp
  refine hK _ _ ?_
  clear hK K
  refine l_op rfl rfl (fun K hK => ?_)
  go_simp
  refine hK _ _ ?_
  clear hK K
  have Q3 : (v3.alloc (.cells #[I 6, I 2] 33)).heap[v3.heap.size]? = some (.cells #[I 6, I 2] 33) := heap_alloc_new _ _
  replace hb := hb.alloc (by omega) (.cells #[I 6, I 2] 33)
  replace Q2 := laid (.cells #[I 6, I 2] 33) Q2
  replace Q1 := laid (.cells #[I 6, I 2] 33) Q1
  replace g3 := laid (.cells #[I 6, I 2] 33) g3
  refine l_end (l_seq (l_code ?_))
  clear g3
  have P1 : Blk _ _ _ _ := Q1
  have P2 : Blk _ _ _ _ := Q2
  have P3 : Blk _ _ _ _ := Q3
  clear Q1 Q2 Q3 o1' o2'
  go_wp2_with fail
  refine (its 0 9 _).mono ?_
  rintro e y1 ⟨rfl, be⟩
  replace hb := hb.trans (be.mono (by simp; omega))
  replace P1 := P1.below be P1.lt
  replace P2 := P2.below be P2.lt
  replace P3 := P3.below be P3.lt
  clear be
  have n1 := P3.lt
  go_wp2
  refine nt (l_seq (l_code ?_))
  replace hb := hb.alloc (by omega) (.cells #[I 0, I 1, I 9, I 0, I 0, I 0] 31)
  replace P1 := P1.old (.cells #[I 0, I 1, I 9, I 0, I 0, I 0] 31)
  replace P2 := P2.old (.cells #[I 0, I 1, I 9, I 0, I 0, I 0] 31)
  replace P3 := P3.old (.cells #[I 0, I 1, I 9, I 0, I 0, I 0] 31)
  have P4 : Blk (y1.alloc (.cells #[I 0, I 1, I 9, I 0, I 0, I 0] 31)) y1.heap.size #[I 0, I 1, I 9, I 0, I 0, I 0] 31 := Blk.new rfl
  go_wp2_with fail
  refine (its 1 7 _).mono ?_
  rintro e y2 ⟨rfl, be⟩
  replace hb := hb.trans (be.mono (by simp; omega))
  replace P1 := P1.below be P1.lt
  replace P2 := P2.below be P2.lt
  replace P3 := P3.below be P3.lt
  replace P4 := P4.below be P4.lt
  clear be
  have n2 := P3.lt
  go_wp2
  replace hb := hb.alloc (by omega) (.cells #[I 1, I 1, I 7, I 0, I 0, I 0] 31)
  obtain ⟨t1, f1, l1⟩ := P1.facts
  obtain ⟨t2, f2, l2⟩ := P2.facts
  obtain ⟨t3, f3, l3⟩ := P3.facts
  obtain ⟨t4, f4, l4⟩ := P4.facts
  have q9 := eq9
  have q7 := eq7
  refine nt (l_seq (l_code ?_))
  go_wp2
  refine nt (l_step step_ret ?_)
  refine LoneTo.done ⟨.returned (.bool true), _, rfl, ⟨rfl, hb⟩, rfl, rfl, rfl, rfl, _, Try.func11, by simp [results, Try.f11, Frame.at]⟩

/-! ### THE ROW's STEP: WRITTEN OUT: LEAVE IT -/
set_option maxRecDepth 100000 in
theorem lifted (os : Os) (started : os.Started) (H : Type) (enc : TypeId × Value → H) :
    ReturnsInHanded {} Try.checked os 11 .any (Rows.edgeCopiedSpec.pre6 enc Try.prog Try.f11 Rows.edgeCopiedRow.domain false) (Rows.edgeCopiedSpec.post enc Try.prog Try.f11 false true false false) := by
  refine returnsInHanded_of_change (C := Try.checked) own started (by kernel_rfl) Try.func11
    (ChangeSpec.witness6 (enc := enc) (C := Try.checked) false ⟨#[], #[], []⟩ 8 (by kernel_rfl) (by kernel_rfl) (by kernel_rfl) (by kernel_rfl)) ?_
  intro W base args ds gs before hval0 hW hcnd _
  have hval : ∀ (j : Nat) t v, Try.f11.params[j]? = some t → args[j]? = some v → Value.okWide Try.prog W .any base t v := hval0
  have hW' := hW
  obtain ⟨p, q, hA0, hV, rfl, hfz, hnd⟩ := hW
  have hA : DataW.TrodAll enc Try.prog W 0 (fun _ => true) true Try.f11.params.toList args.toList ds p := hA0
  rw [Try.params11] at hA hval
  obtain ⟨rfl, rfl, rfl⟩ := trodAll_none hA
  obtain ⟨rfl, rfl⟩ := trodVars_none hV
  clear hA0 hval0
  simp only [List.append_nil] at hW'
  refine (walk  W).mono fun e W' ⟨he, hg⟩ => ?_
  subst he
  exact ⟨_, rfl, _, _, _, [], [], [], hW', trodAll_mk1 (shut_bool Try.underlying4 _), trodAll_mk0, rfl, hg.frame _, fun h => by cases h⟩

theorem over : Rows.edgeCopiedRow.holds Try.pinned (OpenSpec.ofChange Rows.edgeCopiedSpec) :=
  OpenClaim.holds_of_wide 11 Try.f11 rfl rfl rfl rfl rfl rfl rfl ⟨rfl, rfl, rfl, rfl, rfl⟩ rfl rfl rfl rfl rfl (by kernel_rfl) Try.func11 (by kernel_rfl)
    (of_decide_eq_true (by kernel_rfl)) (by unfold Func.isWrapper; first | (rw [if_pos (by decide +kernel)]; kernel_rfl) | (rw [if_neg (by decide +kernel)]; exact ⟨rfl, rfl⟩))
    (fun os started H enc _ => lifted os started H enc)

/-- ████ THE STATEMENT ████ -/
theorem proved : Rows.EdgeCopiedSaid :=
  over
end Go.Proofs.Qxb6500475a.edgeCopied
