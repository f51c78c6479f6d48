import Derived.Test.Qxb6500475aRows
import Derived.Test.Qxb6500475aBase
import Derived.Conc.LoneCalls
namespace Go.Proofs.Qxb6500475a
open Go.RowKit Go.Conc
section
variable {P : Program} {Q : Goroutine → World → Prop} {b : Frame} {a : Act} {k : List Item} {cs : List Frame} {w : World}

theorem l_step {fr fr' : Frame} {w' : World} (h : step P (lone fr cs w) = .next (lone fr' cs w')) (h' : LoneTo P Q (G fr' cs) w') : LoneTo P Q (G fr cs) w := LoneTo.step h h'
theorem l_seq {x y : Code} (h : LoneTo P Q (G (b.at a (.code x :: .code y :: k)) cs) w) : LoneTo P Q (G (b.at a (.code (x.seq y) :: k)) cs) w := l_step step_seq h
theorem l_block {id : Nat} {c : Code} (h : LoneTo P Q (G (b.at a (.code c :: .inBlock id :: k)) cs) w) : LoneTo P Q (G (b.at a (.code (.block id c) :: k)) cs) w := l_step step_block h
theorem l_loop {c : Code} (h : LoneTo P Q (G (b.at a (.code c :: .inLoop c :: k)) cs) w) : LoneTo P Q (G (b.at a (.code (.loop c) :: k)) cs) w := l_step step_loop h
theorem l_inLoop {c : Code} (h : LoneTo P Q (G (b.at a (.code c :: .inLoop c :: k)) cs) w) : LoneTo P Q (G (b.at a (.inLoop c :: k)) cs) w := l_step step_inLoop h
theorem l_inBlock {id : Nat} (h : LoneTo P Q (G (b.at a k) cs) w) : LoneTo P Q (G (b.at a (.inBlock id :: k)) cs) w := l_step step_inBlock h
theorem l_exit {id : Nat} {k' : List Item} (hk : exitTo id k = some k') (h : LoneTo P Q (G (b.at a k') cs) w) : LoneTo P Q (G (b.at a (.code (.exit id) :: k)) cs) w := l_step (step_exit hk) h
theorem l_skip (h : LoneTo P Q (G (b.at a k) cs) w) : LoneTo P Q (G (b.at a (.code .skip :: k)) cs) w := l_step step_skip h
theorem l_cond {c : Operand} {x y : Code} {t : Bool} (hc : a.eval c = .bool t) (h : LoneTo P Q (G (b.at a (.code (if t then x else y) :: k)) cs) w) : LoneTo P Q (G (b.at a (.code (.cond c x y) :: k)) cs) w := l_step (step_cond hc) h
/-- What is asked behind a piece of code: it is left by its end, and from there the machine goes on. -/
def NormTo (P : Program) (Q : Goroutine → World → Prop) (b : Frame) (k : List Item) (cs : List Frame) (e : Exit) (a' : Act) (w' : World) : Prop := e = .normal ∧ LoneTo P Q (G (b.at a' k) cs) w'
theorem nt (h : LoneTo P Q (G (b.at a k) cs) w) : NormTo P Q b k cs .normal a w := ⟨rfl, h⟩
theorem l_code {c : Code} (h : c.wp P (NormTo P Q b k cs) a w) : LoneTo P Q (G (b.at a (.code c :: k)) cs) w := by
  obtain ⟨e, a', w', ⟨rfl, g', w₂, hs, hq⟩, harr⟩ := h b k cs
  exact ⟨g', w₂, Steps.trans harr hs, hq⟩
theorem l_reg {id : Nat} {ops : Array Oper} (h : LoneTo P Q (G (b.at a (.inRegion ops (List.range ops.size) :: k)) cs) w) : LoneTo P Q (G (b.at a (.code (.region id ops false) :: k)) cs) w := l_step step_region h
theorem l_end {ops : Array Oper} (h : LoneTo P Q (G (b.at a k) cs) w) : LoneTo P Q (G (b.at a (.inRegion ops [] :: k)) cs) w := l_step step_region_end h
/-- One plain operation, or a call by its contract. -/
theorem l_op {ops : Array Oper} {i : Nat} {rest : List Nat} {o : Oper} (ho : ops[i]? = some o) (hw : Region.wanted o (yielded ops a.tmps) = true)
    (h : ∀ K : Act → World → Prop, (∀ a' w', LoneTo P Q (G (b.at a' (.inRegion ops rest :: k)) cs) w' → K a' w') → o.wp P a w K (fun _ _ _ => False)) :
    LoneTo P Q (G (b.at a (.inRegion ops (i :: rest) :: k)) cs) w := by
  have h1 := h _ (fun _ _ x => x)
  have hg := stepG_op (P := P) (b := b) (k := k) (cs := cs) (w := w) (rest := rest) ho hw
  have hfin : ∀ v, (b.at a (.inRegion ops (i :: rest) :: k)).finish v = b.at (a.put o.dst v) (.inRegion ops rest :: k) := by
    intro v; rw [Frame.finish_at, ho]; rfl
  simp only [Oper.wp] at h1
  cases hr : (execOp a.eval o).run P w with
  | halt x w' =>
    rw [hr] at h1
    cases x <;> exact h1.elim
  | ok x w' =>
    rw [hr] at h1
    cases x with
    | value v =>
      rw [Oper.upon_value] at h1
      refine l_step (step_lone_go ?_) h1
      rw [hg, ← hfin]; simp [stepG.apply, hr]
    | skip =>
      rw [Oper.upon_skip] at h1
      refine l_step (step_lone_go ?_) h1
      rw [hg, ← hfin]; simp [stepG.apply, hr]
    | enter f args =>
      rw [Oper.upon_enter] at h1
      obtain ⟨e, w'', fr, hR, hsteps, _, hleave⟩ := h1 (b.at a (.inRegion ops (i :: rest) :: k) :: cs)
      have henter : step P (lone (b.at a (.inRegion ops (i :: rest) :: k)) cs w) =
          .next (lone (Frame.enter P f args .normal) (b.at a (.inRegion ops (i :: rest) :: k) :: cs) w') :=
        step_lone_go (by rw [hg]; simp [stepG.apply, hr, Frame.at])
      cases e with
      | returned v =>
        obtain ⟨g', w₂, hs, hq⟩ := hR
        refine ⟨g', w₂, .head henter (Steps.trans hsteps (.head ?_ hs)), hq⟩
        rw [← lone_eq_solo, ← hfin]; exact step_leave_returned hleave
      | panicked chain => exact hR.elim
      | outgrown => obtain ⟨_, _, hq⟩ := hR; exact hq.elim
    | defer d =>
      rw [Oper.upon_defer] at h1
      refine l_step (step_lone_go ?_) h1
      have e1 := Frame.finish_at b { a with defers := d :: a.defers } ops i rest k undef
      rw [ho] at e1
      rw [hg]; simp only [stepG.apply, Sem.runT_eq, hr, GStep.bare_after]
      exact congrArg (fun fr => GStep.go { frame := fr, callers := cs, status := .running, dying := none } w') e1
    | row rw_ args =>
      rw [Oper.upon_row] at h1
      obtain ⟨v, w'', hR, hsteps⟩ := h1 (b.at a (.inRegion ops (i :: rest) :: k)) cs
      have henter : step P (lone (b.at a (.inRegion ops (i :: rest) :: k)) cs w) =
          .next (lone (Frame.ofRow P rw_ args .normal) (b.at a (.inRegion ops (i :: rest) :: k) :: cs) w') :=
        step_lone_go (by rw [hg]; simp [stepG.apply, hr, Frame.at])
      obtain ⟨g', w₂, hs, hq⟩ := hR
      rw [hfin] at hsteps
      exact ⟨g', w₂, .head henter (Steps.trans hsteps hs), hq⟩
    | _ => exact h1.elim
theorem l_send {ops : Array Oper} {i : Nat} {rest : List Nat} {o : Oper} {c cap s r : Nat} {buf : Array Value} {v z : Value} {tm : Bool} (hkd : b.kind ≠ .early) (ho : ops[i]? = some o) (hw : Region.wanted o (yielded ops a.tmps) = true)
    (hx : (execOp a.eval o).run P w = .ok (.comm #[scase c v z] true .send) w) (hc : w.heap[c]? = some (.chan cap buf false s r tm)) (hroom : buf.size < cap)
    (h : LoneTo P Q (G (b.at (a.put o.dst undef) (.inRegion ops rest :: k)) cs) (w.setChan c cap (buf.push v) false (s + 1) r tm)) :
    LoneTo P Q (G (b.at a (.inRegion ops (i :: rest) :: k)) cs) w := by
  refine LoneTo.step (step_lone_send_room (stepG_comm ho hw hkd hx) hc hroom) ?_
  rw [Frame.finish_at, ho]; exact h
theorem l_recv {ops : Array Oper} {i : Nat} {rest : List Nat} {o : Oper} {c cap s r : Nat} {buf : Array Value} {z : Value} {tm closed : Bool} (ok : Bool) (hkd : b.kind ≠ .early) (ho : ops[i]? = some o) (hw : Region.wanted o (yielded ops a.tmps) = true)
    (hx : (execOp a.eval o).run P w = .ok (.comm #[rcase c z] true (.recv ok)) w) (hc : w.heap[c]? = some (.chan cap buf closed s r tm)) (hsome : 0 < buf.size)
    (h : LoneTo P Q (G (b.at (a.put o.dst (got ok (buf.getD 0 undef) true)) (.inRegion ops rest :: k)) cs) (w.setChan c cap (buf.extract 1 buf.size) closed s (r + 1) tm)) :
    LoneTo P Q (G (b.at a (.inRegion ops (i :: rest) :: k)) cs) w := by
  refine LoneTo.step (step_lone_recv_buf ok (stepG_comm ho hw hkd hx) hc hsome) ?_
  rw [Frame.finish_at, ho]; exact h
theorem l_shut {ops : Array Oper} {i : Nat} {rest : List Nat} {o : Oper} {c cap s r : Nat} {z : Value} {tm : Bool} (ok : Bool) (hkd : b.kind ≠ .early) (ho : ops[i]? = some o) (hw : Region.wanted o (yielded ops a.tmps) = true)
    (hx : (execOp a.eval o).run P w = .ok (.comm #[rcase c z] true (.recv ok)) w) (hc : w.heap[c]? = some (.chan cap #[] true s r tm))
    (h : LoneTo P Q (G (b.at (a.put o.dst (got ok z false)) (.inRegion ops rest :: k)) cs) w) :
    LoneTo P Q (G (b.at a (.inRegion ops (i :: rest) :: k)) cs) w := by
  refine LoneTo.step (step_lone_recv_shut ok (stepG_comm ho hw hkd hx) hc) ?_
  rw [Frame.finish_at, ho]; exact h
end
end Go.Proofs.Qxb6500475a
