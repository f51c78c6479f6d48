import Derived.Test.Qxb6500472aBox4
namespace Go.Proofs.Qxb6500472a
open Go.RowKit
attribute [local go_sem] run_store_float drewN_alloc drewN_setCell

theorem BoxR.setX {w : World} {b px py n : Nat} {x y : Ax} (h : BoxR w b px py n x y) (a : Ax) :
    ∃ w', (((w.setCell ⟨b, 3, none⟩ (D32 a.lo)).setCell ⟨b, 4, none⟩ (D32 a.hi)).setCell ⟨b, 5, none⟩ (D32 a.w)).setCell ⟨b, 6, none⟩ (.bool a.wide) = w' ∧ BoxR w' b px py n a y ∧ Upd [b] w w' :=
  ⟨_, rfl, (((h.set _).set _).set _).set _, ((((Upd.refl _ _).setCell (by simp) _).setCell (by simp) _).setCell (by simp) _).setCell (by simp) _⟩
theorem BoxR.setY {w : World} {b px py n : Nat} {x y : Ax} (h : BoxR w b px py n x y) (a : Ax) :
    ∃ w', (((w.setCell ⟨b, 7, none⟩ (D32 a.lo)).setCell ⟨b, 8, none⟩ (D32 a.hi)).setCell ⟨b, 9, none⟩ (D32 a.w)).setCell ⟨b, 10, none⟩ (.bool a.wide) = w' ∧ BoxR w' b px py n x a ∧ Upd [b] w w' :=
  ⟨_, rfl, (((h.set _).set _).set _).set _, ((((Upd.refl _ _).setCell (by simp) _).setCell (by simp) _).setCell (by simp) _).setCell (by simp) _⟩
theorem BoxR.setN {w : World} {b px py n : Nat} {x y : Ax} (h : BoxR w b px py n x y) (k : Nat) :
    ∃ w', w.setCell ⟨b, 2, none⟩ (I k) = w' ∧ BoxR w' b px py k x y ∧ Upd [b] w w' :=
  ⟨_, rfl, h.set _, (Upd.refl _ _).setCell (by simp) _⟩

/-- What stands in memory: a box over two series. -/
structure BoxS (w : World) (b px bx py bY n : Nat) (lx ly : List Lvl) (x y : Ax) : Prop where
  box : BoxR w b px py n x y
  sx : SerR w px bx lx n
  sy : SerR w py bY ly n
  ap : [b, px, bx, py, bY].Nodup

set_option maxHeartbeats 4000000 in
theorem refresh_any (w : World) (b px bx py bY n : Nat) (lx ly : List Lvl) (x y : Ax) (h : BoxR w b px py (n + 1) x y) (sx : SerR w px bx lx (n + 1)) (sy : SerR w py bY ly (n + 1)) (ap : [b, px, bx, py, bY].Nodup)
    (f1 : fits32 (lvAt lx n).l = true) (f2 : fits32 (lvAt lx n).h = true) (f3 : fits32 (lvAt ly n).l = true) (f4 : fits32 (lvAt ly n).h = true) :
    Calls Try.prog 28 #[ptr b] w fun e w' => e = .returned (.tuple #[]) ∧ ∃ x' y' : Ax, BoxS w' b px bx py bY (n + 1) lx ly x' y' ∧ x'.can = spanF (can64 (lvAt lx n).l) (can64 (lvAt lx n).h) ∧ y'.can = spanF (can64 (lvAt ly n).l) (can64 (lvAt ly n).h) ∧ Upd [b] w w' := by
  obtain ⟨c0, c1, c2, c3, c4, c5, c6, c7, c8, c9, c10, fz⟩ := h.cells
  simp only [List.nodup_cons, List.mem_cons, List.not_mem_nil, or_false, not_or] at ap
  obtain ⟨⟨a1, a2, a3, a4⟩, ⟨a5, a6, a7⟩, ⟨a8, a9⟩, a10, -⟩ := ap
  go_enter Try.func28, Try.ntmps28
  go_wp2_with fail
  refine (min_some _ px bx lx n ?_).mono ?_
  · exact sx
  rintro e w1 ⟨rfl, m1, rfl⟩
  go_wp2_with fail
  refine (max_some _ px bx lx n ?_).mono ?_
  · exact ⟨sx.head, sx.rows, sx.len, sx.le, sx.ne⟩
  rintro e w1 ⟨rfl, m2, rfl⟩
  go_wp2_with fail
  refine (span_any _ _ f1 f2 _).mono ?_
  rintro e w1 ⟨x', rfl, cx, hb1⟩
  have u1 : Upd [b] w w1 := ((Upd.refl _ w).drewN (m1 + m2)).trans (Upd.of_below hb1)
  have h1 : BoxR w1 b px py (n + 1) x y := Blk.below (w := w.drewN (m1 + m2)) h hb1 h.lt
  clear c0 c1 c2 c3 c4 c5 c6 c7 c8 c9 c10 fz hb1
  obtain ⟨c0, c1, c2, c3, c4, c5, c6, c7, c8, c9, c10, fz⟩ := h1.cells
  simp only [Ax.v]
  go_wp2_with fail
  obtain ⟨w2, e2, h2, u2⟩ := h1.setX x'
  rw [e2]
  clear e2 c0 c1 c2 c3 c4 c5 c6 c7 c8 c9 c10 fz
  have u12 : Upd [b] w w2 := u1.trans u2
  have sx2 : SerR w2 px bx lx (n + 1) := sx.upd u12 (by simp; exact fun e => a1 e.symm) (by simp; exact fun e => a2 e.symm)
  have sy2 : SerR w2 py bY ly (n + 1) := sy.upd u12 (by simp; exact fun e => a3 e.symm) (by simp; exact fun e => a4 e.symm)
  obtain ⟨c0, c1, c2, c3, c4, c5, c6, c7, c8, c9, c10, fz⟩ := h2.cells
  refine (min_some _ py bY ly n sy2).mono ?_
  rintro e w3 ⟨rfl, m3, rfl⟩
  go_wp2_with fail
  refine (max_some _ py bY ly n ?_).mono ?_
  · exact ⟨sy2.head, sy2.rows, sy2.len, sy2.le, sy2.ne⟩
  rintro e w3 ⟨rfl, m4, rfl⟩
  go_wp2_with fail
  refine (span_any _ _ f3 f4 _).mono ?_
  rintro e w3 ⟨y', rfl, cy, hb3⟩
  have u3 : Upd [b] w w3 := (u12.drewN (m3 + m4)).trans (Upd.of_below hb3)
  have h3 : BoxR w3 b px py (n + 1) x' y := Blk.below (w := w2.drewN (m3 + m4)) h2 hb3 h2.lt
  clear c0 c1 c2 c3 c4 c5 c6 c7 c8 c9 c10 fz hb3
  obtain ⟨c0, c1, c2, c3, c4, c5, c6, c7, c8, c9, c10, fz⟩ := h3.cells
  simp only [Ax.v]
  go_wp2
  obtain ⟨w4, e4, h4, u4⟩ := h3.setY y'
  rw [e4]
  have u14 : Upd [b] w w4 := u3.trans u4
  go_end0
  refine ⟨rfl, x', y', ⟨h4, sx.upd u14 (by simp; exact fun e => a1 e.symm) (by simp; exact fun e => a2 e.symm), sy.upd u14 (by simp; exact fun e => a3 e.symm) (by simp; exact fun e => a4 e.symm), ?_⟩, cx, cy, u14⟩
  simp only [List.nodup_cons, List.mem_cons, List.not_mem_nil, or_false, not_or]
  exact ⟨⟨a1, a2, a3, a4⟩, ⟨a5, a6, a7⟩, ⟨a8, a9⟩, a10, by simp⟩
end Go.Proofs.Qxb6500472a
