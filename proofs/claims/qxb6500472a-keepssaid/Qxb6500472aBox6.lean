import Derived.Test.Qxb6500472aBox5
namespace Go.Proofs.Qxb6500472a
open Go.RowKit
attribute [local go_sem] run_store_float drewN_alloc drewN_setCell

theorem push_any (num den : Int) (w : World) (p bl : Nat) (lv : List Lvl) (n : Nat) (h : SerR w p bl lv n) (hn : n < 8) :
    Calls Try.prog 27 #[ptr p, I num, I den] w fun e w' => e = .returned (I 0) ∧ Pushed num den w p bl lv n w' := by
  cases n with
  | zero => exact push_first num den w p bl lv h
  | succ n => exact push_next num den w p bl lv n h hn
theorem lvAt_set (lv : List Lvl) (n : Nat) (v : Lvl) (h : n < lv.length) : lvAt (lv.set n v) n = v := by
  unfold lvAt; simp [List.getD, h]
theorem lvAt_set_ne (lv : List Lvl) (n i : Nat) (v : Lvl) (h : n ≠ i) : lvAt (lv.set n v) i = lvAt lv i := by
  unfold lvAt; simp [List.getD, h]
/-- The held levels' least and greatest lie within float32's range. -/
def Fit (lv : List Lvl) (n : Nat) : Prop := ∀ i, i < n → fits32 (lvAt lv i).l = true ∧ fits32 (lvAt lv i).h = true
theorem loF_fit {l x : Nat} (h1 : fits32 l = true) (h2 : fits32 x = true) : fits32 (loF l x) = true := by unfold loF; split <;> assumption
theorem hiF_fit {l x : Nat} (h1 : fits32 l = true) (h2 : fits32 x = true) : fits32 (hiF l x) = true := by unfold hiF; split <;> assumption
theorem Fit.next {lv : List Lvl} {n : Nat} (h : Fit lv n) (hl : n < lv.length) {v : Lvl} {X : Nat} (hX : fits32 X = true) (hv : v.can = nextL (belowL lv n) X) : Fit (lv.set n v) (n + 1) := by
  intro i hi
  by_cases e : i = n
  · subst e
    rw [lvAt_set lv i v hl, ← fits32_can, ← fits32_can v.h]
    have e1 : can .f64 v.l = (nextL (belowL lv i) X).l := by rw [← hv]; rfl
    have e2 : can .f64 v.h = (nextL (belowL lv i) X).h := by rw [← hv]; rfl
    rw [e1, e2]
    cases i with
    | zero => exact ⟨hX, hX⟩
    | succ i =>
      have hb := h i (by omega)
      exact ⟨loF_fit (by show fits32 (can .f64 _) = true; rw [fits32_can]; exact hb.1) hX, hiF_fit (by show fits32 (can .f64 _) = true; rw [fits32_can]; exact hb.2) hX⟩
  · rw [lvAt_set_ne lv n i v (fun e' => e e'.symm)]
    exact h i (by omega)

set_option maxHeartbeats 4000000 in
theorem add_any (w : World) (b px bx py bY n : Nat) (lx ly : List Lvl) (x y : Ax) (h : BoxS w b px bx py bY n lx ly x y) (hn : n < 8) (fx : Fit lx n) (fy : Fit ly n) (i j d : Int) (fi : fits32 (ratioF i d) = true) (fj : fits32 (ratioF j d) = true) :
    Calls Try.prog 12 #[ptr b, I i, I j, I d] w fun e w' => e = .returned (I 0) ∧ ∃ (vx vy : Lvl) (x' y' : Ax), BoxS w' b px bx py bY (n + 1) (lx.set n vx) (ly.set n vy) x' y' ∧
      vx.can = nextL (belowL lx n) (ratioF i d) ∧ vy.can = nextL (belowL ly n) (ratioF j d) ∧ x'.can = spanF vx.can.l vx.can.h ∧ y'.can = spanF vy.can.l vy.can.h ∧ Upd [b, px, bx, py, bY] w w' := by
  obtain ⟨hbx, sx, sy, ap⟩ := h
  have ap0 := ap
  simp only [List.nodup_cons, List.mem_cons, List.not_mem_nil, or_false, not_or] at ap
  obtain ⟨⟨a1, a2, a3, a4⟩, ⟨a5, a6, a7⟩, ⟨a8, a9⟩, a10, -⟩ := ap
  obtain ⟨c0, c1, c2, c3, c4, c5, c6, c7, c8, c9, c10, fz⟩ := hbx.cells
  go_enter Try.func12, Try.ntmps12
  go_wp2_with fail
  refine (push_any i d _ px bx lx n sx hn).mono ?_
  rintro e w1 ⟨rfl, vx, cx, sx1, u1⟩
  have h1 : BoxR w1 b px py n x y := hbx.upd u1 (by simp; exact ⟨a1, a2⟩)
  have sy1 : SerR w1 py bY ly n := sy.upd u1 (by simp; exact ⟨fun e => a6 e.symm, fun e => a8 e.symm⟩) (by simp; exact ⟨fun e => a7 e.symm, fun e => a9 e.symm⟩)
  clear c0 c1 c2 c3 c4 c5 c6 c7 c8 c9 c10 fz
  obtain ⟨c0, c1, c2, c3, c4, c5, c6, c7, c8, c9, c10, fz⟩ := h1.cells
  go_wp2_with fail
  refine (push_any j d _ py bY ly n sy1 hn).mono ?_
  rintro e w2 ⟨rfl, vy, cy, sy2, u2⟩
  have h2 : BoxR w2 b px py n x y := h1.upd u2 (by simp; exact ⟨a3, a4⟩)
  have sx2 : SerR w2 px bx (lx.set n vx) (n + 1) := sx1.upd u2 (by simp; exact ⟨a6, a7⟩) (by simp; exact ⟨a8, a9⟩)
  clear c0 c1 c2 c3 c4 c5 c6 c7 c8 c9 c10 fz
  obtain ⟨c0, c1, c2, c3, c4, c5, c6, c7, c8, c9, c10, fz⟩ := h2.cells
  go_wp2_with fail
  obtain ⟨w3, e3, h3, u3⟩ := h2.setN (n + 1)
  rw [show (w2.setCell ⟨b, 2, none⟩ (.int .i64 ((n : Int) + 1))) = w3 from e3]
  have sx3 : SerR w3 px bx (lx.set n vx) (n + 1) := sx2.upd u3 (by simp; exact fun e => a1 e.symm) (by simp; exact fun e => a2 e.symm)
  have sy3 : SerR w3 py bY (ly.set n vy) (n + 1) := sy2.upd u3 (by simp; exact fun e => a3 e.symm) (by simp; exact fun e => a4 e.symm)
  have lxl := sx.len
  have lyl := sy.len
  have gx := fx.next (by omega) fi cx
  have gy := fy.next (by omega) fj cy
  refine (refresh_any w3 b px bx py bY n _ _ x y h3 sx3 sy3 ap0 (gx n (by omega)).1 (gx n (by omega)).2 (gy n (by omega)).1 (gy n (by omega)).2).mono ?_
  rintro e w4 ⟨rfl, x', y', hS, cx', cy', u4⟩
  rw [lvAt_set lx n vx (by omega)] at cx'
  rw [lvAt_set ly n vy (by omega)] at cy'
  clear c0 c1 c2 c3 c4 c5 c6 c7 c8 c9 c10 fz gx gy
  go_wp2
  go_ret
  refine ⟨rfl, vx, vy, x', y', hS, cx, cy, cx', cy', ?_⟩
  exact (((u1.mono (by simp)).trans (u2.mono (by simp))).trans (u3.mono (by simp))).trans (u4.mono (by simp))
end Go.Proofs.Qxb6500472a
