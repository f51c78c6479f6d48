import Derived.Test.Qxb6500472aMAs
import Derived.Test.Qxb6500472aFloF
import Derived.Test.Qxb6500472aBox6
namespace Go.Proofs.Qxb6500472a
open Go.RowKit
attribute [local go_sem] run_store_float drewN_alloc drewN_setCell
/-- Every sample lies within float32's range. -/
def Fits (A : List Nat) : Prop := ∀ i, fits32 (A.getD i 0) = true
theorem fits_zero : fits32 0 = true := by decide +kernel
theorem fits_lev (A : List Nat) (h : Fits A) : ∀ i, fits32 (levOf A i).l = true ∧ fits32 (levOf A i).h = true
  | 0 => ⟨h 0, h 0⟩
  | i + 1 => ⟨loF_fit (fits_lev A h i).1 (h (i + 1)), hiF_fit (fits_lev A h i).2 (h (i + 1))⟩
theorem fits_min (A : List Nat) (h : Fits A) : fits32 (minF A) = true := by
  unfold minF; split; exact fits_zero; exact (fits_lev A h _).1
theorem fits_max (A : List Nat) (h : Fits A) : fits32 (maxF A) = true := by
  unfold maxF; split; exact fits_zero; exact (fits_lev A h _).2
theorem Fits.nil : Fits [] := fun _ => fits_zero
theorem Fits.push {A : List Nat} (h : Fits A) {x : Nat} (hx : fits32 x = true) : Fits (A ++ [x]) := by
  intro i
  rw [List.getD_eq_getElem?_getD, List.getElem?_append]
  split
  · have := h i; rwa [List.getD_eq_getElem?_getD] at this
  · rcases Nat.lt_or_ge (i - A.length) 1 with h1 | h1
    · rw [show i - A.length = 0 from by omega]; exact hx
    · rw [List.getElem?_eq_none (by simpa using h1)]; exact fits_zero
theorem Fits.pop {A : List Nat} (h : Fits A) : Fits A.dropLast := by
  intro i
  rw [List.getD_eq_getElem?_getD, List.getElem?_dropLast]
  split
  · have := h i; rwa [List.getD_eq_getElem?_getD] at this
  · exact fits_zero
/-- What is kept of an axis. -/
def axF (A : List Nat) : Ax := if A = [] then ax0 else spanF (minF A) (maxF A)
/-- The real box by its points. -/
structure BoxA (w : World) (b px bx py bY : Nat) (A B : List Nat) : Prop where
  ex : ∃ x y : Ax, BoxR w b px py A.length x y ∧ x.can = axF A ∧ y.can = axF B
  sx : SerA w px bx A
  sy : SerA w py bY B
  len : B.length = A.length
  ap : [b, px, bx, py, bY].Nodup
  fx : Fits A
  fy : Fits B
theorem BoxA.upd {bs : List Nat} {w w' : World} {b px bx py bY : Nat} {A B : List Nat} (h : BoxA w b px bx py bY A B) (u : Upd bs w w') (hb : ∀ k, k ∈ [b, px, bx, py, bY] → k ∉ bs) : BoxA w' b px bx py bY A B := by
  obtain ⟨⟨x, y, r, cx, cy⟩, sx, sy, l, ap, fx, fy⟩ := h
  exact ⟨⟨x, y, r.upd u (hb b (by simp)), cx, cy⟩, sx.upd u (hb px (by simp)) (hb bx (by simp)), sy.upd u (hb py (by simp)) (hb bY (by simp)), l, ap, fx, fy⟩
theorem BoxA.later {w w' : World} {b px bx py bY : Nat} {A B : List Nat} (h : BoxA w b px bx py bY A B) (u : Below w.heap.size w w') : BoxA w' b px bx py bY A B :=
  h.upd (Upd.of_below (bs := []) u) (by simp)
theorem BoxA.lt {w : World} {b px bx py bY : Nat} {A B : List Nat} (h : BoxA w b px bx py bY A B) : (∀ k, k ∈ [b, px, bx, py, bY] → k < w.heap.size) ∧ A.length ≤ 8 := by
  obtain ⟨⟨x, y, r, cx, cy⟩, sx, sy, l, ap, fx, fy⟩ := h
  obtain ⟨a1, a2, a3, a4⟩ := sx.lt
  obtain ⟨b1, b2, b3, b4⟩ := sy.lt
  have := r.lt
  refine ⟨fun k hk => ?_, a4⟩
  simp only [List.mem_cons, List.not_mem_nil, or_false] at hk
  rcases hk with rfl | rfl | rfl | rfl | rfl <;> assumption
theorem min_two (w : World) (p bl : Nat) (A : List Nat) (h : SerA w p bl A) (hA : A ≠ []) :
    Calls Try.prog 66 #[ptr p] w fun e w' => ∃ v m, e = .returned (.tuple #[D64 v, I 0]) ∧ can64 v = minF A ∧ w' = w.drewN m := by
  have := min_all w p bl A h
  rw [if_neg hA] at this
  exact this
theorem max_two (w : World) (p bl : Nat) (A : List Nat) (h : SerA w p bl A) (hA : A ≠ []) :
    Calls Try.prog 67 #[ptr p] w fun e w' => ∃ v m, e = .returned (.tuple #[D64 v, I 0]) ∧ can64 v = maxF A ∧ w' = w.drewN m := by
  have := max_all w p bl A h
  rw [if_neg hA] at this
  exact this
theorem fit_can {v X : Nat} (h : can64 v = X) (hX : fits32 X = true) : fits32 v = true := by rw [← fits32_can, show can .f64 v = X from h]; exact hX

set_option maxHeartbeats 4000000 in
theorem refresh_all (w : World) (b px bx py bY n : Nat) (A B : List Nat) (x y : Ax) (h : BoxR w b px py (n + 1) x y) (hA : A.length = n + 1) (hB : B.length = n + 1) (sx : SerA w px bx A) (sy : SerA w py bY B) (ap : [b, px, bx, py, bY].Nodup) (fx : Fits A) (fy : Fits B) :
    Calls Try.prog 28 #[ptr b] w fun e w' => e = .returned (.tuple #[]) ∧ BoxA w' b px bx py bY A B ∧ Upd [b] w w' := by
  have nA : A ≠ [] := by intro e; rw [e] at hA; simp at hA
  have nB : B ≠ [] := by intro e; rw [e] at hB; simp at hB
  obtain ⟨c0, c1, c2, c3, c4, c5, c6, c7, c8, c9, c10, fz⟩ := h.cells
  have ap0 := ap
  simp only [List.nodup_cons, List.mem_cons, List.not_mem_nil, or_false, not_or] at ap
  obtain ⟨⟨a1, a2, a3, a4⟩, ⟨a5, a6, a7⟩, ⟨a8, a9⟩, a10, -⟩ := ap
  go_enter Try.func28, Try.ntmps28
  go_wp2_with fail
  refine (min_two _ px bx A sx nA).mono ?_
  rintro e w1 ⟨v1, m1, rfl, q1, rfl⟩
  go_wp2_with fail
  refine (max_two _ px bx A (sx.drewN m1) nA).mono ?_
  rintro e w1 ⟨v2, m2, rfl, q2, rfl⟩
  go_wp2_with fail
  refine (span_any _ _ (fit_can q1 (fits_min A fx)) (fit_can q2 (fits_max A fx)) _).mono ?_
  rintro e w1 ⟨x', rfl, cx, hb1⟩
  rw [q1, q2] at cx
  have u1 : Upd [b] w w1 := ((Upd.refl _ w).drewN (m1 + m2)).trans (Upd.of_below hb1)
  have h1 : BoxR w1 b px py (n + 1) x y := Blk.below (w := w.drewN (m1 + m2)) h hb1 h.lt
  clear c0 c1 c2 c3 c4 c5 c6 c7 c8 c9 c10 fz hb1
  obtain ⟨c0, c1, c2, c3, c4, c5, c6, c7, c8, c9, c10, fz⟩ := h1.cells
  simp only [Ax.v]
  go_wp2_with fail
  obtain ⟨w2, e2, h2, u2⟩ := h1.setX x'
  rw [e2]
  clear e2 c0 c1 c2 c3 c4 c5 c6 c7 c8 c9 c10 fz
  have u12 : Upd [b] w w2 := u1.trans u2
  have sy2 : SerA w2 py bY B := sy.upd u12 (by simp; exact fun e => a3 e.symm) (by simp; exact fun e => a4 e.symm)
  obtain ⟨c0, c1, c2, c3, c4, c5, c6, c7, c8, c9, c10, fz⟩ := h2.cells
  refine (min_two _ py bY B sy2 nB).mono ?_
  rintro e w3 ⟨v3, m3, rfl, q3, rfl⟩
  go_wp2_with fail
  refine (max_two _ py bY B (sy2.drewN m3) nB).mono ?_
  rintro e w3 ⟨v4, m4, rfl, q4, rfl⟩
  go_wp2_with fail
  refine (span_any _ _ (fit_can q3 (fits_min B fy)) (fit_can q4 (fits_max B fy)) _).mono ?_
  rintro e w3 ⟨y', rfl, cy, hb3⟩
  rw [q3, q4] at cy
  have u3 : Upd [b] w w3 := (u12.drewN (m3 + m4)).trans (Upd.of_below hb3)
  have h3 : BoxR w3 b px py (n + 1) x' y := Blk.below (w := w2.drewN (m3 + m4)) h2 hb3 h2.lt
  clear c0 c1 c2 c3 c4 c5 c6 c7 c8 c9 c10 fz hb3
  obtain ⟨c0, c1, c2, c3, c4, c5, c6, c7, c8, c9, c10, fz⟩ := h3.cells
  simp only [Ax.v]
  go_wp2
  obtain ⟨w4, e4, h4, u4⟩ := h3.setY y'
  rw [e4]
  have u14 : Upd [b] w w4 := u3.trans u4
  go_end0
  refine ⟨rfl, ⟨⟨x', y', by rw [hA]; exact h4, by rw [cx]; unfold axF; rw [if_neg nA], by rw [cy]; unfold axF; rw [if_neg nB]⟩, sx.upd u14 (by simp; exact fun e => a1 e.symm) (by simp; exact fun e => a2 e.symm), sy.upd u14 (by simp; exact fun e => a3 e.symm) (by simp; exact fun e => a4 e.symm), by rw [hA, hB], ap0, fx, fy⟩, u14⟩

set_option maxHeartbeats 4000000 in
theorem refresh_none (w : World) (b px bx py bY : Nat) (x y : Ax) (h : BoxR w b px py 0 x y) (sx : SerA w px bx []) (sy : SerA w py bY []) (ap : [b, px, bx, py, bY].Nodup) :
    Calls Try.prog 28 #[ptr b] w fun e w' => e = .returned (.tuple #[]) ∧ BoxA w' b px bx py bY [] [] ∧ Upd [b] w w' := by
  obtain ⟨c0, c1, c2, c3, c4, c5, c6, c7, c8, c9, c10, fz⟩ := h.cells
  have ap0 := ap
  simp only [List.nodup_cons, List.mem_cons, List.not_mem_nil, or_false, not_or] at ap
  obtain ⟨⟨a1, a2, a3, a4⟩, ⟨a5, a6, a7⟩, ⟨a8, a9⟩, a10, -⟩ := ap
  go_enter Try.func28, Try.ntmps28
  go_wp2
  obtain ⟨w2, e2, h2, u2⟩ := h.setX ax0
  obtain ⟨w4, e4, h4, u4⟩ := h2.setY ax0
  have e24 : ((((((((w.setCell ⟨b, 3, none⟩ (D32 0)).setCell ⟨b, 4, none⟩ (D32 0)).setCell ⟨b, 5, none⟩ (D32 0)).setCell ⟨b, 6, none⟩ (.bool false)).setCell ⟨b, 7, none⟩ (D32 0)).setCell ⟨b, 8, none⟩ (D32 0)).setCell ⟨b, 9, none⟩ (D32 0)).setCell ⟨b, 10, none⟩ (.bool false)) = w4 := by
    rw [← e4, ← e2]; rfl
  rw [e24]
  have u14 : Upd [b] w w4 := u2.trans u4
  have cz : can32 0 = 0 := by decide +kernel
  have ca : ax0.can = axF [] := by unfold axF ax0 Ax.can; rw [if_pos rfl, cz]
  refine bodyPost_ret (results_none rfl _ _ _) rfl ?_
  exact ⟨rfl, ⟨⟨ax0, ax0, h4, ca, ca⟩, sx.upd u14 (by simp; exact fun e => a1 e.symm) (by simp; exact fun e => a2 e.symm), sy.upd u14 (by simp; exact fun e => a3 e.symm) (by simp; exact fun e => a4 e.symm), rfl, ap0, Fits.nil, Fits.nil⟩, u14⟩
end Go.Proofs.Qxb6500472a
