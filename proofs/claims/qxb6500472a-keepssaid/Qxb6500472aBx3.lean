import Derived.Test.Qxb6500472aBx2
namespace Go.Proofs.Qxb6500472a
open Go.RowKit
attribute [local go_sem] run_store_float drewN_alloc drewN_setCell
theorem ax_fld {x : Ax} {A : List Nat} (h : x.can = axF A) : can32 x.lo = (axF A).lo ∧ can32 x.hi = (axF A).hi ∧ can32 x.w = (axF A).w ∧ x.wide = (axF A).wide := by
  rw [← h]; exact ⟨rfl, rfl, rfl, rfl⟩
theorem can32_zero : can32 0 = 0 := by decide +kernel
theorem BoxA.some {w : World} {b px bx py bY : Nat} {A B : List Nat} (h : BoxA w b px bx py bY A B) (hA : A ≠ []) : ∃ n x y, BoxR w b px py (n + 1) x y ∧ x.can = axF A ∧ y.can = axF B ∧ n < 8 ∧ A.length = n + 1 := by
  obtain ⟨⟨x, y, r, cx, cy⟩, sx, -⟩ := h
  obtain ⟨n, hn⟩ : ∃ n, A.length = n + 1 := ⟨A.length - 1, by have := List.length_pos_iff.2 hA; omega⟩
  have := sx.lt.2.2.2
  rw [hn] at r
  exact ⟨n, x, y, r, cx, cy, by omega, hn⟩
theorem BoxA.zero {w : World} {b px bx py bY : Nat} {A B : List Nat} (h : BoxA w b px bx py bY A B) (hA : A = []) : ∃ x y, BoxR w b px py 0 x y := by
  obtain ⟨⟨x, y, r, cx, cy⟩, -⟩ := h
  subst hA
  exact ⟨x, y, r⟩
/-- Corner's answer. -/
def cornA (A B : List Nat) (k : Int) : Nat × Int :=
  if A = [] then (0, 2) else if k = 0 then ((axF A).lo, 0) else if k = 1 then ((axF B).lo, 0) else if k = 2 then ((axF A).hi, 0) else if k = 3 then ((axF B).hi, 0) else (0, 3)
set_option maxHeartbeats 1000000 in
theorem bCorner_any (w : World) (b px bx py bY : Nat) (A B : List Nat) (h : BoxA w b px bx py bY A B) (k : Int) :
    Calls Try.prog 37 #[ptr b, I k] w fun e w' => ∃ v, e = .returned (.tuple #[D32 v, I (cornA A B k).2]) ∧ can32 v = (cornA A B k).1 ∧ w' = w := by
  unfold cornA
  by_cases hA : A = []
  · obtain ⟨x, y, r⟩ := h.zero hA
    rw [if_pos hA]
    clear h hA
    obtain ⟨c0, c1, c2, c3, c4, c5, c6, c7, c8, c9, c10, fz⟩ := r.cells
    go_enter Try.func37, Try.ntmps37
    go_wp2
    go_ret2
    exact ⟨0, rfl, can32_zero, rfl⟩
  · obtain ⟨n, x, y, r, cx, cy, hn, -⟩ := h.some hA
    rw [if_neg hA]
    clear h hA
    obtain ⟨x1, x2, -, -⟩ := ax_fld cx
    obtain ⟨y1, y2, -, -⟩ := ax_fld cy
    obtain ⟨c0, c1, c2, c3, c4, c5, c6, c7, c8, c9, c10, fz⟩ := r.cells
    clear cx cy
    by_cases k0 : k = 0
    · subst k0
      rw [if_pos rfl]
      go_enter Try.func37, Try.ntmps37
      go_wp2
      go_ret2
      exact ⟨_, rfl, x1, rfl⟩
    by_cases k1 : k = 1
    · subst k1
      rw [if_neg (by decide), if_pos rfl]
      go_enter Try.func37, Try.ntmps37
      go_wp2
      go_ret2
      exact ⟨_, rfl, y1, rfl⟩
    by_cases k2 : k = 2
    · subst k2
      rw [if_neg (by decide), if_neg (by decide), if_pos rfl]
      go_enter Try.func37, Try.ntmps37
      go_wp2
      go_ret2
      exact ⟨_, rfl, x2, rfl⟩
    by_cases k3 : k = 3
    · subst k3
      rw [if_neg (by decide), if_neg (by decide), if_neg (by decide), if_pos rfl]
      go_enter Try.func37, Try.ntmps37
      go_wp2
      go_ret2
      exact ⟨_, rfl, y2, rfl⟩
    rw [if_neg k0, if_neg k1, if_neg k2, if_neg k3]
    have e0 : (k == 0) = false := by simpa using k0
    have e1 : (k == 1) = false := by simpa using k1
    have e2 : (k == 2) = false := by simpa using k2
    have e3 : (k == 3) = false := by simpa using k3
    go_enter Try.func37, Try.ntmps37
    go_wp2
    go_ret2
    exact ⟨0, rfl, can32_zero, rfl⟩
/-- Inside's answer. -/
def insideA (A B : List Nat) (a b c : Int) : Bool × Int := if A = [] then (false, 2) else (holdsF (axF A) (coordF a c) && holdsF (axF B) (coordF b c), 0)
set_option maxHeartbeats 2000000 in
theorem bInside_any (w : World) (b px bx py bY : Nat) (A B : List Nat) (h : BoxA w b px bx py bY A B) (i j d : Int) (hi : i64 i) (hj : i64 j) (hd : i64 d) :
    Calls Try.prog 39 #[ptr b, I i, I j, I d] w fun e w' => e = .returned (.tuple #[.bool (insideA A B i j d).1, I (insideA A B i j d).2]) ∧ Below w.heap.size w w' := by
  unfold insideA
  by_cases hA : A = []
  · obtain ⟨x, y, r⟩ := h.zero hA
    rw [if_pos hA]
    clear h hA
    obtain ⟨c0, c1, c2, c3, c4, c5, c6, c7, c8, c9, c10, fz⟩ := r.cells
    go_enter Try.func39, Try.ntmps39
    go_wp2
    go_ret2
    exact ⟨rfl, Below.refl _ _⟩
  · obtain ⟨n, x, y, r, cx, cy, hn, -⟩ := h.some hA
    rw [if_neg hA, ← cx, ← cy]
    have fi := fit_ratio i d hi hd
    have fj := fit_ratio j d hj hd
    clear h hA hi hj hd
    generalize hX : holdsF x.can (coordF i d) = X
    generalize hY : holdsF y.can (coordF j d) = Y
    have HX : Hid _ := hX
    have HY : Hid _ := hY
    clear hX hY
    obtain ⟨c0, c1, c2, c3, c4, c5, c6, c7, c8, c9, c10, fz⟩ := r.cells
    go_enter Try.func39, Try.ntmps39
    go_wp2_with fail
    refine (coord_any i d fi _).mono ?_
    rintro e w1 ⟨p, m1, rfl, cp, rfl⟩
    go_wp2_with fail
    refine (coord_any j d fj _).mono ?_
    rintro e w1 ⟨q, m2, rfl, cq, rfl⟩
    go_wp2_with fail
    refine (holds_any x p _).mono ?_
    rintro e w1 ⟨rfl, hb1⟩
    rw [show can32 p = coordF i d from cp, HX.out]
    have h1 : BoxR w1 b px py (n + 1) x y := Blk.below (w := w.drewN (m1 + m2)) r hb1 r.lt
    have bel1 : Below w.heap.size w w1 := (Below.drewN (Below.refl _ w) (m1 + m2)).trans hb1
    clear c0 c1 c2 c3 c4 c5 c6 c7 c8 c9 c10 fz hb1
    obtain ⟨c0, c1, c2, c3, c4, c5, c6, c7, c8, c9, c10, fz⟩ := h1.cells
    go_wp2_with fail
    refine (holds_any y q _).mono ?_
    rintro e w2 ⟨rfl, hb2⟩
    rw [show can32 q = coordF j d from cq, HY.out]
    have bel2 : Below w.heap.size w w2 := bel1.trans (hb2.mono bel1.size)
    clear c0 c1 c2 c3 c4 c5 c6 c7 c8 c9 c10 fz hb2 HX HY
    cases X with
    | false =>
      go_wp2
      go_ret2
      exact ⟨rfl, bel2⟩
    | true =>
      go_wp2
      go_ret2
      exact ⟨rfl, bel2⟩
/-- Clamp's answer. -/
def clampA (A B : List Nat) (a b c : Int) : (Nat × Nat) × Int := if A = [] then ((0, 0), 2) else ((clampF (coordF a c) (axF A).lo (axF A).hi, clampF (coordF b c) (axF B).lo (axF B).hi), 0)
set_option maxHeartbeats 2000000 in
theorem bClamp_any (w : World) (b px bx py bY : Nat) (A B : List Nat) (h : BoxA w b px bx py bY A B) (i j d : Int) (hi : i64 i) (hj : i64 j) (hd : i64 d) :
    Calls Try.prog 15 #[ptr b, I i, I j, I d] w fun e w' => ∃ u v, e = .returned (.tuple #[D32 u, D32 v, I (clampA A B i j d).2]) ∧ can32 u = (clampA A B i j d).1.1 ∧ can32 v = (clampA A B i j d).1.2 ∧ Below w.heap.size w w' := by
  unfold clampA
  by_cases hA : A = []
  · obtain ⟨x, y, r⟩ := h.zero hA
    rw [if_pos hA]
    clear h hA
    obtain ⟨c0, c1, c2, c3, c4, c5, c6, c7, c8, c9, c10, fz⟩ := r.cells
    go_enter Try.func15, Try.ntmps15
    go_wp2
    go_ret3
    exact ⟨0, 0, rfl, can32_zero, can32_zero, Below.refl _ _⟩
  · obtain ⟨n, x, y, r, cx, cy, hn, -⟩ := h.some hA
    rw [if_neg hA]
    obtain ⟨x1, x2, -, -⟩ := ax_fld cx
    obtain ⟨y1, y2, -, -⟩ := ax_fld cy
    refine (clamp2_any w b px py n x y r i j d (fit_ratio i d hi hd) (fit_ratio j d hj hd) hn).mono ?_
    rintro e w' ⟨u, v, m, rfl, cu, cv, rfl⟩
    exact ⟨u, v, rfl, by rw [cu, x1, x2], by rw [cv, y1, y2], Below.drewN (Below.refl _ _) _⟩
/-- Along's answer. -/
def alongA (A B : List Nat) (a c : Int) : (Nat × Nat) × Int := if A = [] then ((0, 0), 2) else ((lerpF (coordF a c) (axF A).lo (axF A).hi, lerpF (coordF a c) (axF B).lo (axF B).hi), 0)
set_option maxHeartbeats 2000000 in
theorem bAlong_any (w : World) (b px bx py bY : Nat) (A B : List Nat) (h : BoxA w b px bx py bY A B) (i d : Int) (hi : i64 i) (hd : i64 d) :
    Calls Try.prog 14 #[ptr b, I i, I d] w fun e w' => ∃ u v, e = .returned (.tuple #[D32 u, D32 v, I (alongA A B i d).2]) ∧ can32 u = (alongA A B i d).1.1 ∧ can32 v = (alongA A B i d).1.2 ∧ Below w.heap.size w w' := by
  unfold alongA
  by_cases hA : A = []
  · obtain ⟨x, y, r⟩ := h.zero hA
    rw [if_pos hA]
    clear h hA
    obtain ⟨c0, c1, c2, c3, c4, c5, c6, c7, c8, c9, c10, fz⟩ := r.cells
    go_enter Try.func14, Try.ntmps14
    go_wp2
    go_ret3
    exact ⟨0, 0, rfl, can32_zero, can32_zero, Below.refl _ _⟩
  · obtain ⟨n, x, y, r, cx, cy, hn, -⟩ := h.some hA
    rw [if_neg hA]
    obtain ⟨x1, x2, -, -⟩ := ax_fld cx
    obtain ⟨y1, y2, -, -⟩ := ax_fld cy
    refine (along_any w b px py n x y r i d (fit_ratio i d hi hd) hn).mono ?_
    rintro e w' ⟨u, v, m, rfl, cu, cv, rfl⟩
    exact ⟨u, v, rfl, by rw [cu, x1, x2], by rw [cv, y1, y2], Below.drewN (Below.refl _ _) _⟩
/-- Cell's answer. -/
def cellA (A B : List Nat) (a b c : Int) : Int × Int := if A = [] then (0, 2) else cellF (axF A) (axF B) (coordF a c) (coordF b c)
set_option maxHeartbeats 2000000 in
theorem bCell_any (w : World) (b px bx py bY : Nat) (A B : List Nat) (h : BoxA w b px bx py bY A B) (i j d : Int) (hi : i64 i) (hj : i64 j) (hd : i64 d) :
    Calls Try.prog 13 #[ptr b, I i, I j, I d] w fun e w' => e = .returned (.tuple #[I (cellA A B i j d).1, I (cellA A B i j d).2]) ∧ Below w.heap.size w w' := by
  unfold cellA
  by_cases hA : A = []
  · obtain ⟨x, y, r⟩ := h.zero hA
    rw [if_pos hA]
    clear h hA
    obtain ⟨c0, c1, c2, c3, c4, c5, c6, c7, c8, c9, c10, fz⟩ := r.cells
    go_enter Try.func13, Try.ntmps13
    go_wp2
    go_ret2
    exact ⟨rfl, Below.refl _ _⟩
  · obtain ⟨n, x, y, r, cx, cy, hn, -⟩ := h.some hA
    rw [if_neg hA, ← cx, ← cy]
    exact cell_any grid_law w b px py n x y r i j d (fit_ratio i d hi hd) (fit_ratio j d hj hd) hn
/-- Show's answer. -/
def showB (A B : List Nat) : List UInt8 := [110, 61] ++ itoa (A.length : Nat) ++ (if A = [] then [] else [32] ++ text32 (axF A).lo ++ [32] ++ text32 (axF B).lo ++ [32] ++ text32 (axF A).hi ++ [32] ++ text32 (axF B).hi)
set_option maxHeartbeats 4000000 in
theorem bShow_any (w : World) (b px bx py bY : Nat) (A B : List Nat) (h : BoxA w b px bx py bY A B) :
    Calls Try.prog 40 #[ptr b] w fun e w' => e = .returned (S (showB A B)) ∧ Below w.heap.size w w' := by
  unfold showB
  by_cases hA : A = []
  · obtain ⟨x, y, r⟩ := h.zero hA
    rw [if_pos hA, hA]
    clear h hA
    obtain ⟨c0, c1, c2, c3, c4, c5, c6, c7, c8, c9, c10, fz⟩ := r.cells
    go_enter Try.func40, Try.ntmps40
    go_wp2_with fail
    refine (itoa_any _ (by omega) (by omega) _).mono ?_
    rintro e w1 ⟨rfl, b1⟩
    have h1 := r.below b1 r.lt
    clear c0 c1 c2 c3 c4 c5 c6 c7 c8 c9 c10 fz
    obtain ⟨c0, c1, c2, c3, c4, c5, c6, c7, c8, c9, c10, fz⟩ := BoxR.cells h1
    have hl := itoa_len ((0 : Nat) : Int) (by omega) (by omega)
    rw [← str_size] at hl
    go_wp2
    go_ret
    refine ⟨?_, b1⟩
    show Ending.returned (.string (str [110, 61] ++ str (itoa ((0 : Nat) : Int)))) = _
    rw [str_append, List.append_nil]
    rfl
  · obtain ⟨n, x, y, r, cx, cy, hn, hlen⟩ := h.some hA
    rw [if_neg hA, hlen]
    obtain ⟨x1, x2, -, -⟩ := ax_fld cx
    obtain ⟨y1, y2, -, -⟩ := ax_fld cy
    rw [← x1, ← x2, ← y1, ← y2]
    clear h hA cx cy x1 x2 y1 y2 hlen
    obtain ⟨c0, c1, c2, c3, c4, c5, c6, c7, c8, c9, c10, fz⟩ := r.cells
    have hl := itoa_len ((n : Int) + 1) (by omega) (by omega)
    rw [← str_size] at hl
    have l1 := text32_len (can32 x.lo)
    have l2 := text32_len (can32 y.lo)
    have l3 := text32_len (can32 x.hi)
    have l4 := text32_len (can32 y.hi)
    go_enter Try.func40, Try.ntmps40
    go_wp2_with fail
    refine (itoa_any _ (by omega) (by omega) _).mono ?_
    rintro e w1 ⟨rfl, b1⟩
    have h1 : BoxR w1 b px py (n + 1) x y := r.below b1 r.lt
    clear c0 c1 c2 c3 c4 c5 c6 c7 c8 c9 c10 fz
    obtain ⟨c0, c1, c2, c3, c4, c5, c6, c7, c8, c9, c10, fz⟩ := h1.cells
    go_wp2_with fail
    refine (text32_any _ _).mono ?_
    rintro e w2 ⟨rfl, b2⟩
    have h2 : BoxR w2 b px py (n + 1) x y := h1.below b2 h1.lt
    have bb2 := b1.trans (b2.mono b1.size)
    clear c0 c1 c2 c3 c4 c5 c6 c7 c8 c9 c10 fz b1 b2
    obtain ⟨c0, c1, c2, c3, c4, c5, c6, c7, c8, c9, c10, fz⟩ := h2.cells
    go_wp2_with fail
    refine (text32_any _ _).mono ?_
    rintro e w3 ⟨rfl, b3⟩
    have h3 : BoxR w3 b px py (n + 1) x y := h2.below b3 h2.lt
    have bb3 := bb2.trans (b3.mono bb2.size)
    clear c0 c1 c2 c3 c4 c5 c6 c7 c8 c9 c10 fz b3 bb2
    obtain ⟨c0, c1, c2, c3, c4, c5, c6, c7, c8, c9, c10, fz⟩ := h3.cells
    go_wp2_with fail
    refine (text32_any _ _).mono ?_
    rintro e w4 ⟨rfl, b4⟩
    have h4 : BoxR w4 b px py (n + 1) x y := h3.below b4 h3.lt
    have bb4 := bb3.trans (b4.mono bb3.size)
    clear c0 c1 c2 c3 c4 c5 c6 c7 c8 c9 c10 fz b4 bb3
    obtain ⟨c0, c1, c2, c3, c4, c5, c6, c7, c8, c9, c10, fz⟩ := h4.cells
    go_wp2_with fail
    refine (text32_any _ _).mono ?_
    rintro e w5 ⟨rfl, b5⟩
    have bb5 := bb4.trans (b5.mono bb4.size)
    clear c0 c1 c2 c3 c4 c5 c6 c7 c8 c9 c10 fz b5 bb4
    go_wp2
    go_ret
    refine ⟨?_, bb5⟩
    show Ending.returned (.string (str [110, 61] ++ str (itoa ((n + 1 : Nat) : Int)) ++ str [32] ++ str (text32 (can32 x.lo)) ++ str [32] ++ str (text32 (can32 y.lo)) ++ str [32] ++ str (text32 (can32 x.hi)) ++ str [32] ++ str (text32 (can32 y.hi)))) = _
    simp only [str_append, List.append_assoc]
    rfl
end Go.Proofs.Qxb6500472a
