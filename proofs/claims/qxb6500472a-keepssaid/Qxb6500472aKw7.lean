import Derived.Test.Qxb6500472aKw6
namespace Go.Proofs.Qxb6500472a
open Go.RowKit
attribute [local go_sem] run_store_float drewN_alloc drewN_setCell

set_option maxRecDepth 100000 in
set_option maxHeartbeats 8000000 in
theorem means_cell_out (w : World) (b px bx py bY : Nat) (A B : List Nat) (h : BoxA w b px bx py bY A B) (hA : A ≠ []) (a j c E : Int) (ha : i64 a) (hj : i64 j) (hc : i64 c) (hX : ((ge32 (coordF a c) (axF A).lo && le32 (coordF a c) (axF A).hi) && (ge32 (coordF j c) (axF B).lo && le32 (coordF j c) (axF B).hi)) = false) (s t : ByteArray) :
    Calls Try.prog 24 #[ptr b, OpV 8 a j c s t, I E] w fun e w' => e = .returned (.bool true) ∧ Below w.heap.size w w' := by
  have hB := other_nil h.len hA
  obtain ⟨rs, ns, hs, cs⟩ := arith_ex Try.prog .sub 35 .f32 (by simp)
  have SB : Hid (∀ x y X Y W, can32 x = X → can32 y = Y → can32 (rs x y W) = sub32 X Y) := fun x y X Y W h1 h2 => (cs.out _ _ _).trans (by rw [show can .f32 x = _ from h1, show can .f32 y = _ from h2])
  have CF := cell_law (axF A).lo (axF A).hi (axF B).lo (axF B).hi (coordF a c) (coordF j c)
  rw [← axF_of hA, ← axF_of hB] at CF
  rw [hX] at CF
  simp only [Bool.false_eq_true, if_false] at CF
  have CE := fun V hV => bCell1 V b px bx py bY A B hV hA a j c ha hj hc 0 5 CF
  have IN := fun V hV => bInside1 V b px bx py bY A B hV hA a j c ha hj hc false hX
  have ow : (5 : Int) = if false then (if wideB (sub32 (axF A).hi (axF A).lo) && wideB (sub32 (axF B).hi (axF B).lo) then 0 else 6) else 5 := by simp
  have OW : Hid (∀ wx wy w, can32 wx = sub32 (axF A).hi (axF A).lo → can32 wy = sub32 (axF B).hi (axF B).lo → Calls Try.prog 58 #[.bool false, D32 wx, D32 wy, I 5] w fun e w' => e = .returned (.bool true) ∧ Below w.heap.size w w') := fun wx wy w h1 h2 => owedB false wx wy _ _ h1 h2 5 ow w
  clear cs CF hX hB ow
  have b0 : Below w.heap.size w (w.alloc (.cells #[I 8, I a, I j, I c, .string s, .string t] 48)) := (Below.refl _ _).alloc (Nat.le_refl _) _
  have P0 : Blk (w.alloc (.cells #[I 8, I a, I j, I c, .string s, .string t] 48)) w.heap.size #[I 8, I a, I j, I c, .string s, .string t] 48 := Blk.new rfl
  have H : ∀ V, Below w.heap.size w V → BoxA V b px bx py bY A B := fun V hV => h.later hV
  go_enter Try.func24, Try.ntmps24
  go_wp2_with fail
  refine (bCorner0 _ b px bx py bY A B (H _ b0) hA).mono ?_
  rintro e w1 ⟨lox, rfl, c0, rfl⟩
  have C0 : Hid _ := c0
  clear c0
  go_wp2_with fail
  refine (bCorner1 _ b px bx py bY A B (H _ b0) hA).mono ?_
  rintro e w1 ⟨loy, rfl, c1, rfl⟩
  have C1 : Hid _ := c1
  clear c1
  go_wp2_with fail
  refine (bCorner2 _ b px bx py bY A B (H _ b0) hA).mono ?_
  rintro e w1 ⟨hix, rfl, c2, rfl⟩
  have C2 : Hid _ := c2
  clear c2
  go_wp2_with fail
  refine (bCorner3 _ b px bx py bY A B (H _ b0) hA).mono ?_
  rintro e w1 ⟨hiy, rfl, c3, rfl⟩
  have C3 : Hid _ := c3
  clear c3
  go_wp2_with fail
  refine (placed_any _ b px bx py bY A B (H _ b0) hA 8 a j c ha hj hc s t lox loy hix hiy C0.out C1.out C2.out C3.out).mono ?_
  rintro e w1 ⟨rfl, B1⟩
  have P1 := P0.below B1 P0.lt
  have b1 := b0.trans (B1.mono b0.size)
  clear P0 b0 B1
  obtain ⟨q1, q2, q3⟩ := P1.facts
  go_wp2_with fail
  refine (CE _ (H _ b1)).mono ?_
  rintro e w2 ⟨rfl, B2⟩
  have P2 := P1.below B2 P1.lt
  have b2 := b1.trans (B2.mono b1.size)
  clear q1 q2 q3
  clear P1 b1 B2
  obtain ⟨q1, q2, q3⟩ := P2.facts
  go_wp2_with fail
  refine (IN _ (H _ b2)).mono ?_
  rintro e w3 ⟨rfl, B3⟩
  have P3 := P2.below B3 P2.lt
  have b3 := b2.trans (B3.mono b2.size)
  clear q1 q2 q3
  clear P2 b2 B3
  obtain ⟨q1, q2, q3⟩ := P3.facts
  go_wp2_with fail
  refine (OW.out _ _ _ (SB.out _ _ _ _ _ C2.out C0.out) (SB.out _ _ _ _ _ C3.out C1.out)).mono ?_
  rintro e w4 ⟨rfl, B4⟩
  have D4 : Below w3.heap.size w3 w4 := (b_drew (w := w3) _).trans (B4.mono (Nat.le_refl _))
  have P4 := P3.below D4 P3.lt
  have b4 := b3.trans (D4.mono b3.size)
  clear q1 q2 q3
  clear P3 b3 B4 D4
  obtain ⟨q1, q2, q3⟩ := P4.facts
  clear C0 C1 C2 C3 SB OW
  go_wp2
  go_ret
  exact ⟨rfl, b4⟩

set_option maxRecDepth 100000 in
set_option maxHeartbeats 8000000 in
theorem means_cell_wide (w : World) (b px bx py bY : Nat) (A B : List Nat) (h : BoxA w b px bx py bY A B) (hA : A ≠ []) (a j c E : Int) (ha : i64 a) (hj : i64 j) (hc : i64 c) (hX : ((ge32 (coordF a c) (axF A).lo && le32 (coordF a c) (axF A).hi) && (ge32 (coordF j c) (axF B).lo && le32 (coordF j c) (axF B).hi)) = true) (hW : (wideB (sub32 (axF A).hi (axF A).lo) && wideB (sub32 (axF B).hi (axF B).lo)) = false) (s t : ByteArray) :
    Calls Try.prog 24 #[ptr b, OpV 8 a j c s t, I E] w fun e w' => e = .returned (.bool true) ∧ Below w.heap.size w w' := by
  have hB := other_nil h.len hA
  obtain ⟨rs, ns, hs, cs⟩ := arith_ex Try.prog .sub 35 .f32 (by simp)
  have SB : Hid (∀ x y X Y W, can32 x = X → can32 y = Y → can32 (rs x y W) = sub32 X Y) := fun x y X Y W h1 h2 => (cs.out _ _ _).trans (by rw [show can .f32 x = _ from h1, show can .f32 y = _ from h2])
  have CF := cell_law (axF A).lo (axF A).hi (axF B).lo (axF B).hi (coordF a c) (coordF j c)
  rw [← axF_of hA, ← axF_of hB] at CF
  rw [hX, hW] at CF
  simp only [Bool.false_eq_true, if_false, if_true] at CF
  have CE := fun V hV => bCell1 V b px bx py bY A B hV hA a j c ha hj hc 0 6 CF
  have IN := fun V hV => bInside1 V b px bx py bY A B hV hA a j c ha hj hc true hX
  have ow : (6 : Int) = if true then (if wideB (sub32 (axF A).hi (axF A).lo) && wideB (sub32 (axF B).hi (axF B).lo) then 0 else 6) else 5 := by simp [hW]
  have OW : Hid (∀ wx wy w, can32 wx = sub32 (axF A).hi (axF A).lo → can32 wy = sub32 (axF B).hi (axF B).lo → Calls Try.prog 58 #[.bool true, D32 wx, D32 wy, I 6] w fun e w' => e = .returned (.bool true) ∧ Below w.heap.size w w') := fun wx wy w h1 h2 => owedB true wx wy _ _ h1 h2 6 ow w
  clear cs CF hX hW hB ow
  have b0 : Below w.heap.size w (w.alloc (.cells #[I 8, I a, I j, I c, .string s, .string t] 48)) := (Below.refl _ _).alloc (Nat.le_refl _) _
  have P0 : Blk (w.alloc (.cells #[I 8, I a, I j, I c, .string s, .string t] 48)) w.heap.size #[I 8, I a, I j, I c, .string s, .string t] 48 := Blk.new rfl
  have H : ∀ V, Below w.heap.size w V → BoxA V b px bx py bY A B := fun V hV => h.later hV
  go_enter Try.func24, Try.ntmps24
  go_wp2_with fail
  refine (bCorner0 _ b px bx py bY A B (H _ b0) hA).mono ?_
  rintro e w1 ⟨lox, rfl, c0, rfl⟩
  have C0 : Hid _ := c0
  clear c0
  go_wp2_with fail
  refine (bCorner1 _ b px bx py bY A B (H _ b0) hA).mono ?_
  rintro e w1 ⟨loy, rfl, c1, rfl⟩
  have C1 : Hid _ := c1
  clear c1
  go_wp2_with fail
  refine (bCorner2 _ b px bx py bY A B (H _ b0) hA).mono ?_
  rintro e w1 ⟨hix, rfl, c2, rfl⟩
  have C2 : Hid _ := c2
  clear c2
  go_wp2_with fail
  refine (bCorner3 _ b px bx py bY A B (H _ b0) hA).mono ?_
  rintro e w1 ⟨hiy, rfl, c3, rfl⟩
  have C3 : Hid _ := c3
  clear c3
  go_wp2_with fail
  refine (placed_any _ b px bx py bY A B (H _ b0) hA 8 a j c ha hj hc s t lox loy hix hiy C0.out C1.out C2.out C3.out).mono ?_
  rintro e w1 ⟨rfl, B1⟩
  have P1 := P0.below B1 P0.lt
  have b1 := b0.trans (B1.mono b0.size)
  clear P0 b0 B1
  obtain ⟨q1, q2, q3⟩ := P1.facts
  go_wp2_with fail
  refine (CE _ (H _ b1)).mono ?_
  rintro e w2 ⟨rfl, B2⟩
  have P2 := P1.below B2 P1.lt
  have b2 := b1.trans (B2.mono b1.size)
  clear q1 q2 q3
  clear P1 b1 B2
  obtain ⟨q1, q2, q3⟩ := P2.facts
  go_wp2_with fail
  refine (IN _ (H _ b2)).mono ?_
  rintro e w3 ⟨rfl, B3⟩
  have P3 := P2.below B3 P2.lt
  have b3 := b2.trans (B3.mono b2.size)
  clear q1 q2 q3
  clear P2 b2 B3
  obtain ⟨q1, q2, q3⟩ := P3.facts
  go_wp2_with fail
  refine (OW.out _ _ _ (SB.out _ _ _ _ _ C2.out C0.out) (SB.out _ _ _ _ _ C3.out C1.out)).mono ?_
  rintro e w4 ⟨rfl, B4⟩
  have D4 : Below w3.heap.size w3 w4 := (b_drew (w := w3) _).trans (B4.mono (Nat.le_refl _))
  have P4 := P3.below D4 P3.lt
  have b4 := b3.trans (D4.mono b3.size)
  clear q1 q2 q3
  clear P3 b3 B4 D4
  obtain ⟨q1, q2, q3⟩ := P4.facts
  clear C0 C1 C2 C3 SB OW
  go_wp2
  go_ret
  exact ⟨rfl, b4⟩

set_option maxRecDepth 100000 in
set_option maxHeartbeats 8000000 in
theorem means_cell_ok (w : World) (b px bx py bY : Nat) (A B : List Nat) (h : BoxA w b px bx py bY A B) (hA : A ≠ []) (a j c E : Int) (ha : i64 a) (hj : i64 j) (hc : i64 c) (hX : ((ge32 (coordF a c) (axF A).lo && le32 (coordF a c) (axF A).hi) && (ge32 (coordF j c) (axF B).lo && le32 (coordF j c) (axF B).hi)) = true) (hW : (wideB (sub32 (axF A).hi (axF A).lo) && wideB (sub32 (axF B).hi (axF B).lo)) = true) (s t : ByteArray) :
    Calls Try.prog 24 #[ptr b, OpV 8 a j c s t, I E] w fun e w' => e = .returned (.bool true) ∧ Below w.heap.size w w' := by
  have hB := other_nil h.len hA
  obtain ⟨rs, ns, hs, cs⟩ := arith_ex Try.prog .sub 35 .f32 (by simp)
  have SB : Hid (∀ x y X Y W, can32 x = X → can32 y = Y → can32 (rs x y W) = sub32 X Y) := fun x y X Y W h1 h2 => (cs.out _ _ _).trans (by rw [show can .f32 x = _ from h1, show can .f32 y = _ from h2])
  have CF := cell_law (axF A).lo (axF A).hi (axF B).lo (axF B).hi (coordF a c) (coordF j c)
  rw [← axF_of hA, ← axF_of hB] at CF
  have ow : (0 : Int) = if true then (if wideB (sub32 (axF A).hi (axF A).lo) && wideB (sub32 (axF B).hi (axF B).lo) then 0 else 6) else 5 := by rw [hW]; rfl
  have OW : Hid (∀ wx wy w, can32 wx = sub32 (axF A).hi (axF A).lo → can32 wy = sub32 (axF B).hi (axF B).lo → Calls Try.prog 58 #[.bool true, D32 wx, D32 wy, I 0] w fun e w' => e = .returned (.bool true) ∧ Below w.heap.size w w') := fun wx wy w h1 h2 => owedB true wx wy _ _ h1 h2 0 ow w
  rw [hX, hW] at CF
  simp only [if_true] at CF
  have IN := fun V hV => bInside1 V b px bx py bY A B hV hA a j c ha hj hc true hX
  rw [Bool.and_eq_true] at hX hW
  have pi1 := (part_axis _ _ _ hX.1).2 hW.1
  have pi2 := (part_axis _ _ _ hX.2).2 hW.2
  obtain ⟨-, l1, l2, l3, l4⟩ := col_law _ _ _ hX.1 hW.1
  obtain ⟨-, m1, m2, m3, m4⟩ := col_law _ _ _ hX.2 hW.2
  obtain ⟨co, hco⟩ : ∃ x, colF (axF A).lo (axF A).hi (coordF a c) = x := ⟨_, rfl⟩
  obtain ⟨ro, hro⟩ : ∃ x, colF (axF B).lo (axF B).hi (coordF j c) = x := ⟨_, rfl⟩
  rw [hco] at l1 l2 l3 l4 CF
  rw [hro] at m1 m2 m3 m4 CF
  obtain ⟨N, hN⟩ : ∃ x, ro * 4 + co = x := ⟨_, rfl⟩
  rw [hN] at CF
  have CE := fun V hV => bCell1 V b px bx py bY A B hV hA a j c ha hj hc N 0 CF
  have PT1 : Hid (∀ p lo hi w, can32 p = coordF a c → can32 lo = (axF A).lo → can32 hi = (axF A).hi → Calls Try.prog 59 #[D32 p, D32 lo, D32 hi] w fun e w' => e = .returned (I co) ∧ Below w.heap.size w w') := fun p lo hi w h1 h2 h3 => lPartB p lo hi _ _ _ h1 h2 h3 pi1 co hco w
  have PT2 : Hid (∀ p lo hi w, can32 p = coordF j c → can32 lo = (axF B).lo → can32 hi = (axF B).hi → Calls Try.prog 59 #[D32 p, D32 lo, D32 hi] w fun e w' => e = .returned (I ro) ∧ Below w.heap.size w w') := fun p lo hi w h1 h2 h3 => lPartB p lo hi _ _ _ h1 h2 h3 pi2 ro hro w
  obtain ⟨x1, hx1⟩ : ∃ x, eq32 (coordF a c) (axF A).lo = x := ⟨_, rfl⟩
  obtain ⟨x2, hx2⟩ : ∃ x, eq32 (coordF a c) (axF A).hi = x := ⟨_, rfl⟩
  obtain ⟨y1, hy1⟩ : ∃ x, eq32 (coordF j c) (axF B).lo = x := ⟨_, rfl⟩
  obtain ⟨y2, hy2⟩ : ∃ x, eq32 (coordF j c) (axF B).hi = x := ⟨_, rfl⟩
  rw [hx1] at l3
  rw [hx2] at l4
  rw [hy1] at m3
  rw [hy2] at m4
  have L3 : Hid _ := l3
  have L4 : Hid _ := l4
  have M3 : Hid _ := m3
  have M4 : Hid _ := m4
  have EX : Hid (∀ p lo hi, can32 p = coordF a c → can32 lo = (axF A).lo → can32 hi = (axF A).hi → (FloatKind.f32.format.order p lo == some .eq) = x1 ∧ (FloatKind.f32.format.order p hi == some .eq) = x2) := fun p lo hi h1 h2 h3 => ⟨(eq_of h1 h2).trans hx1, (eq_of h1 h3).trans hx2⟩
  have EY : Hid (∀ p lo hi, can32 p = coordF j c → can32 lo = (axF B).lo → can32 hi = (axF B).hi → (FloatKind.f32.format.order p lo != some .eq) = !y1 ∧ (FloatKind.f32.format.order p hi != some .eq) = !y2) := fun p lo hi h1 h2 h3 => ⟨(ne_of h1 h2).trans (by rw [hy1]), (ne_of h1 h3).trans (by rw [hy2])⟩
  have k0 : ¬ N < 0 := by omega
  have k1 : ¬ (16 : Int) ≤ N := by omega
  have k2 : ¬ co < 0 := by omega
  have k3 : ¬ ro < 0 := by omega
  have t1 : N.tmod 4 = co := by
    rw [Int.tmod_eq_emod_of_nonneg (by omega)]
    omega
  have t2 : N.tdiv 4 = ro := by
    rw [Int.tdiv_eq_ediv_of_nonneg (by omega)]
    omega
  clear cs CF hX hW hB hco hro pi1 pi2 hx1 hx2 hy1 hy2 l3 l4 m3 m4 ow
  have b0 : Below w.heap.size w (w.alloc (.cells #[I 8, I a, I j, I c, .string s, .string t] 48)) := (Below.refl _ _).alloc (Nat.le_refl _) _
  have P0 : Blk (w.alloc (.cells #[I 8, I a, I j, I c, .string s, .string t] 48)) w.heap.size #[I 8, I a, I j, I c, .string s, .string t] 48 := Blk.new rfl
  have H : ∀ V, Below w.heap.size w V → BoxA V b px bx py bY A B := fun V hV => h.later hV
  go_enter Try.func24, Try.ntmps24
  go_wp2_with fail
  refine (bCorner0 _ b px bx py bY A B (H _ b0) hA).mono ?_
  rintro e w1 ⟨lox, rfl, c0, rfl⟩
  have C0 : Hid _ := c0
  clear c0
  go_wp2_with fail
  refine (bCorner1 _ b px bx py bY A B (H _ b0) hA).mono ?_
  rintro e w1 ⟨loy, rfl, c1, rfl⟩
  have C1 : Hid _ := c1
  clear c1
  go_wp2_with fail
  refine (bCorner2 _ b px bx py bY A B (H _ b0) hA).mono ?_
  rintro e w1 ⟨hix, rfl, c2, rfl⟩
  have C2 : Hid _ := c2
  clear c2
  go_wp2_with fail
  refine (bCorner3 _ b px bx py bY A B (H _ b0) hA).mono ?_
  rintro e w1 ⟨hiy, rfl, c3, rfl⟩
  have C3 : Hid _ := c3
  clear c3
  go_wp2_with fail
  refine (placed_any _ b px bx py bY A B (H _ b0) hA 8 a j c ha hj hc s t lox loy hix hiy C0.out C1.out C2.out C3.out).mono ?_
  rintro e w1 ⟨rfl, B1⟩
  have P1 := P0.below B1 P0.lt
  have b1 := b0.trans (B1.mono b0.size)
  clear P0 b0 B1
  obtain ⟨q1, q2, q3⟩ := P1.facts
  go_wp2_with fail
  refine (CE _ (H _ b1)).mono ?_
  rintro e w2 ⟨rfl, B2⟩
  have P2 := P1.below B2 P1.lt
  have b2 := b1.trans (B2.mono b1.size)
  clear q1 q2 q3
  clear P1 b1 B2
  obtain ⟨q1, q2, q3⟩ := P2.facts
  go_wp2_with fail
  refine (IN _ (H _ b2)).mono ?_
  rintro e w3 ⟨rfl, B3⟩
  have P3 := P2.below B3 P2.lt
  have b3 := b2.trans (B3.mono b2.size)
  clear q1 q2 q3
  clear P2 b2 B3
  obtain ⟨q1, q2, q3⟩ := P3.facts
  go_wp2_with fail
  refine (OW.out _ _ _ (SB.out _ _ _ _ _ C2.out C0.out) (SB.out _ _ _ _ _ C3.out C1.out)).mono ?_
  rintro e w4 ⟨rfl, B4⟩
  have D4 : Below w3.heap.size w3 w4 := (b_drew (w := w3) _).trans (B4.mono (Nat.le_refl _))
  have P4 := P3.below D4 P3.lt
  have b4 := b3.trans (D4.mono b3.size)
  clear q1 q2 q3
  clear P3 b3 B4 D4
  obtain ⟨q1, q2, q3⟩ := P4.facts
  go_wp2_with fail
  refine (lCoordB a c ha hc _).mono ?_
  rintro e w5 ⟨p, rfl, cp, B5⟩
  have CP : Hid _ := cp
  clear cp
  have P5 := P4.below B5 P4.lt
  have b5 := b4.trans (B5.mono b4.size)
  clear q1 q2 q3
  clear P4 b4 B5
  obtain ⟨q1, q2, q3⟩ := P5.facts
  go_wp2_with fail
  refine (lCoordB j c hj hc _).mono ?_
  rintro e w6 ⟨r, rfl, cr, B6⟩
  have CR : Hid _ := cr
  clear cr
  have P6 := P5.below B6 P5.lt
  have b6 := b5.trans (B6.mono b5.size)
  clear q1 q2 q3
  clear P5 b5 B6
  obtain ⟨q1, q2, q3⟩ := P6.facts
  go_wp2_with fail
  refine (PT1.out p lox hix _ CP.out C0.out C2.out).mono ?_
  rintro e w7 ⟨rfl, B7⟩
  have P7 := P6.below B7 P6.lt
  have b7 := b6.trans (B7.mono b6.size)
  clear q1 q2 q3
  clear P6 b6 B7
  obtain ⟨q1, q2, q3⟩ := P7.facts
  go_wp2_with fail
  refine (PT2.out r loy hiy _ CR.out C1.out C3.out).mono ?_
  rintro e w8 ⟨rfl, B8⟩
  have P8 := P7.below B8 P7.lt
  have b8 := b7.trans (B8.mono b7.size)
  clear q1 q2 q3
  clear P7 b7 B8
  obtain ⟨q1, q2, q3⟩ := P8.facts
  obtain ⟨f1, f2⟩ := EX.out p lox hix CP.out C0.out C2.out
  obtain ⟨f3, f4⟩ := EY.out r loy hiy CR.out C1.out C3.out
  clear EX EY PT1 PT2 CP CR C0 C1 C2 C3 SB OW
  cases x1 with
  | true =>
    cases x2 with
    | true =>
      have g1 := L3.out (by simp)
      have g2 := L4.out (by simp)
      omega
    | false =>
      have g3 : (co != 0) = false := by rw [L3.out (by simp)]; rfl
      clear L3 L4
      cases y1 with
      | true =>
        cases y2 with
        | true =>
          have g1 := M3.out (by simp)
          have g2 := M4.out (by simp)
          omega
        | false =>
          have g1 : (ro == 0) = true := by rw [M3.out (by simp)]; rfl
          clear M3 M4
          go_wp2
          go_ret
          exact ⟨rfl, b8⟩
      | false =>
        cases y2 with
        | true =>
          have g2 : (ro == 3) = true := by rw [M4.out (by simp)]; rfl
          clear M3 M4
          go_wp2
          go_ret
          exact ⟨rfl, b8⟩
        | false =>
          clear M3 M4
          go_wp2
          go_ret
          exact ⟨rfl, b8⟩
  | false =>
    cases x2 with
    | true =>
      have g3 : (co != 3) = false := by rw [L4.out (by simp)]; rfl
      clear L3 L4
      cases y1 with
      | true =>
        cases y2 with
        | true =>
          have g1 := M3.out (by simp)
          have g2 := M4.out (by simp)
          omega
        | false =>
          have g1 : (ro == 0) = true := by rw [M3.out (by simp)]; rfl
          clear M3 M4
          go_wp2
          go_ret
          exact ⟨rfl, b8⟩
      | false =>
        cases y2 with
        | true =>
          have g2 : (ro == 3) = true := by rw [M4.out (by simp)]; rfl
          clear M3 M4
          go_wp2
          go_ret
          exact ⟨rfl, b8⟩
        | false =>
          clear M3 M4
          go_wp2
          go_ret
          exact ⟨rfl, b8⟩
    | false =>
      clear L3 L4
      cases y1 with
      | true =>
        cases y2 with
        | true =>
          have g1 := M3.out (by simp)
          have g2 := M4.out (by simp)
          omega
        | false =>
          have g1 : (ro == 0) = true := by rw [M3.out (by simp)]; rfl
          clear M3 M4
          go_wp2
          go_ret
          exact ⟨rfl, b8⟩
      | false =>
        cases y2 with
        | true =>
          have g2 : (ro == 3) = true := by rw [M4.out (by simp)]; rfl
          clear M3 M4
          go_wp2
          go_ret
          exact ⟨rfl, b8⟩
        | false =>
          clear M3 M4
          go_wp2
          go_ret
          exact ⟨rfl, b8⟩
end Go.Proofs.Qxb6500472a
