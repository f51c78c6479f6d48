import Derived.Test.Qxb6500472aKw3
namespace Go.Proofs.Qxb6500472a
open Go.RowKit
attribute [local go_sem] run_store_float drewN_alloc drewN_setCell
theorem bAlong1 (w : World) (b px bx py bY : Nat) (A B : List Nat) (h : BoxA w b px bx py bY A B) (hA : A ≠ []) (i d : Int) (hi : i64 i) (hd : i64 d) (X Y : Nat) (hX : lerpF (coordF i d) (axF A).lo (axF A).hi = X) (hY : lerpF (coordF i d) (axF B).lo (axF B).hi = Y) :
    Calls Try.prog 14 #[ptr b, I i, I d] w fun e w' => ∃ u v, e = .returned (.tuple #[D32 u, D32 v, I 0]) ∧ can32 u = X ∧ can32 v = Y ∧ Below w.heap.size w w' := by
  have := bAlong_any w b px bx py bY A B h i d hi hd
  rw [show alongA A B i d = ((X, Y), 0) from by unfold alongA; rw [if_neg hA, hX, hY]] at this
  exact this
theorem bCell1 (w : World) (b px bx py bY : Nat) (A B : List Nat) (h : BoxA w b px bx py bY A B) (hA : A ≠ []) (i j d : Int) (hi : i64 i) (hj : i64 j) (hd : i64 d) (N E : Int) (hN : cellF (axF A) (axF B) (coordF i d) (coordF j d) = (N, E)) :
    Calls Try.prog 13 #[ptr b, I i, I j, I d] w fun e w' => e = .returned (.tuple #[I N, I E]) ∧ Below w.heap.size w w' := by
  have := bCell_any w b px bx py bY A B h i j d hi hj hd
  rw [show cellA A B i j d = (N, E) from by unfold cellA; rw [if_neg hA, hN]] at this
  exact this

set_option maxRecDepth 100000 in
set_option maxHeartbeats 8000000 in
theorem means_along0 (w : World) (b px bx py bY : Nat) (A B : List Nat) (h : BoxA w b px bx py bY A B) (hA : A ≠ []) (a c E : Int) (ha : i64 a) (hj : i64 0) (s t : ByteArray) :
    Calls Try.prog 24 #[ptr b, OpV 7 a 0 c s t, I E] w fun e w' => e = .returned (.bool true) ∧ Below w.heap.size w w' := by
  have hB := other_nil h.len hA
  obtain ⟨U, hU⟩ : ∃ X, lerpF (coordF a 0) (axF A).lo (axF A).hi = X := ⟨_, rfl⟩
  obtain ⟨V, hV⟩ : ∃ X, lerpF (coordF a 0) (axF B).lo (axF B).hi = X := ⟨_, rfl⟩
  have AL := fun V' hV' => bAlong1 V' b px bx py bY A B hV' hA a 0 ha hj U V hU hV
  obtain ⟨rs, ns, hs, cs⟩ := arith_ex Try.prog .sub 35 .f32 (by simp)
  obtain ⟨rm, nm, hm, cm⟩ := arith_ex Try.prog .mul 35 .f32 (by simp)
  obtain ⟨ra, na, hd, ca⟩ := arith_ex Try.prog .add 35 .f32 (by simp)
  have co : can .f32 one32 = one32 := by decide +kernel
  have LP : Hid (∀ p lo hi LO HI W1 W2 W3 W4, can32 p = coordF a 0 → can32 lo = LO → can32 hi = HI → can32 (ra (rm (rs one32 p W1) lo W2) (rm p hi W3) W4) = lerpF (coordF a 0) LO HI) := by
    intro p lo hi LO HI W1 W2 W3 W4 h1 h2 h3
    refine (ca.out _ _ _).trans ?_
    rw [show can .f32 (rm (rs one32 p W1) lo W2) = _ from cm.out _ _ _, show can .f32 (rm p hi W3) = _ from cm.out _ _ _, show can .f32 (rs one32 p W1) = _ from cs.out _ _ _, co, show can .f32 p = _ from h1, show can .f32 lo = _ from h2, show can .f32 hi = _ from h3]
    rfl
  have LU : Hid (∀ p lo hi W1 W2 W3 W4, can32 p = coordF a 0 → can32 lo = (axF A).lo → can32 hi = (axF A).hi → can32 (ra (rm (rs one32 p W1) lo W2) (rm p hi W3) W4) = U) := fun p lo hi W1 W2 W3 W4 h1 h2 h3 => (LP.out p lo hi _ _ W1 W2 W3 W4 h1 h2 h3).trans hU
  have LV : Hid (∀ p lo hi W1 W2 W3 W4, can32 p = coordF a 0 → can32 lo = (axF B).lo → can32 hi = (axF B).hi → can32 (ra (rm (rs one32 p W1) lo W2) (rm p hi W3) W4) = V) := fun p lo hi W1 W2 W3 W4 h1 h2 h3 => (LP.out p lo hi _ _ W1 W2 W3 W4 h1 h2 h3).trans hV
  clear cs cm ca LP hU hV hB co
  have b0 : Below w.heap.size w (w.alloc (.cells #[I 7, I a, I 0, I c, .string s, .string t] 48)) := (Below.refl _ _).alloc (Nat.le_refl _) _
  have P0 : Blk (w.alloc (.cells #[I 7, I a, I 0, I c, .string s, .string t] 48)) w.heap.size #[I 7, I a, I 0, I c, .string s, .string t] 48 := Blk.new rfl
  have H : ∀ V, Below w.heap.size w V → BoxA V b px bx py bY A B := fun V hV => h.later hV
  go_enter Try.func24, Try.ntmps24
  go_wp2_with fail
  refine (bCorner0 _ b px bx py bY A B (H _ b0) hA).mono ?_
  rintro e w1 ⟨lox, rfl, c0, rfl⟩
  have C0 : Hid _ := c0
  clear c0
  go_wp2_with fail
  refine (bCorner1 _ b px bx py bY A B (H _ b0) hA).mono ?_
  rintro e w1 ⟨loy, rfl, c1, rfl⟩
  have C1 : Hid _ := c1
  clear c1
  go_wp2_with fail
  refine (bCorner2 _ b px bx py bY A B (H _ b0) hA).mono ?_
  rintro e w1 ⟨hix, rfl, c2, rfl⟩
  have C2 : Hid _ := c2
  clear c2
  go_wp2_with fail
  refine (bCorner3 _ b px bx py bY A B (H _ b0) hA).mono ?_
  rintro e w1 ⟨hiy, rfl, c3, rfl⟩
  have C3 : Hid _ := c3
  clear c3
  go_wp2_with fail
  refine (AL _ (H _ b0)).mono ?_
  rintro e w1 ⟨u, v, rfl, cu, cv, B1⟩
  have CU : Hid _ := cu
  clear cu
  have CV : Hid _ := cv
  clear cv
  have P1 := P0.below B1 P0.lt
  have b1 := b0.trans (B1.mono b0.size)
  clear P0 b0 B1
  obtain ⟨q1, q2, q3⟩ := P1.facts
  go_wp2_with fail
  refine (lCoordB _ _ ha hj _).mono ?_
  rintro e w2 ⟨t0, rfl, ct, B2⟩
  have CT : Hid _ := ct
  clear ct
  have P2 := P1.below B2 P1.lt
  have b2 := b1.trans (B2.mono b1.size)
  clear q1 q2 q3
  clear P1 b1 B2
  obtain ⟨q1, q2, q3⟩ := P2.facts
  go_wp2_with fail
  refine (text32_to u U CU.out _).mono ?_
  rintro e w3 ⟨rfl, B3⟩
  have P3 := P2.below B3 P2.lt
  have b3 := b2.trans (B3.mono b2.size)
  clear q1 q2 q3
  clear P2 b2 B3
  obtain ⟨q1, q2, q3⟩ := P3.facts
  go_wp2_with fail
  refine (text32_to v V CV.out _).mono ?_
  rintro e w4 ⟨rfl, B4⟩
  have P4 := P3.below B4 P3.lt
  have b4 := b3.trans (B4.mono b3.size)
  clear q1 q2 q3
  clear P3 b3 B4
  obtain ⟨q1, q2, q3⟩ := P4.facts
  go_wp2_with fail
  refine (text32_to _ U (LU.out t0 lox hix _ _ _ _ CT.out C0.out C2.out) _).mono ?_
  rintro e w5 ⟨rfl, B5⟩
  have D5 : Below w4.heap.size w4 w5 := (b_drew (w := w4) _).trans (B5.mono (Nat.le_refl _))
  have P5 := P4.below D5 P4.lt
  have b5 := b4.trans (D5.mono b4.size)
  clear q1 q2 q3
  clear P4 b4 B5 D5
  obtain ⟨q1, q2, q3⟩ := P5.facts
  go_wp2_with fail
  refine (text32_to _ V (LV.out t0 loy hiy _ _ _ _ CT.out C1.out C3.out) _).mono ?_
  rintro e w6 ⟨rfl, B6⟩
  have D6 : Below w5.heap.size w5 w6 := (b_drew (w := w5) _).trans (B6.mono (Nat.le_refl _))
  have P6 := P5.below D6 P5.lt
  have b6 := b5.trans (D6.mono b5.size)
  clear q1 q2 q3
  clear P5 b5 B6 D6
  obtain ⟨q1, q2, q3⟩ := P6.facts
  clear CU CV CT C0 C1 C2 C3 LU LV
  go_wp2
  go_ret
  exact ⟨rfl, b6⟩

set_option maxRecDepth 100000 in
set_option maxHeartbeats 8000000 in
theorem means_along1 (w : World) (b px bx py bY : Nat) (A B : List Nat) (h : BoxA w b px bx py bY A B) (hA : A ≠ []) (a j c E : Int) (ha : i64 a) (hj : i64 j) (j0 : j ≠ 0) (s t : ByteArray) :
    Calls Try.prog 24 #[ptr b, OpV 7 a j c s t, I E] w fun e w' => e = .returned (.bool true) ∧ Below w.heap.size w w' := by
  have hB := other_nil h.len hA
  obtain ⟨U, hU⟩ : ∃ X, lerpF (coordF a j) (axF A).lo (axF A).hi = X := ⟨_, rfl⟩
  obtain ⟨V, hV⟩ : ∃ X, lerpF (coordF a j) (axF B).lo (axF B).hi = X := ⟨_, rfl⟩
  have AL := fun V' hV' => bAlong1 V' b px bx py bY A B hV' hA a j ha hj U V hU hV
  obtain ⟨rs, ns, hs, cs⟩ := arith_ex Try.prog .sub 35 .f32 (by simp)
  obtain ⟨rm, nm, hm, cm⟩ := arith_ex Try.prog .mul 35 .f32 (by simp)
  obtain ⟨ra, na, hd, ca⟩ := arith_ex Try.prog .add 35 .f32 (by simp)
  have co : can .f32 one32 = one32 := by decide +kernel
  have LP : Hid (∀ p lo hi LO HI W1 W2 W3 W4, can32 p = coordF a j → can32 lo = LO → can32 hi = HI → can32 (ra (rm (rs one32 p W1) lo W2) (rm p hi W3) W4) = lerpF (coordF a j) LO HI) := by
    intro p lo hi LO HI W1 W2 W3 W4 h1 h2 h3
    refine (ca.out _ _ _).trans ?_
    rw [show can .f32 (rm (rs one32 p W1) lo W2) = _ from cm.out _ _ _, show can .f32 (rm p hi W3) = _ from cm.out _ _ _, show can .f32 (rs one32 p W1) = _ from cs.out _ _ _, co, show can .f32 p = _ from h1, show can .f32 lo = _ from h2, show can .f32 hi = _ from h3]
    rfl
  have LU : Hid (∀ p lo hi W1 W2 W3 W4, can32 p = coordF a j → can32 lo = (axF A).lo → can32 hi = (axF A).hi → can32 (ra (rm (rs one32 p W1) lo W2) (rm p hi W3) W4) = U) := fun p lo hi W1 W2 W3 W4 h1 h2 h3 => (LP.out p lo hi _ _ W1 W2 W3 W4 h1 h2 h3).trans hU
  have LV : Hid (∀ p lo hi W1 W2 W3 W4, can32 p = coordF a j → can32 lo = (axF B).lo → can32 hi = (axF B).hi → can32 (ra (rm (rs one32 p W1) lo W2) (rm p hi W3) W4) = V) := fun p lo hi W1 W2 W3 W4 h1 h2 h3 => (LP.out p lo hi _ _ W1 W2 W3 W4 h1 h2 h3).trans hV
  obtain ⟨f1, hf1⟩ : ∃ f, (eq32 (sub32 (axF A).lo (axF A).lo) 0 && eq32 (sub32 (axF A).hi (axF A).hi) 0) = f := ⟨_, rfl⟩
  obtain ⟨f2, hf2⟩ : ∃ f, (eq32 (sub32 (axF B).lo (axF B).lo) 0 && eq32 (sub32 (axF B).hi (axF B).hi) 0) = f := ⟨_, rfl⟩
  obtain ⟨x1, hx1⟩ : ∃ x, (a == 0) = x := ⟨_, rfl⟩
  obtain ⟨x2, hx2⟩ : ∃ x, (a == j) = x := ⟨_, rfl⟩
  obtain ⟨y1, hy1⟩ : ∃ x, eq32 U (axF A).lo = x := ⟨_, rfl⟩
  obtain ⟨y2, hy2⟩ : ∃ x, eq32 V (axF B).lo = x := ⟨_, rfl⟩
  obtain ⟨z1, hz1⟩ : ∃ x, eq32 U (axF A).hi = x := ⟨_, rfl⟩
  obtain ⟨z2, hz2⟩ : ∃ x, eq32 V (axF B).hi = x := ⟨_, rfl⟩
  have G1 : f1 = true → fin Ieee.single (axF A).lo ∧ fin Ieee.single (axF A).hi := by
    rintro rfl
    rw [Bool.and_eq_true] at hf1
    exact ⟨finite_of hf1.1, finite_of hf1.2⟩
  have G2 : f2 = true → fin Ieee.single (axF B).lo ∧ fin Ieee.single (axF B).hi := by
    rintro rfl
    rw [Bool.and_eq_true] at hf2
    exact ⟨finite_of hf2.1, finite_of hf2.2⟩
  have L1 : f1 = true → f2 = true → x1 = true → y1 = true ∧ y2 = true := by
    intro g1 g2 g3
    rw [g3] at hx1
    have a0 : a = 0 := by simpa using hx1
    subst a0
    have ct := coord_zero j hj j0
    rw [← hy1, ← hy2, ← hU, ← hV]
    exact ⟨lerp_zero _ _ _ ct (G1 g1).1 (G1 g1).2, lerp_zero _ _ _ ct (G2 g2).1 (G2 g2).2⟩
  have L2 : f1 = true → f2 = true → x2 = true → z1 = true ∧ z2 = true := by
    intro g1 g2 g3
    rw [g3] at hx2
    have a0 : a = j := by simpa using hx2
    subst a0
    have ct := coord_one a ha j0
    rw [← hz1, ← hz2, ← hU, ← hV, ct]
    exact ⟨lerp_one _ _ (G1 g1).1 (G1 g1).2, lerp_one _ _ (G2 g2).1 (G2 g2).2⟩
  have HF1 : Hid _ := hf1
  have HF2 : Hid _ := hf2
  have EQ : Hid (∀ u v lo1 lo2 hi1 hi2, can32 u = U → can32 v = V → can32 lo1 = (axF A).lo → can32 lo2 = (axF B).lo → can32 hi1 = (axF A).hi → can32 hi2 = (axF B).hi → (FloatKind.f32.format.order u lo1 == some .eq) = y1 ∧ (FloatKind.f32.format.order v lo2 == some .eq) = y2 ∧ (FloatKind.f32.format.order u hi1 == some .eq) = z1 ∧ (FloatKind.f32.format.order v hi2 == some .eq) = z2) := fun u v l1 l2 h1 h2 c1 c2 c3 c4 c5 c6 => ⟨(eq_of c1 c3).trans hy1, (eq_of c2 c4).trans hy2, (eq_of c1 c5).trans hz1, (eq_of c2 c6).trans hz2⟩
  have ej : (j == 0) = false := by simpa using j0
  have L1' : Hid _ := L1
  have L2' : Hid _ := L2
  clear cs cm ca LP hU hV hB co hf1 hf2 hy1 hy2 hz1 hz2 G1 G2 j0 L1 L2
  have b0 : Below w.heap.size w (w.alloc (.cells #[I 7, I a, I j, I c, .string s, .string t] 48)) := (Below.refl _ _).alloc (Nat.le_refl _) _
  have P0 : Blk (w.alloc (.cells #[I 7, I a, I j, I c, .string s, .string t] 48)) w.heap.size #[I 7, I a, I j, I c, .string s, .string t] 48 := Blk.new rfl
  have H : ∀ V, Below w.heap.size w V → BoxA V b px bx py bY A B := fun V hV => h.later hV
  go_enter Try.func24, Try.ntmps24
  go_wp2_with fail
  refine (bCorner0 _ b px bx py bY A B (H _ b0) hA).mono ?_
  rintro e w1 ⟨lox, rfl, c0, rfl⟩
  have C0 : Hid _ := c0
  clear c0
  go_wp2_with fail
  refine (bCorner1 _ b px bx py bY A B (H _ b0) hA).mono ?_
  rintro e w1 ⟨loy, rfl, c1, rfl⟩
  have C1 : Hid _ := c1
  clear c1
  go_wp2_with fail
  refine (bCorner2 _ b px bx py bY A B (H _ b0) hA).mono ?_
  rintro e w1 ⟨hix, rfl, c2, rfl⟩
  have C2 : Hid _ := c2
  clear c2
  go_wp2_with fail
  refine (bCorner3 _ b px bx py bY A B (H _ b0) hA).mono ?_
  rintro e w1 ⟨hiy, rfl, c3, rfl⟩
  have C3 : Hid _ := c3
  clear c3
  go_wp2_with fail
  refine (AL _ (H _ b0)).mono ?_
  rintro e w1 ⟨u, v, rfl, cu, cv, B1⟩
  have CU : Hid _ := cu
  clear cu
  have CV : Hid _ := cv
  clear cv
  have P1 := P0.below B1 P0.lt
  have b1 := b0.trans (B1.mono b0.size)
  clear P0 b0 B1
  obtain ⟨q1, q2, q3⟩ := P1.facts
  go_wp2_with fail
  refine (lCoordB _ _ ha hj _).mono ?_
  rintro e w2 ⟨t0, rfl, ct, B2⟩
  have CT : Hid _ := ct
  clear ct
  have P2 := P1.below B2 P1.lt
  have b2 := b1.trans (B2.mono b1.size)
  clear q1 q2 q3
  clear P1 b1 B2
  obtain ⟨q1, q2, q3⟩ := P2.facts
  go_wp2_with fail
  refine (text32_to u U CU.out _).mono ?_
  rintro e w3 ⟨rfl, B3⟩
  have P3 := P2.below B3 P2.lt
  have b3 := b2.trans (B3.mono b2.size)
  clear q1 q2 q3
  clear P2 b2 B3
  obtain ⟨q1, q2, q3⟩ := P3.facts
  go_wp2_with fail
  refine (text32_to v V CV.out _).mono ?_
  rintro e w4 ⟨rfl, B4⟩
  have P4 := P3.below B4 P3.lt
  have b4 := b3.trans (B4.mono b3.size)
  clear q1 q2 q3
  clear P3 b3 B4
  obtain ⟨q1, q2, q3⟩ := P4.facts
  go_wp2_with fail
  refine (text32_to _ U (LU.out t0 lox hix _ _ _ _ CT.out C0.out C2.out) _).mono ?_
  rintro e w5 ⟨rfl, B5⟩
  have D5 : Below w4.heap.size w4 w5 := (b_drew (w := w4) _).trans (B5.mono (Nat.le_refl _))
  have P5 := P4.below D5 P4.lt
  have b5 := b4.trans (D5.mono b4.size)
  clear q1 q2 q3
  clear P4 b4 B5 D5
  obtain ⟨q1, q2, q3⟩ := P5.facts
  go_wp2_with fail
  refine (text32_to _ V (LV.out t0 loy hiy _ _ _ _ CT.out C1.out C3.out) _).mono ?_
  rintro e w6 ⟨rfl, B6⟩
  have D6 : Below w5.heap.size w5 w6 := (b_drew (w := w5) _).trans (B6.mono (Nat.le_refl _))
  have P6 := P5.below D6 P5.lt
  have b6 := b5.trans (D6.mono b5.size)
  clear q1 q2 q3
  clear P5 b5 B6 D6
  obtain ⟨q1, q2, q3⟩ := P6.facts
  go_wp2_with fail
  refine (finiteB _ _ _ _ C0.out C2.out f1 HF1.out _).mono ?_
  rintro e w7 ⟨rfl, B7⟩
  have P7 := P6.below B7 P6.lt
  have b7 := b6.trans (B7.mono b6.size)
  clear q1 q2 q3
  clear P6 b6 B7
  obtain ⟨q1, q2, q3⟩ := P7.facts
  cases f1 with
  | false =>
    go_wp2
    go_ret
    exact ⟨rfl, b7⟩
  | true =>
    go_wp2_with fail
    refine (finiteB _ _ _ _ C1.out C3.out f2 HF2.out _).mono ?_
    rintro e w8 ⟨rfl, B8⟩
    have P8 := P7.below B8 P7.lt
    have b8 := b7.trans (B8.mono b7.size)
    clear q1 q2 q3
    clear P7 b7 B8
    obtain ⟨q1, q2, q3⟩ := P8.facts
    obtain ⟨e1, e2, e3, e4⟩ := EQ.out u v lox loy hix hiy CU.out CV.out C0.out C1.out C2.out C3.out
    clear EQ CU CV C0 C1 C2 C3 CT LU LV HF1 HF2
    cases f2 with
    | false =>
      go_wp2
      go_ret
      exact ⟨rfl, b8⟩
    | true =>
      cases x1 with
      | true =>
        obtain ⟨rfl, rfl⟩ := L1'.out (by simp) (by simp) (by simp)
        clear L1' L2' e3 e4
        go_wp2
        go_ret
        exact ⟨rfl, b8⟩
      | false =>
        cases x2 with
        | true =>
          obtain ⟨rfl, rfl⟩ := L2'.out (by simp) (by simp) (by simp)
          clear L1' L2' e1 e2
          go_wp2
          go_ret
          exact ⟨rfl, b8⟩
        | false =>
          clear L1' L2' e1 e2 e3 e4
          go_wp2
          go_ret
          exact ⟨rfl, b8⟩
end Go.Proofs.Qxb6500472a
