import Derived.Test.Qxb6500472aKw1
namespace Go.Proofs.Qxb6500472a
open Go.RowKit
attribute [local go_sem] run_store_float drewN_alloc drewN_setCell
theorem text32_to (x X : Nat) (h : can32 x = X) (w : World) : Calls Try.prog 48 #[D32 x] w fun e w' => e = .returned (S (text32 X)) ∧ Below w.heap.size w w' := by
  subst h
  exact text32_any x w
theorem bCorner0 (w : World) (b px bx py bY : Nat) (A B : List Nat) (h : BoxA w b px bx py bY A B) (hA : A ≠ []) :
    Calls Try.prog 37 #[ptr b, I 0] w fun e w' => ∃ v, e = .returned (.tuple #[D32 v, I 0]) ∧ can32 v = (axF A).lo ∧ w' = w := by
  have := bCorner_any w b px bx py bY A B h 0
  rw [show cornA A B 0 = ((axF A).lo, 0) from by unfold cornA; rw [if_neg hA]; rfl] at this
  exact this
theorem bCorner1 (w : World) (b px bx py bY : Nat) (A B : List Nat) (h : BoxA w b px bx py bY A B) (hA : A ≠ []) :
    Calls Try.prog 37 #[ptr b, I 1] w fun e w' => ∃ v, e = .returned (.tuple #[D32 v, I 0]) ∧ can32 v = (axF B).lo ∧ w' = w := by
  have := bCorner_any w b px bx py bY A B h 1
  rw [show cornA A B 1 = ((axF B).lo, 0) from by unfold cornA; rw [if_neg hA]; rfl] at this
  exact this
theorem bCorner2 (w : World) (b px bx py bY : Nat) (A B : List Nat) (h : BoxA w b px bx py bY A B) (hA : A ≠ []) :
    Calls Try.prog 37 #[ptr b, I 2] w fun e w' => ∃ v, e = .returned (.tuple #[D32 v, I 0]) ∧ can32 v = (axF A).hi ∧ w' = w := by
  have := bCorner_any w b px bx py bY A B h 2
  rw [show cornA A B 2 = ((axF A).hi, 0) from by unfold cornA; rw [if_neg hA]; rfl] at this
  exact this
theorem bCorner3 (w : World) (b px bx py bY : Nat) (A B : List Nat) (h : BoxA w b px bx py bY A B) (hA : A ≠ []) :
    Calls Try.prog 37 #[ptr b, I 3] w fun e w' => ∃ v, e = .returned (.tuple #[D32 v, I 0]) ∧ can32 v = (axF B).hi ∧ w' = w := by
  have := bCorner_any w b px bx py bY A B h 3
  rw [show cornA A B 3 = ((axF B).hi, 0) from by unfold cornA; rw [if_neg hA]; rfl] at this
  exact this
theorem bCornerZ (w : World) (b px bx py bY : Nat) (B : List Nat) (h : BoxA w b px bx py bY [] B) (k : Int) :
    Calls Try.prog 37 #[ptr b, I k] w fun e w' => ∃ v, e = .returned (.tuple #[D32 v, I 2]) ∧ can32 v = 0 ∧ w' = w := by
  have := bCorner_any w b px bx py bY [] B h k
  rw [show cornA [] B k = (0, 2) from by unfold cornA; rw [if_pos rfl]] at this
  exact this
theorem bInside1 (w : World) (b px bx py bY : Nat) (A B : List Nat) (h : BoxA w b px bx py bY A B) (hA : A ≠ []) (i j d : Int) (hi : i64 i) (hj : i64 j) (hd : i64 d) (X : Bool) (hX : ((ge32 (coordF i d) (axF A).lo && le32 (coordF i d) (axF A).hi) && (ge32 (coordF j d) (axF B).lo && le32 (coordF j d) (axF B).hi)) = X) :
    Calls Try.prog 39 #[ptr b, I i, I j, I d] w fun e w' => e = .returned (.tuple #[.bool X, I 0]) ∧ Below w.heap.size w w' := by
  have := bInside_any w b px bx py bY A B h i j d hi hj hd
  rw [show insideA A B i j d = (X, 0) from by unfold insideA holdsF; rw [if_neg hA, hX]] at this
  exact this
theorem bClamp1 (w : World) (b px bx py bY : Nat) (A B : List Nat) (h : BoxA w b px bx py bY A B) (hA : A ≠ []) (i j d : Int) (hi : i64 i) (hj : i64 j) (hd : i64 d) (X Y : Nat) (hX : clampF (coordF i d) (axF A).lo (axF A).hi = X) (hY : clampF (coordF j d) (axF B).lo (axF B).hi = Y) :
    Calls Try.prog 15 #[ptr b, I i, I j, I d] w fun e w' => ∃ u v, e = .returned (.tuple #[D32 u, D32 v, I 0]) ∧ can32 u = X ∧ can32 v = Y ∧ Below w.heap.size w w' := by
  have := bClamp_any w b px bx py bY A B h i j d hi hj hd
  rw [show clampA A B i j d = ((X, Y), 0) from by unfold clampA; rw [if_neg hA, hX, hY]] at this
  exact this
theorem b_drew {w : World} (n : Nat) : Below w.heap.size w (w.drewN n) := Below.drewN (Below.refl _ _) n

set_option maxHeartbeats 4000000 in
theorem placed_any (w : World) (b px bx py bY : Nat) (A B : List Nat) (h : BoxA w b px bx py bY A B) (hA : A ≠ []) (K a j c : Int) (ha : i64 a) (hj : i64 j) (hc : i64 c) (s t : ByteArray) (lox loy hix hiy : Nat) (c1 : can32 lox = (axF A).lo) (c2 : can32 loy = (axF B).lo) (c3 : can32 hix = (axF A).hi) (c4 : can32 hiy = (axF B).hi) :
    Calls Try.prog 55 #[ptr b, OpV K a j c s t, D32 lox, D32 loy, D32 hix, D32 hiy] w fun e w' => e = .returned (.bool true) ∧ Below w.heap.size w w' := by
  obtain ⟨g1, hg1⟩ : ∃ g, ge32 (coordF a c) (axF A).lo = g := ⟨_, rfl⟩
  obtain ⟨g2, hg2⟩ : ∃ g, le32 (coordF a c) (axF A).hi = g := ⟨_, rfl⟩
  obtain ⟨g3, hg3⟩ : ∃ g, ge32 (coordF j c) (axF B).lo = g := ⟨_, rfl⟩
  obtain ⟨g4, hg4⟩ : ∃ g, le32 (coordF j c) (axF B).hi = g := ⟨_, rfl⟩
  obtain ⟨X, hX⟩ : ∃ g, clampF (coordF a c) (axF A).lo (axF A).hi = g := ⟨_, rfl⟩
  obtain ⟨Y, hY⟩ : ∃ g, clampF (coordF j c) (axF B).lo (axF B).hi = g := ⟨_, rfl⟩
  have IN := fun V hV => bInside1 V b px bx py bY A B hV hA a j c ha hj hc ((g1 && g2) && (g3 && g4)) (by rw [hg1, hg2, hg3, hg4])
  have CL := fun V hV => bClamp1 V b px bx py bY A B hV hA a j c ha hj hc X Y hX hY
  have F1 : Hid (∀ p, can32 p = coordF a c → (FloatKind.f32.format.order p lox == some .gt || FloatKind.f32.format.order p lox == some .eq) = g1 ∧ (FloatKind.f32.format.order p hix == some .lt || FloatKind.f32.format.order p hix == some .eq) = g2 ∧ can32 (clampF p lox hix) = X) := fun p hp => ⟨(ge_of hp c1).trans hg1, (le_of hp c3).trans hg2, (clamp_can hp c1 c3).trans hX⟩
  have F2 : Hid (∀ p, can32 p = coordF j c → (FloatKind.f32.format.order p loy == some .gt || FloatKind.f32.format.order p loy == some .eq) = g3 ∧ (FloatKind.f32.format.order p hiy == some .lt || FloatKind.f32.format.order p hiy == some .eq) = g4 ∧ can32 (clampF p loy hiy) = Y) := fun p hp => ⟨(ge_of hp c2).trans hg3, (le_of hp c4).trans hg4, (clamp_can hp c2 c4).trans hY⟩
  clear hg1 hg2 hg3 hg4 hX hY c1 c2 c3 c4 hA
  have b0 : Below w.heap.size w (w.alloc (.cells #[I K, I a, I j, I c, .string s, .string t] 48)) := (Below.refl _ _).alloc (Nat.le_refl _) _
  have P0 : Blk (w.alloc (.cells #[I K, I a, I j, I c, .string s, .string t] 48)) w.heap.size #[I K, I a, I j, I c, .string s, .string t] 48 := Blk.new rfl
  go_enter Try.func55, Try.ntmps55
  go_wp2_with fail
  refine (lCoord_any a c ha hc _).mono ?_
  rintro e w1 ⟨p, m1, rfl, cp, rfl⟩
  obtain ⟨f1, f2, f3⟩ := F1.out p cp
  have Cp : Hid _ := f3
  clear cp f3 F1
  go_wp2_with fail
  refine (lCoord_any j c hj hc _).mono ?_
  rintro e w1 ⟨r, m2, rfl, cr, rfl⟩
  obtain ⟨f3, f4, f5⟩ := F2.out r cr
  have Cr : Hid _ := f5
  clear cr f5 F2
  rw [World.drewN_drewN]
  have b2 := b0.trans ((b_drew (w := w.alloc (.cells #[I K, I a, I j, I c, .string s, .string t] 48)) (m1 + m2)).mono (by simp))
  have P2 : Blk ((w.alloc (.cells #[I K, I a, I j, I c, .string s, .string t] 48)).drewN (m1 + m2)) w.heap.size #[I K, I a, I j, I c, .string s, .string t] 48 := P0.drewN _
  generalize (w.alloc (.cells #[I K, I a, I j, I c, .string s, .string t] 48)).drewN (m1 + m2) = w2 at *
  clear b0 P0
  obtain ⟨q1, q2, q3⟩ := P2.facts
  go_wp2_with fail
  refine (IN _ (h.later b2)).mono ?_
  rintro e w3 ⟨rfl, b3⟩
  have P3 := P2.below b3 P2.lt
  have b4 := b2.trans (b3.mono b2.size)
  clear q1 q2 q3 P2 b2 b3 IN
  obtain ⟨q1, q2, q3⟩ := P3.facts
  have fin : ∀ (V : World), Below w.heap.size w V → BoxA V b px bx py bY A B := fun V hV => h.later hV
  cases g1 with
  | false =>
    go_wp2_with fail
    refine (CL _ (fin _ b4)).mono ?_
    rintro e w5 ⟨u, v, rfl, cu0, cv0, b5⟩
    have cu : Hid _ := cu0
    have cv : Hid _ := cv0
    clear cu0 cv0 q1 q2 q3 f1 f2 f3 f4
    have b6 := b4.trans (b5.mono b4.size)
    go_wp2_with fail
    refine (pinch_any _ _ _ _).mono ?_
    rintro e w6 ⟨rfl, rfl⟩
    go_wp2_with fail
    refine (pinch_any _ _ _ _).mono ?_
    rintro e w6 ⟨rfl, rfl⟩
    go_wp2_with fail
    refine (text32_to u X cu.out _).mono ?_
    rintro e w7 ⟨rfl, b7⟩
    have b8 := b6.trans (b7.mono b6.size)
    go_wp2_with fail
    refine (text32_to v Y cv.out _).mono ?_
    rintro e w9 ⟨rfl, b9⟩
    have b10 := b8.trans (b9.mono b8.size)
    go_wp2_with fail
    refine (text32_to _ X Cp.out _).mono ?_
    rintro e w11 ⟨rfl, b11⟩
    have b12 := b10.trans (b11.mono b10.size)
    go_wp2_with fail
    refine (text32_to _ Y Cr.out _).mono ?_
    rintro e w13 ⟨rfl, b13⟩
    go_wp2
    go_ret
    exact ⟨rfl, b12.trans (b13.mono b12.size)⟩
  | true =>
    cases g2 with
    | false =>
      go_wp2_with fail
      refine (CL _ (fin _ b4)).mono ?_
      rintro e w5 ⟨u, v, rfl, cu0, cv0, b5⟩
      have cu : Hid _ := cu0
      have cv : Hid _ := cv0
      clear cu0 cv0 q1 q2 q3 f1 f2 f3 f4
      have b6 := b4.trans (b5.mono b4.size)
      go_wp2_with fail
      refine (pinch_any _ _ _ _).mono ?_
      rintro e w6 ⟨rfl, rfl⟩
      go_wp2_with fail
      refine (pinch_any _ _ _ _).mono ?_
      rintro e w6 ⟨rfl, rfl⟩
      go_wp2_with fail
      refine (text32_to u X cu.out _).mono ?_
      rintro e w7 ⟨rfl, b7⟩
      have b8 := b6.trans (b7.mono b6.size)
      go_wp2_with fail
      refine (text32_to v Y cv.out _).mono ?_
      rintro e w9 ⟨rfl, b9⟩
      have b10 := b8.trans (b9.mono b8.size)
      go_wp2_with fail
      refine (text32_to _ X Cp.out _).mono ?_
      rintro e w11 ⟨rfl, b11⟩
      have b12 := b10.trans (b11.mono b10.size)
      go_wp2_with fail
      refine (text32_to _ Y Cr.out _).mono ?_
      rintro e w13 ⟨rfl, b13⟩
      go_wp2
      go_ret
      exact ⟨rfl, b12.trans (b13.mono b12.size)⟩
    | true =>
      cases g3 with
      | false =>
        go_wp2_with fail
        refine (CL _ (fin _ b4)).mono ?_
        rintro e w5 ⟨u, v, rfl, cu0, cv0, b5⟩
        have cu : Hid _ := cu0
        have cv : Hid _ := cv0
        clear cu0 cv0 q1 q2 q3 f1 f2 f3 f4
        have b6 := b4.trans (b5.mono b4.size)
        go_wp2_with fail
        refine (pinch_any _ _ _ _).mono ?_
        rintro e w6 ⟨rfl, rfl⟩
        go_wp2_with fail
        refine (pinch_any _ _ _ _).mono ?_
        rintro e w6 ⟨rfl, rfl⟩
        go_wp2_with fail
        refine (text32_to u X cu.out _).mono ?_
        rintro e w7 ⟨rfl, b7⟩
        have b8 := b6.trans (b7.mono b6.size)
        go_wp2_with fail
        refine (text32_to v Y cv.out _).mono ?_
        rintro e w9 ⟨rfl, b9⟩
        have b10 := b8.trans (b9.mono b8.size)
        go_wp2_with fail
        refine (text32_to _ X Cp.out _).mono ?_
        rintro e w11 ⟨rfl, b11⟩
        have b12 := b10.trans (b11.mono b10.size)
        go_wp2_with fail
        refine (text32_to _ Y Cr.out _).mono ?_
        rintro e w13 ⟨rfl, b13⟩
        go_wp2
        go_ret
        exact ⟨rfl, b12.trans (b13.mono b12.size)⟩
      | true =>
        cases g4 with
        | false =>
          go_wp2_with fail
          refine (CL _ (fin _ b4)).mono ?_
          rintro e w5 ⟨u, v, rfl, cu0, cv0, b5⟩
          have cu : Hid _ := cu0
          have cv : Hid _ := cv0
          clear cu0 cv0 q1 q2 q3 f1 f2 f3 f4
          have b6 := b4.trans (b5.mono b4.size)
          go_wp2_with fail
          refine (pinch_any _ _ _ _).mono ?_
          rintro e w6 ⟨rfl, rfl⟩
          go_wp2_with fail
          refine (pinch_any _ _ _ _).mono ?_
          rintro e w6 ⟨rfl, rfl⟩
          go_wp2_with fail
          refine (text32_to u X cu.out _).mono ?_
          rintro e w7 ⟨rfl, b7⟩
          have b8 := b6.trans (b7.mono b6.size)
          go_wp2_with fail
          refine (text32_to v Y cv.out _).mono ?_
          rintro e w9 ⟨rfl, b9⟩
          have b10 := b8.trans (b9.mono b8.size)
          go_wp2_with fail
          refine (text32_to _ X Cp.out _).mono ?_
          rintro e w11 ⟨rfl, b11⟩
          have b12 := b10.trans (b11.mono b10.size)
          go_wp2_with fail
          refine (text32_to _ Y Cr.out _).mono ?_
          rintro e w13 ⟨rfl, b13⟩
          go_wp2
          go_ret
          exact ⟨rfl, b12.trans (b13.mono b12.size)⟩
        | true =>
          go_wp2_with fail
          refine (CL _ (fin _ b4)).mono ?_
          rintro e w5 ⟨u, v, rfl, cu0, cv0, b5⟩
          have cu : Hid _ := cu0
          have cv : Hid _ := cv0
          clear cu0 cv0 q1 q2 q3 f1 f2 f3 f4
          have b6 := b4.trans (b5.mono b4.size)
          go_wp2_with fail
          refine (pinch_any _ _ _ _).mono ?_
          rintro e w6 ⟨rfl, rfl⟩
          go_wp2_with fail
          refine (pinch_any _ _ _ _).mono ?_
          rintro e w6 ⟨rfl, rfl⟩
          go_wp2_with fail
          refine (text32_to u X cu.out _).mono ?_
          rintro e w7 ⟨rfl, b7⟩
          have b8 := b6.trans (b7.mono b6.size)
          go_wp2_with fail
          refine (text32_to v Y cv.out _).mono ?_
          rintro e w9 ⟨rfl, b9⟩
          have b10 := b8.trans (b9.mono b8.size)
          go_wp2_with fail
          refine (text32_to _ X Cp.out _).mono ?_
          rintro e w11 ⟨rfl, b11⟩
          have b12 := b10.trans (b11.mono b10.size)
          go_wp2_with fail
          refine (text32_to _ Y Cr.out _).mono ?_
          rintro e w13 ⟨rfl, b13⟩
          go_wp2
          go_ret
          exact ⟨rfl, b12.trans (b13.mono b12.size)⟩
end Go.Proofs.Qxb6500472a
