import Derived.Test.Qxb6500472aKw3
namespace Go.Proofs.Qxb6500472a
open Go.RowKit
attribute [local go_sem] run_store_float drewN_alloc drewN_setCell

set_option maxRecDepth 100000 in
set_option maxHeartbeats 8000000 in
theorem means_clamp5 (w : World) (b px bx py bY : Nat) (A B : List Nat) (h : BoxA w b px bx py bY A B) (hA : A ≠ []) (a j c E : Int) (ha : i64 a) (hj : i64 j) (hc : i64 c) (s t : ByteArray) :
    Calls Try.prog 24 #[ptr b, OpV 5 a j c s t, I E] w fun e w' => e = .returned (.bool true) ∧ Below w.heap.size w w' := by
  have hB := other_nil h.len hA
  obtain ⟨oA, nA⟩ := ax_okF A hA
  obtain ⟨oB, nB⟩ := ax_okF B hB
  have W1 := (clamp_law (coordF a c) _ _ oA nA).1
  have W2 := (clamp_law (coordF j c) _ _ oB nB).1
  have PX := pos_law (coordF a c) _ _ oA nA
  have PY := pos_law (coordF j c) _ _ oB nB
  obtain ⟨X, hX⟩ : ∃ X, (ge32 (coordF a c) (axF A).lo && le32 (coordF a c) (axF A).hi) = X := ⟨_, rfl⟩
  obtain ⟨Y, hY⟩ : ∃ X, (ge32 (coordF j c) (axF B).lo && le32 (coordF j c) (axF B).hi) = X := ⟨_, rfl⟩
  have IN := fun V hV => bInside1 V b px bx py bY A B hV hA a j c ha hj hc (X && Y) (by rw [hX, hY])
  rw [hX] at PX
  rw [hY] at PY
  obtain ⟨U, hU⟩ : ∃ X, clampF (coordF a c) (axF A).lo (axF A).hi = X := ⟨_, rfl⟩
  obtain ⟨V, hV⟩ : ∃ X, clampF (coordF j c) (axF B).lo (axF B).hi = X := ⟨_, rfl⟩
  have CL := fun V' hV' => bClamp1 V' b px bx py bY A B hV' hA a j c ha hj hc U V hU hV
  rw [hU] at PX W1
  rw [hV] at PY W2
  clear hX hY hU hV hB oA nA oB nB
  obtain ⟨nlx, hnl⟩ : ∃ X, isNan .f32 (axF A).lo = X := ⟨_, rfl⟩
  obtain ⟨npx, hnp⟩ : ∃ X, isNan .f32 (coordF a c) = X := ⟨_, rfl⟩
  obtain ⟨ncx, hnc⟩ : ∃ X, isNan .f32 U = X := ⟨_, rfl⟩
  obtain ⟨blx, hbl⟩ : ∃ X, lt32 (coordF a c) (axF A).lo = X := ⟨_, rfl⟩
  obtain ⟨clx, hcl⟩ : ∃ X, eq32 U (axF A).lo = X := ⟨_, rfl⟩
  obtain ⟨bgx, hbg⟩ : ∃ X, gt32 (coordF a c) (axF A).hi = X := ⟨_, rfl⟩
  obtain ⟨chx, hch⟩ : ∃ X, eq32 U (axF A).hi = X := ⟨_, rfl⟩
  obtain ⟨cpx, hcp⟩ : ∃ X, eq32 U (coordF a c) = X := ⟨_, rfl⟩
  rw [hnl, hnp, hnc, hbl, hcl, hbg, hch, hcp] at PX
  have F1 : Hid (∀ p lo hi u, can32 p = (coordF a c) → can32 lo = (axF A).lo → can32 hi = (axF A).hi → can32 u = U → (FloatKind.f32.format.order p p != some .eq) = npx ∧ (FloatKind.f32.format.order u u == some .eq) = !ncx ∧ (FloatKind.f32.format.order p lo == some .lt) = blx ∧ (FloatKind.f32.format.order u lo != some .eq) = !clx ∧ (FloatKind.f32.format.order p hi == some .gt) = bgx ∧ (FloatKind.f32.format.order u hi != some .eq) = !chx ∧ (FloatKind.f32.format.order lo lo == some .eq) = !nlx ∧ (FloatKind.f32.format.order u p == some .eq) = cpx) := fun p lo hi u c1 c2 c3 c4 =>
    ⟨(ne_selfK .f32 p).trans (by rw [nan_of_can c1, hnp]), (eq_selfK .f32 u).trans (by rw [nan_of_can c4, hnc]), (lt_of c1 c2).trans hbl, (ne_of c4 c2).trans (by rw [hcl]), (gt_of c1 c3).trans hbg, (ne_of c4 c3).trans (by rw [hch]), (eq_selfK .f32 lo).trans (by rw [nan_of_can c2, hnl]), (eq_of c4 c1).trans hcp⟩
  clear hnl hnp hnc hbl hcl hbg hch hcp
  obtain ⟨nly, hnl⟩ : ∃ X, isNan .f32 (axF B).lo = X := ⟨_, rfl⟩
  obtain ⟨npy, hnp⟩ : ∃ X, isNan .f32 (coordF j c) = X := ⟨_, rfl⟩
  obtain ⟨ncy, hnc⟩ : ∃ X, isNan .f32 V = X := ⟨_, rfl⟩
  obtain ⟨bly, hbl⟩ : ∃ X, lt32 (coordF j c) (axF B).lo = X := ⟨_, rfl⟩
  obtain ⟨cly, hcl⟩ : ∃ X, eq32 V (axF B).lo = X := ⟨_, rfl⟩
  obtain ⟨bgy, hbg⟩ : ∃ X, gt32 (coordF j c) (axF B).hi = X := ⟨_, rfl⟩
  obtain ⟨chy, hch⟩ : ∃ X, eq32 V (axF B).hi = X := ⟨_, rfl⟩
  obtain ⟨cpy, hcp⟩ : ∃ X, eq32 V (coordF j c) = X := ⟨_, rfl⟩
  rw [hnl, hnp, hnc, hbl, hcl, hbg, hch, hcp] at PY
  have F2 : Hid (∀ p lo hi u, can32 p = (coordF j c) → can32 lo = (axF B).lo → can32 hi = (axF B).hi → can32 u = V → (FloatKind.f32.format.order p p != some .eq) = npy ∧ (FloatKind.f32.format.order u u == some .eq) = !ncy ∧ (FloatKind.f32.format.order p lo == some .lt) = bly ∧ (FloatKind.f32.format.order u lo != some .eq) = !cly ∧ (FloatKind.f32.format.order p hi == some .gt) = bgy ∧ (FloatKind.f32.format.order u hi != some .eq) = !chy ∧ (FloatKind.f32.format.order lo lo == some .eq) = !nly ∧ (FloatKind.f32.format.order u p == some .eq) = cpy) := fun p lo hi u c1 c2 c3 c4 =>
    ⟨(ne_selfK .f32 p).trans (by rw [nan_of_can c1, hnp]), (eq_selfK .f32 u).trans (by rw [nan_of_can c4, hnc]), (lt_of c1 c2).trans hbl, (ne_of c4 c2).trans (by rw [hcl]), (gt_of c1 c3).trans hbg, (ne_of c4 c3).trans (by rw [hch]), (eq_selfK .f32 lo).trans (by rw [nan_of_can c2, hnl]), (eq_of c4 c1).trans hcp⟩
  clear hnl hnp hnc hbl hcl hbg hch hcp
  have b0 : Below w.heap.size w (w.alloc (.cells #[I 5, I a, I j, I c, .string s, .string t] 48)) := (Below.refl _ _).alloc (Nat.le_refl _) _
  have P0 : Blk (w.alloc (.cells #[I 5, I a, I j, I c, .string s, .string t] 48)) w.heap.size #[I 5, I a, I j, I c, .string s, .string t] 48 := Blk.new rfl
  have H : ∀ V, Below w.heap.size w V → BoxA V b px bx py bY A B := fun V hV => h.later hV
  go_enter Try.func24, Try.ntmps24
  go_wp2_with fail
  refine (bCorner0 _ b px bx py bY A B (H _ b0) hA).mono ?_
  rintro e w1 ⟨lox, rfl, c0, rfl⟩
  have C0 : Hid _ := c0
  clear c0
  go_wp2_with fail
  refine (bCorner1 _ b px bx py bY A B (H _ b0) hA).mono ?_
  rintro e w1 ⟨loy, rfl, c1, rfl⟩
  have C1 : Hid _ := c1
  clear c1
  go_wp2_with fail
  refine (bCorner2 _ b px bx py bY A B (H _ b0) hA).mono ?_
  rintro e w1 ⟨hix, rfl, c2, rfl⟩
  have C2 : Hid _ := c2
  clear c2
  go_wp2_with fail
  refine (bCorner3 _ b px bx py bY A B (H _ b0) hA).mono ?_
  rintro e w1 ⟨hiy, rfl, c3, rfl⟩
  have C3 : Hid _ := c3
  clear c3
  go_wp2_with fail
  refine (placed_any _ b px bx py bY A B (H _ b0) hA 5 a j c ha hj hc s t lox loy hix hiy C0.out C1.out C2.out C3.out).mono ?_
  rintro e w1 ⟨rfl, B1⟩
  have P1 := P0.below B1 P0.lt
  have b1 := b0.trans (B1.mono b0.size)
  clear P0 b0 B1
  obtain ⟨q1, q2, q3⟩ := P1.facts
  go_wp2_with fail
  refine (lCoordB a c ha hc _).mono ?_
  rintro e w2 ⟨p, rfl, cp, B2⟩
  have CP : Hid _ := cp
  clear cp
  have P2 := P1.below B2 P1.lt
  have b2 := b1.trans (B2.mono b1.size)
  clear q1 q2 q3
  clear P1 b1 B2
  obtain ⟨q1, q2, q3⟩ := P2.facts
  go_wp2_with fail
  refine (lCoordB j c hj hc _).mono ?_
  rintro e w3 ⟨r, rfl, cr, B3⟩
  have CR : Hid _ := cr
  clear cr
  have P3 := P2.below B3 P2.lt
  have b3 := b2.trans (B3.mono b2.size)
  clear q1 q2 q3
  clear P2 b2 B3
  obtain ⟨q1, q2, q3⟩ := P3.facts
  go_wp2_with fail
  refine (CL _ (H _ b3)).mono ?_
  rintro e w4 ⟨u, v, rfl, cu, cv, B4⟩
  have CU : Hid _ := cu
  clear cu
  have CV : Hid _ := cv
  clear cv
  have P4 := P3.below B4 P3.lt
  have b4 := b3.trans (B4.mono b3.size)
  clear q1 q2 q3
  clear P3 b3 B4
  obtain ⟨q1, q2, q3⟩ := P4.facts
  go_wp2_with fail
  refine (withinB _ _ _ ((within_can CU.out C0.out C2.out).trans W1) _).mono ?_
  rintro e w5 ⟨rfl, B5⟩
  have P5 := P4.below B5 P4.lt
  have b5 := b4.trans (B5.mono b4.size)
  clear q1 q2 q3
  clear P4 b4 B5
  obtain ⟨q1, q2, q3⟩ := P5.facts
  go_wp2_with fail
  refine (withinB _ _ _ ((within_can CV.out C1.out C3.out).trans W2) _).mono ?_
  rintro e w6 ⟨rfl, B6⟩
  have P6 := P5.below B6 P5.lt
  have b6 := b5.trans (B6.mono b5.size)
  clear q1 q2 q3
  clear P5 b5 B6
  obtain ⟨q1, q2, q3⟩ := P6.facts
  obtain ⟨a1, a2, a3, a4, a5, a6, a7, a8⟩ := F1.out p lox hix u CP.out C0.out C2.out CU.out
  obtain ⟨d1, d2, d3, d4, d5, d6, d7, d8⟩ := F2.out r loy hiy v CR.out C1.out C3.out CV.out
  clear CP CR CU CV C0 C1 C2 C3 F1 F2 W1 W2
  rcases PX with ⟨rfl, rfl, rfl, rfl, rfl⟩ | ⟨rfl, rfl, rfl, rfl⟩ | ⟨rfl, rfl, rfl, rfl, rfl, rfl, rfl⟩ | ⟨rfl, rfl, rfl, rfl, rfl, rfl, rfl⟩ | ⟨rfl, rfl, rfl, rfl, rfl, rfl, rfl⟩ | ⟨rfl, rfl, rfl, rfl, rfl, rfl⟩ <;> rcases PY with ⟨rfl, rfl, rfl, rfl, rfl⟩ | ⟨rfl, rfl, rfl, rfl⟩ | ⟨rfl, rfl, rfl, rfl, rfl, rfl, rfl⟩ | ⟨rfl, rfl, rfl, rfl, rfl, rfl, rfl⟩ | ⟨rfl, rfl, rfl, rfl, rfl, rfl, rfl⟩ | ⟨rfl, rfl, rfl, rfl, rfl, rfl⟩
  all_goals
    (go_wp2_with fail
     refine (IN _ (H _ b6)).mono ?_
     rintro e w7 ⟨rfl, B7⟩
     have b7 := b6.trans (B7.mono b6.size)
     go_wp2
     go_ret
     exact ⟨rfl, b7⟩)
end Go.Proofs.Qxb6500472a
