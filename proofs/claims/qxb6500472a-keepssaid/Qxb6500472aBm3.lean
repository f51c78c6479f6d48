import Derived.Test.Qxb6500472aBm2
namespace Go.Proofs.Qxb6500472a
open Go.RowKit
attribute [local go_sem] run_store_float drewN_alloc drewN_setCell
theorem BPost.drewN {w w1 : World} {q : Nat} {L A B : List Nat} (p : BPost q L w A B w1) (n : Nat) : BPost q L w A B (w1.drewN n) := p.later (Below.drewN (Below.refl _ _) n)
theorem BM.drewN {w : World} {q : Nat} {L A B : List Nat} (h : BM w q L A B) (n : Nat) : BM (w.drewN n) q L A B := h.later (Below.drewN (Below.refl _ _) n)
set_option maxHeartbeats 400000 in
theorem mClamp_any (v lo hi : Nat) (w : World) :
    Calls Try.prog 92 #[D32 v, D32 lo, D32 hi] w fun e w' => e = .returned (D32 (clampF v lo hi)) ∧ w' = w := by
  unfold clampF lt32 gt32 ord32
  cases h1 : (FloatKind.f32.format.order v lo == some .lt) with
  | true =>
    simp only [if_true]
    go_enter Try.func92, Try.ntmps92
    go_wp2
    go_ret
    exact ⟨rfl, rfl⟩
  | false =>
    cases h2 : (FloatKind.f32.format.order v hi == some .gt) with
    | true =>
      simp only [if_true, Bool.false_eq_true, if_false]
      go_enter Try.func92, Try.ntmps92
      go_wp2
      go_ret
      exact ⟨rfl, rfl⟩
    | false =>
      simp only [Bool.false_eq_true, if_false]
      go_enter Try.func92, Try.ntmps92
      go_wp2
      go_ret
      exact ⟨rfl, rfl⟩
/-- The axis between two corners. -/
def axOf (lo hi : Nat) : Ax := ⟨lo, hi, sub32 hi lo, !(eq32 (add32 (sub32 hi lo) (sub32 hi lo)) (sub32 hi lo))⟩
theorem axF_of {A : List Nat} (h : A ≠ []) : axF A = axOf (axF A).lo (axF A).hi := by unfold axF; rw [if_neg h]; rfl

set_option maxHeartbeats 1000000 in
theorem mbInside_none (w : World) (q : Nat) (L A B : List Nat) (h : BM w q L A B) (hA : A = []) (i j d : Int) :
    Calls Try.prog 83 #[ptr q, I i, I j, I d] w fun e w' => e = .returned (.tuple #[.bool false, I 2]) ∧ BPost q L w A B w' := by
  obtain ⟨qx, qy, ox, oy, h, rfl⟩ := h
  obtain ⟨c0, c1, lq⟩ := h.at0
  have ML := ma_len w qx ox A h.mx
  rw [show A.length = 0 from by rw [hA]; rfl] at ML
  clear hA
  go_enter Try.func83, Try.ntmps83
  go_wp2_with fail
  refine ML.mono ?_
  rintro e w1 ⟨rfl, m1⟩
  obtain ⟨ox1, h1, n1, u1⟩ := h.stepX m1
  go_wp2
  go_ret2
  exact ⟨rfl, _, ⟨qx, qy, ox1, oy, h1, rfl⟩, n1, u1⟩
theorem ge_of {p lo P LO : Nat} (hp : can32 p = P) (hl : can32 lo = LO) : (FloatKind.f32.format.order p lo == some .gt || FloatKind.f32.format.order p lo == some .eq) = ge32 P LO := by
  rw [← hp, ← hl, ge32_can]; rfl
theorem le_of {p lo P LO : Nat} (hp : can32 p = P) (hl : can32 lo = LO) : (FloatKind.f32.format.order p lo == some .lt || FloatKind.f32.format.order p lo == some .eq) = le32 P LO := by
  rw [← hp, ← hl, le32_can]; rfl

set_option maxHeartbeats 2000000 in
theorem mbInside_some (w : World) (q : Nat) (L A B : List Nat) (h : BM w q L A B) (hA : A ≠ []) (len : B.length = A.length) (fx : Fits A) (fy : Fits B) (i j d : Int) (hi : i64 i) (hj : i64 j) (hd : i64 d) (R : Bool) (HR : Hid (((ge32 (coordF i d) (axF A).lo && le32 (coordF i d) (axF A).hi) && (ge32 (coordF j d) (axF B).lo && le32 (coordF j d) (axF B).hi)) = R)) :
    Calls Try.prog 83 #[ptr q, I i, I j, I d] w fun e w' => e = .returned (.tuple #[.bool R, I 0]) ∧ BPost q L w A B w' := by
  have F := fun V L' hV => four_any V q L' A B hV hA len fx fy
  obtain ⟨qx, qy, ox, oy, h, rfl⟩ := h
  obtain ⟨c0, c1, lq⟩ := h.at0
  have ML := ma_len w qx ox A h.mx
  have hz := len_ne hA
  clear hA len fx fy
  go_enter Try.func83, Try.ntmps83
  go_wp2_with fail
  refine ML.mono ?_
  rintro e w1 ⟨rfl, m1⟩
  obtain ⟨ox1, h1, n1, u1⟩ := h.stepX m1
  clear c0 c1 lq ML m1
  go_wp2_with fail
  refine (F _ _ ⟨qx, qy, ox1, oy, h1, rfl⟩).mono ?_
  rintro e w2 ⟨a, b, c, e, rfl, ca, cb, cc, ce, L2, h2, n2, u2⟩
  have P2 : BPost q (mOwn q qx qy ox oy) w A B w2 := .trans n1 u1 ⟨L2, h2, n2, u2⟩
  clear F h1 n1 u1 h2 n2 u2
  go_wp2_with fail
  refine (mCoord_any i d hi hd _).mono ?_
  rintro _ _ ⟨p, m1, rfl, cp, rfl⟩
  go_wp2_with fail
  refine (mCoord_any j d hj hd _).mono ?_
  rintro _ _ ⟨r, m2, rfl, cr, rfl⟩
  have g1 := ge_of cp ca
  have g2 := le_of cp cc
  have g3 := ge_of cr cb
  have g4 := le_of cr ce
  have H := HR.out
  clear HR ca cb cc ce cp cr hi hj hd h
  generalize ge32 (coordF i d) (axF A).lo = b1 at *
  generalize le32 (coordF i d) (axF A).hi = b2 at *
  generalize ge32 (coordF j d) (axF B).lo = b3 at *
  generalize le32 (coordF j d) (axF B).hi = b4 at *
  have P3 := P2.drewN (m1 + m2)
  clear P2
  have HH : Hid _ := H
  clear H
  cases b1 with
  | false =>
    go_wp2
    go_ret2
    exact ⟨by rw [← HH.out]; rfl, P3⟩
  | true =>
    cases b2 with
    | false =>
      go_wp2
      go_ret2
      exact ⟨by rw [← HH.out]; rfl, P3⟩
    | true =>
      cases b3 with
      | false =>
        go_wp2
        go_ret2
        exact ⟨by rw [← HH.out]; rfl, P3⟩
      | true =>
        go_wp2
        go_ret2
        exact ⟨by rw [← HH.out]; rfl, P3⟩
theorem mbInside_any (w : World) (q : Nat) (L A B : List Nat) (h : BM w q L A B) (len : B.length = A.length) (fx : Fits A) (fy : Fits B) (i j d : Int) (hi : i64 i) (hj : i64 j) (hd : i64 d) :
    Calls Try.prog 83 #[ptr q, I i, I j, I d] w fun e w' => e = .returned (.tuple #[.bool (insideA A B i j d).1, I (insideA A B i j d).2]) ∧ BPost q L w A B w' := by
  unfold insideA
  by_cases hA : A = []
  · rw [if_pos hA]; exact mbInside_none w q L A B h hA i j d
  · rw [if_neg hA]; exact mbInside_some w q L A B h hA len fx fy i j d hi hj hd _ rfl

set_option maxHeartbeats 1000000 in
theorem mbClamp_none (w : World) (q : Nat) (L A B : List Nat) (h : BM w q L A B) (hA : A = []) (i j d : Int) :
    Calls Try.prog 84 #[ptr q, I i, I j, I d] w fun e w' => e = .returned (.tuple #[D32 0, D32 0, I 2]) ∧ BPost q L w A B w' := by
  obtain ⟨qx, qy, ox, oy, h, rfl⟩ := h
  obtain ⟨c0, c1, lq⟩ := h.at0
  have ML := ma_len w qx ox A h.mx
  rw [show A.length = 0 from by rw [hA]; rfl] at ML
  clear hA
  go_enter Try.func84, Try.ntmps84
  go_wp2_with fail
  refine ML.mono ?_
  rintro e w1 ⟨rfl, m1⟩
  obtain ⟨ox1, h1, n1, u1⟩ := h.stepX m1
  go_wp2
  go_ret3
  exact ⟨rfl, _, ⟨qx, qy, ox1, oy, h1, rfl⟩, n1, u1⟩
set_option maxHeartbeats 2000000 in
theorem mbClamp_some (w : World) (q : Nat) (L A B : List Nat) (h : BM w q L A B) (hA : A ≠ []) (len : B.length = A.length) (fx : Fits A) (fy : Fits B) (i j d : Int) (hi : i64 i) (hj : i64 j) (hd : i64 d) :
    Calls Try.prog 84 #[ptr q, I i, I j, I d] w fun e w' => ∃ u v, e = .returned (.tuple #[D32 u, D32 v, I 0]) ∧ can32 u = clampF (coordF i d) (axF A).lo (axF A).hi ∧ can32 v = clampF (coordF j d) (axF B).lo (axF B).hi ∧ BPost q L w A B w' := by
  have F := fun V L' hV => four_any V q L' A B hV hA len fx fy
  obtain ⟨qx, qy, ox, oy, h, rfl⟩ := h
  obtain ⟨c0, c1, lq⟩ := h.at0
  have ML := ma_len w qx ox A h.mx
  have hz := len_ne hA
  clear hA len fx fy
  go_enter Try.func84, Try.ntmps84
  go_wp2_with fail
  refine ML.mono ?_
  rintro e w1 ⟨rfl, m1⟩
  obtain ⟨ox1, h1, n1, u1⟩ := h.stepX m1
  clear c0 c1 lq ML m1
  go_wp2_with fail
  refine (F _ _ ⟨qx, qy, ox1, oy, h1, rfl⟩).mono ?_
  rintro e w2 ⟨a, b, c, e, rfl, ca, cb, cc, ce, L2, h2, n2, u2⟩
  have P2 : BPost q (mOwn q qx qy ox oy) w A B w2 := .trans n1 u1 ⟨L2, h2, n2, u2⟩
  clear F h1 n1 u1 h2 n2 u2
  go_wp2_with fail
  refine (mCoord_any i d hi hd _).mono ?_
  rintro _ _ ⟨p, m1, rfl, cp, rfl⟩
  go_wp2_with fail
  refine (mCoord_any j d hj hd _).mono ?_
  rintro _ _ ⟨r, m2, rfl, cr, rfl⟩
  go_wp2_with fail
  refine (mClamp_any _ _ _ _).mono ?_
  rintro _ _ ⟨rfl, rfl⟩
  go_wp2_with fail
  refine (mClamp_any _ _ _ _).mono ?_
  rintro _ _ ⟨rfl, rfl⟩
  go_wp2
  go_ret3
  exact ⟨_, _, rfl, by rw [clampF_can, cp, ca, cc], by rw [clampF_can, cr, cb, ce], P2.drewN (m1 + m2)⟩
theorem mbClamp_any (w : World) (q : Nat) (L A B : List Nat) (h : BM w q L A B) (len : B.length = A.length) (fx : Fits A) (fy : Fits B) (i j d : Int) (hi : i64 i) (hj : i64 j) (hd : i64 d) :
    Calls Try.prog 84 #[ptr q, I i, I j, I d] w fun e w' => ∃ u v, e = .returned (.tuple #[D32 u, D32 v, I (clampA A B i j d).2]) ∧ can32 u = (clampA A B i j d).1.1 ∧ can32 v = (clampA A B i j d).1.2 ∧ BPost q L w A B w' := by
  unfold clampA
  by_cases hA : A = []
  · rw [if_pos hA]
    refine (mbClamp_none w q L A B h hA i j d).mono ?_
    rintro e w' ⟨rfl, p⟩
    exact ⟨0, 0, rfl, can32_zero, can32_zero, p⟩
  · rw [if_neg hA]; exact mbClamp_some w q L A B h hA len fx fy i j d hi hj hd

set_option maxHeartbeats 1000000 in
theorem mbAlong_none (w : World) (q : Nat) (L A B : List Nat) (h : BM w q L A B) (hA : A = []) (i d : Int) :
    Calls Try.prog 85 #[ptr q, I i, I d] w fun e w' => e = .returned (.tuple #[D32 0, D32 0, I 2]) ∧ BPost q L w A B w' := by
  obtain ⟨qx, qy, ox, oy, h, rfl⟩ := h
  obtain ⟨c0, c1, lq⟩ := h.at0
  have ML := ma_len w qx ox A h.mx
  rw [show A.length = 0 from by rw [hA]; rfl] at ML
  clear hA
  go_enter Try.func85, Try.ntmps85
  go_wp2_with fail
  refine ML.mono ?_
  rintro e w1 ⟨rfl, m1⟩
  obtain ⟨ox1, h1, n1, u1⟩ := h.stepX m1
  go_wp2
  go_ret3
  exact ⟨rfl, _, ⟨qx, qy, ox1, oy, h1, rfl⟩, n1, u1⟩
set_option maxHeartbeats 2000000 in
theorem mbAlong_some (w : World) (q : Nat) (L A B : List Nat) (h : BM w q L A B) (hA : A ≠ []) (len : B.length = A.length) (fx : Fits A) (fy : Fits B) (i d : Int) (hi : i64 i) (hd : i64 d) :
    Calls Try.prog 85 #[ptr q, I i, I d] w fun e w' => ∃ u v, e = .returned (.tuple #[D32 u, D32 v, I 0]) ∧ can32 u = lerpF (coordF i d) (axF A).lo (axF A).hi ∧ can32 v = lerpF (coordF i d) (axF B).lo (axF B).hi ∧ BPost q L w A B w' := by
  have F := fun V L' hV => four_any V q L' A B hV hA len fx fy
  obtain ⟨ra, na, ha, Ca⟩ := arith_ex Try.prog .add 35 .f32 (by simp)
  obtain ⟨rs, ns, hs, Cs⟩ := arith_ex Try.prog .sub 35 .f32 (by simp)
  obtain ⟨rm, nm, hm, Cm⟩ := arith_ex Try.prog .mul 35 .f32 (by simp)
  obtain ⟨qx, qy, ox, oy, h, rfl⟩ := h
  obtain ⟨c0, c1, lq⟩ := h.at0
  have ML := ma_len w qx ox A h.mx
  have hz := len_ne hA
  clear hA len fx fy
  go_enter Try.func85, Try.ntmps85
  go_wp2_with fail
  refine ML.mono ?_
  rintro e w1 ⟨rfl, m1⟩
  obtain ⟨ox1, h1, n1, u1⟩ := h.stepX m1
  clear c0 c1 lq ML m1
  go_wp2_with fail
  refine (F _ _ ⟨qx, qy, ox1, oy, h1, rfl⟩).mono ?_
  rintro e w2 ⟨a, b, c, e, rfl, ca, cb, cc, ce, L2, h2, n2, u2⟩
  have P2 : BPost q (mOwn q qx qy ox oy) w A B w2 := .trans n1 u1 ⟨L2, h2, n2, u2⟩
  clear F h1 n1 u1 h2 n2 u2
  go_wp2_with fail
  refine (mCoord_any i d hi hd _).mono ?_
  rintro _ _ ⟨p, m1, rfl, cp, rfl⟩
  go_wp2
  go_ret3
  refine ⟨_, _, rfl, ?_, ?_, P2.drewN _⟩
  · refine (Ca.out _ _ _).trans ?_
    rw [Cm.out, Cm.out, Cs.out, show can .f32 p = _ from cp, show can .f32 a = _ from ca, show can .f32 c = _ from cc]
    rfl
  · refine (Ca.out _ _ _).trans ?_
    rw [Cm.out, Cm.out, Cs.out, show can .f32 p = _ from cp, show can .f32 b = _ from cb, show can .f32 e = _ from ce]
    rfl
theorem mbAlong_any (w : World) (q : Nat) (L A B : List Nat) (h : BM w q L A B) (len : B.length = A.length) (fx : Fits A) (fy : Fits B) (i d : Int) (hi : i64 i) (hd : i64 d) :
    Calls Try.prog 85 #[ptr q, I i, I d] w fun e w' => ∃ u v, e = .returned (.tuple #[D32 u, D32 v, I (alongA A B i d).2]) ∧ can32 u = (alongA A B i d).1.1 ∧ can32 v = (alongA A B i d).1.2 ∧ BPost q L w A B w' := by
  unfold alongA
  by_cases hA : A = []
  · rw [if_pos hA]
    refine (mbAlong_none w q L A B h hA i d).mono ?_
    rintro e w' ⟨rfl, p⟩
    exact ⟨0, 0, rfl, can32_zero, can32_zero, p⟩
  · rw [if_neg hA]; exact mbAlong_some w q L A B h hA len fx fy i d hi hd
end Go.Proofs.Qxb6500472a
