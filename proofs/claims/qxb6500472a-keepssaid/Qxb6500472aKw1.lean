import Derived.Test.Qxb6500472aHo1
namespace Go.Proofs.Qxb6500472a
open Go.RowKit
attribute [local go_sem] run_store_float drewN_alloc drewN_setCell
theorem nan_of_can {v V : Nat} (h : can32 v = V) : isNan .f32 v = isNan .f32 V := by rw [← h]; exact (isNan_can .f32 v).symm
theorem eq_of {v u V U : Nat} (h : can32 v = V) (g : can32 u = U) : (FloatKind.f32.format.order v u == some .eq) = eq32 V U := by rw [← h, ← g]; exact (eq32_can v u).symm
theorem lt_of {v u V U : Nat} (h : can32 v = V) (g : can32 u = U) : (FloatKind.f32.format.order v u == some .lt) = lt32 V U := by rw [← h, ← g]; exact (lt32_can v u).symm
theorem gt_of {v u V U : Nat} (h : can32 v = V) (g : can32 u = U) : (FloatKind.f32.format.order v u == some .gt) = gt32 V U := by rw [← h, ← g]; exact (gt32_can v u).symm
theorem ne_of {v u V U : Nat} (h : can32 v = V) (g : can32 u = U) : (FloatKind.f32.format.order v u != some .eq) = !eq32 V U := by rw [← eq_of h g]; rfl
theorem within_can {v lo hi V LO HI : Nat} (h : can32 v = V) (g : can32 lo = LO) (k : can32 hi = HI) : withinF v lo hi = withinF V LO HI := by
  unfold withinF
  rw [nan_of_can h, nan_of_can g, nan_of_can k, ← h, ← g, ← k, le32_can, le32_can]
set_option maxHeartbeats 400000 in
theorem within_any (v lo hi : Nat) (H : withinF v lo hi = true) (w : World) :
    Calls Try.prog 52 #[D32 v, D32 lo, D32 hi] w fun e w' => e = .returned (.bool true) ∧ w' = w := by
  have n1 := ne_selfK .f32 v
  have n2 := ne_selfK .f32 lo
  have n3 := ne_selfK .f32 hi
  unfold withinF le32 ord32 at H
  generalize isNan .f32 v = b1 at *
  generalize isNan .f32 lo = b2 at *
  generalize isNan .f32 hi = b3 at *
  cases b1 with
  | true =>
    clear H n2 n3
    go_enter Try.func52, Try.ntmps52
    go_wp2
    go_ret
    exact ⟨rfl, rfl⟩
  | false =>
    cases b2 with
    | true =>
      clear H n3
      go_enter Try.func52, Try.ntmps52
      go_wp2
      go_ret
      exact ⟨rfl, rfl⟩
    | false =>
      cases b3 with
      | true =>
        clear H
        go_enter Try.func52, Try.ntmps52
        go_wp2
        go_ret
        exact ⟨rfl, rfl⟩
      | false =>
        simp only [Bool.false_or, Bool.and_eq_true] at H
        obtain ⟨h1, h2⟩ := H
        go_enter Try.func52, Try.ntmps52
        go_wp2
        go_ret
        exact ⟨rfl, rfl⟩
def touchI (a b : Bool) : Int := (if a then 1 else 0) + (if b then 4 else 0)
set_option maxHeartbeats 400000 in
theorem touch_any (v lo hi : Nat) (a b : Bool) (ha : (FloatKind.f32.format.order v lo == some .eq) = a) (hb : (FloatKind.f32.format.order v hi == some .eq) = b) (w : World) :
    Calls Try.prog 53 #[D32 v, D32 lo, D32 hi] w fun e w' => e = .returned (I (touchI a b)) ∧ w' = w := by
  cases a <;> cases b
  · go_enter Try.func53, Try.ntmps53
    go_wp2
    go_ret
    exact ⟨rfl, rfl⟩
  · go_enter Try.func53, Try.ntmps53
    go_wp2
    go_ret
    exact ⟨rfl, rfl⟩
  · go_enter Try.func53, Try.ntmps53
    go_wp2
    go_ret
    exact ⟨rfl, rfl⟩
  · go_enter Try.func53, Try.ntmps53
    go_wp2
    go_ret
    exact ⟨rfl, rfl⟩
set_option maxHeartbeats 1000000 in
theorem lCoord_any (n d : Int) (hn : i64 n) (hd : i64 d) (w : World) :
    Calls Try.prog 56 #[I n, I d] w fun e w' => ∃ r m, e = .returned (D32 r) ∧ can32 r = coordF n d ∧ w' = w.drewN m := by
  obtain ⟨rq, nq, hq, cq⟩ := arith_ex Try.prog .quo 80 .f64 (by simp)
  obtain ⟨rc, nc, hc, cc⟩ := conv_ex Try.prog 80 35 Try.underlying80 Try.underlying35
  have hr : ∀ W, can64 (rq (floatOfInt .f64 n) (floatOfInt .f64 d) W) = ratioF n d := fun W => (cq.out _ _ _).trans (by rw [can_ofInt, can_ofInt]; rfl)
  have hf : ∀ W, fits32 (rq (floatOfInt .f64 n) (floatOfInt .f64 d) W) = true := fun W => fit_can (hr W) (fit_ratio n d hn hd)
  have HR : Hid _ := hr
  clear hr hn hd cq
  go_enter Try.func56, Try.ntmps56
  go_wp2
  go_ret
  exact ⟨_, _, rfl, (cc.out _ _).trans (by rw [show can .f64 _ = _ from HR.out _]; rfl), rfl⟩
set_option maxHeartbeats 1000000 in
theorem finite_any (a b A B : Nat) (ha : can32 a = A) (hb : can32 b = B) (w : World) :
    Calls Try.prog 57 #[D32 a, D32 b] w fun e w' => e = .returned (.bool (eq32 (sub32 A A) 0 && eq32 (sub32 B B) 0)) ∧ ∃ m, w' = w.drewN m := by
  obtain ⟨rs, ns, hs, cs⟩ := arith_ex Try.prog .sub 35 .f32 (by simp)
  have e1 : ∀ W, (FloatKind.f32.format.order (rs a a W) 0 == some .eq) = eq32 (sub32 A A) 0 := fun W => eq_of ((cs.out _ _ _).trans (by rw [show can .f32 a = A from ha])) can32_zero
  have e2 : ∀ W, (FloatKind.f32.format.order (rs b b W) 0 == some .eq) = eq32 (sub32 B B) 0 := fun W => eq_of ((cs.out _ _ _).trans (by rw [show can .f32 b = B from hb])) can32_zero
  clear cs ha hb
  generalize eq32 (sub32 A A) 0 = x at *
  generalize eq32 (sub32 B B) 0 = y at *
  cases x <;> cases y
  · go_enter Try.func57, Try.ntmps57
    go_wp2
    go_ret
    exact ⟨rfl, _, rfl⟩
  · go_enter Try.func57, Try.ntmps57
    go_wp2
    go_ret
    exact ⟨rfl, _, rfl⟩
  · go_enter Try.func57, Try.ntmps57
    go_wp2
    go_ret
    exact ⟨rfl, _, rfl⟩
  · go_enter Try.func57, Try.ntmps57
    go_wp2
    go_ret
    exact ⟨rfl, _, rfl⟩
set_option maxHeartbeats 400000 in
theorem pinch_any (v lo hi : Nat) (w : World) :
    Calls Try.prog 78 #[D32 v, D32 lo, D32 hi] w fun e w' => e = .returned (D32 (clampF v lo hi)) ∧ w' = w := by
  unfold clampF lt32 gt32 ord32
  cases h1 : (FloatKind.f32.format.order v lo == some .lt) with
  | true =>
    simp only [if_true]
    go_enter Try.func78, Try.ntmps78
    go_wp2
    go_ret
    exact ⟨rfl, rfl⟩
  | false =>
    cases h2 : (FloatKind.f32.format.order v hi == some .gt) with
    | true =>
      simp only [if_true, Bool.false_eq_true, if_false]
      go_enter Try.func78, Try.ntmps78
      go_wp2
      go_ret
      exact ⟨rfl, rfl⟩
    | false =>
      simp only [Bool.false_eq_true, if_false]
      go_enter Try.func78, Try.ntmps78
      go_wp2
      go_ret
      exact ⟨rfl, rfl⟩
theorem clamp_can {v lo hi V LO HI : Nat} (h : can32 v = V) (g : can32 lo = LO) (k : can32 hi = HI) : can32 (clampF v lo hi) = clampF V LO HI := by
  unfold clampF
  rw [show lt32 v lo = lt32 V LO from lt_of h g, show gt32 v hi = gt32 V HI from gt_of h k]
  split
  · exact g
  · split
    · exact k
    · exact h
def wideB (W : Nat) : Bool := gt32 W 0 && !eq32 (add32 W W) W
set_option maxHeartbeats 2000000 in
theorem owed_any (inn : Bool) (wx wy WX WY : Nat) (hx : can32 wx = WX) (hy : can32 wy = WY) (f : Int) (hf : f = if inn then (if wideB WX && wideB WY then 0 else 6) else 5) (w : World) :
    Calls Try.prog 58 #[.bool inn, D32 wx, D32 wy, I f] w fun e w' => e = .returned (.bool true) ∧ ∃ m, w' = w.drewN m := by
  obtain ⟨ra, na, ha, ca⟩ := arith_ex Try.prog .add 35 .f32 (by simp)
  have e1 : ∀ W, (FloatKind.f32.format.order (ra wx wx W) wx != some .eq) = !eq32 (add32 WX WX) WX := fun W => ne_of ((ca.out _ _ _).trans (by rw [show can .f32 wx = WX from hx])) hx
  have e2 : ∀ W, (FloatKind.f32.format.order (ra wy wy W) wy != some .eq) = !eq32 (add32 WY WY) WY := fun W => ne_of ((ca.out _ _ _).trans (by rw [show can .f32 wy = WY from hy])) hy
  have e3 := gt_of hx can32_zero
  have e4 := gt_of hy can32_zero
  unfold wideB at hf
  clear ca hx hy
  cases inn with
  | false =>
    simp only [Bool.false_eq_true, if_false] at hf
    subst hf
    clear e1 e2 e3 e4
    go_enter Try.func58, Try.ntmps58
    go_wp2
    go_ret
    exact ⟨rfl, 0, rfl⟩
  | true =>
    simp only [if_true] at hf
    generalize gt32 WX 0 = g1 at *
    generalize gt32 WY 0 = g2 at *
    generalize eq32 (add32 WX WX) WX = i1 at *
    generalize eq32 (add32 WY WY) WY = i2 at *
    cases g1 with
    | false =>
      simp only [Bool.false_and, Bool.false_eq_true, if_false] at hf
      subst hf
      clear e1 e2 e4
      go_enter Try.func58, Try.ntmps58
      go_wp2
      go_ret
      exact ⟨rfl, 0, rfl⟩
    | true =>
      cases i1 with
      | true =>
        simp only [Bool.not_true, Bool.and_false, Bool.false_and, Bool.false_eq_true, if_false] at hf
        subst hf
        clear e2 e4
        go_enter Try.func58, Try.ntmps58
        go_wp2
        go_ret
        exact ⟨rfl, _, rfl⟩
      | false =>
        cases g2 with
        | false =>
          simp only [Bool.false_and, Bool.and_false, Bool.false_eq_true, if_false] at hf
          subst hf
          clear e2
          go_enter Try.func58, Try.ntmps58
          go_wp2
          go_ret
          exact ⟨rfl, _, rfl⟩
        | true =>
          cases i2 with
          | true =>
            simp only [Bool.not_true, Bool.and_false, Bool.false_eq_true, if_false] at hf
            subst hf
            go_enter Try.func58, Try.ntmps58
            go_wp2
            go_ret
            exact ⟨rfl, _, rfl⟩
          | false =>
            simp only [Bool.not_false, Bool.and_self, if_true] at hf
            subst hf
            go_enter Try.func58, Try.ntmps58
            go_wp2
            go_ret
            exact ⟨rfl, _, rfl⟩
set_option maxHeartbeats 2000000 in
theorem lPart_any (p lo hi : Nat) (P LO HI : Nat) (hp : can32 p = P) (hlo : can32 lo = LO) (hhi : can32 hi = HI) (hin : partIn (fracF (axOf LO HI) P) = true) (w : World) :
    Calls Try.prog 59 #[D32 p, D32 lo, D32 hi] w fun e w' => e = .returned (I (if (gridI (fracF (axOf LO HI) P)).getD 0 = 4 then 3 else (gridI (fracF (axOf LO HI) P)).getD 0)) ∧ ∃ m, w' = w.drewN m := by
  obtain ⟨rs, ns, hs, cs⟩ := arith_ex Try.prog .sub 35 .f32 (by simp)
  obtain ⟨rq, nq, hq, cq⟩ := arith_ex Try.prog .quo 35 .f32 (by simp)
  obtain ⟨rm, nm, hm, cm⟩ := arith_ex Try.prog .mul 35 .f32 (by simp)
  have hW : ∀ W, can32 (rs hi lo W) = sub32 HI LO := fun W => (cs.out _ _ _).trans (by rw [show can .f32 hi = _ from hhi, show can .f32 lo = _ from hlo])
  have hfr : ∀ W W' W'', can32 (rq (rs p lo W) (rs hi lo W') W'') = fracF (axOf LO HI) P := by
    intro W W' W''
    refine (cq.out _ _ _).trans ?_
    rw [show can .f32 (rs hi lo W') = _ from hW W', show can .f32 (rs p lo W) = _ from cs.out _ _ _, show can .f32 p = _ from hp, show can .f32 lo = _ from hlo]
    rfl
  have Hfr : Hid _ := hfr
  clear hfr hW
  have hge : ∀ W W' W'', (FloatKind.f32.format.order (rq (rs p lo W) (rs hi lo W') W'') 0 == some .gt || FloatKind.f32.format.order (rq (rs p lo W) (rs hi lo W') W'') 0 == some .eq) = ge32 (fracF (axOf LO HI) P) 0 := by
    intro W W' W''
    rw [← Hfr.out W W' W'']
    exact (ge32_can _ 0).symm
  have hle : ∀ W W' W'', (FloatKind.f32.format.order (rq (rs p lo W) (rs hi lo W') W'') one32 == some .lt || FloatKind.f32.format.order (rq (rs p lo W) (rs hi lo W') W'') one32 == some .eq) = le32 (fracF (axOf LO HI) P) one32 := by
    intro W W' W''
    rw [← Hfr.out W W' W'']
    exact (le32_can _ one32).symm
  have hcv : ∀ W W' W'' W3, floatToIntVal .f32 (rm four32 (rq (rs p lo W) (rs hi lo W') W'') W3) .i64 = gridI (fracF (axOf LO HI) P) := by
    intro W W' W'' W3
    rw [← floatToIntVal_can, cm.out]
    show floatToIntVal .f32 (fop .mul .f32 (can .f32 four32) (can32 _)) .i64 = _
    rw [Hfr.out W W' W'']
    rfl
  clear Hfr cs cq cm hp hlo hhi
  have hg := grid_law (fracF (axOf LO HI) P) hin
  generalize fracF (axOf LO HI) P = f at *
  unfold partIn at hin
  rw [Bool.and_eq_true] at hin
  rw [hin.1] at hge
  rw [hin.2] at hle
  obtain ⟨k, hk, h0, h4⟩ := hg
  rw [hk] at hcv ⊢
  simp only [Option.getD_some]
  have hcv2 := fun W W' W'' W3 V => run_convert_float_int (P := Try.prog) V 35 3 .f32 .i64 _ k (by rw [Try.underlying35]; rfl) Try.underlying3 (hcv W W' W'' W3)
  clear hin hk hcv
  by_cases k4 : k = 4
  · subst k4
    rw [if_pos rfl]
    go_enter Try.func59, Try.ntmps59
    go_wp2
    go_ret
    exact ⟨rfl, _, rfl⟩
  · rw [if_neg k4]
    have e4 : (k == 4) = false := by simpa using k4
    go_enter Try.func59, Try.ntmps59
    go_wp2
    go_ret
    exact ⟨rfl, _, rfl⟩
end Go.Proofs.Qxb6500472a
