import Derived.Test.Qxb6500472aBx3
import Derived.Test.Qxb6500472aFloG
import Derived.LaidEqlPtr
namespace Go.Proofs.Qxb6500472a
open Go.RowKit
open Ieee (Format Datum double single)
attribute [local go_sem] run_store_float drewN_alloc drewN_setCell
theorem read_one32 : single.read one32 = .number false 8388608 (-23) := by decide +kernel
theorem inv_some32 (x : Nat) (h : isNan .f32 x = false) : ∃ r, floatBits .quo .f32 one32 x = some r ∧ isNan .f32 r = false := by
  have hs : ∃ r, floatBits .quo .f32 one32 x = some r := by
    have hw : floatBits .quo .f32 one32 x = ((single.read one32).quotient 25 (single.read x)).map single.write := rfl
    rw [hw, read_one32]
    have hx : (single.read x).isNaN = false := h
    cases e : single.read x with
    | nan s t => rw [e] at hx; cases hx
    | infinity s => exact ⟨_, rfl⟩
    | number s m i =>
      simp only [Datum.quotient]
      by_cases hm : m = 0
      · rw [if_pos hm, if_neg (by decide)]; exact ⟨_, rfl⟩
      · rw [if_neg hm]; exact ⟨_, rfl⟩
  obtain ⟨r, hr⟩ := hs
  exact ⟨r, hr, floatBits_num hr⟩
set_option maxHeartbeats 1000000 in
theorem same32_true (a b : Nat) (h : can32 a = can32 b) (w : World) :
    Calls Try.prog 89 #[D32 a, D32 b] w fun e w' => e = .returned (.bool true) ∧ w' = w := by
  have na := ne_selfK .f32 a
  have nb := ne_selfK .f32 b
  rcases can_eq_iff h with rfl | ⟨h1, h2⟩
  · cases hn : isNan .f32 a with
    | true =>
      rw [hn] at na
      clear nb h
      go_enter Try.func89, Try.ntmps89
      go_wp2
      go_ret
      exact ⟨rfl, rfl⟩
    | false =>
      rw [hn] at na
      have ea := eq_selfK .f32 a
      rw [hn] at ea
      simp only [Bool.not_false] at ea
      obtain ⟨r, hr, hrn⟩ := inv_some32 a hn
      have q := fun W => run_float_arith (P := Try.prog) W .quo 35 .f32 _ _ _ hr
      have er := eq_selfK .f32 r
      rw [hrn] at er
      simp only [Bool.not_false] at er
      clear hr nb h
      cases hz : (FloatKind.f32.format.order a 0 == some .eq) with
      | true =>
        go_enter Try.func89, Try.ntmps89
        go_wp2
        go_ret
        exact ⟨rfl, rfl⟩
      | false =>
        go_enter Try.func89, Try.ntmps89
        go_wp2
        go_ret
        exact ⟨rfl, rfl⟩
  · rw [h1] at na
    rw [h2] at nb
    clear h1 h2 h
    go_enter Try.func89, Try.ntmps89
    go_wp2
    go_ret
    exact ⟨rfl, rfl⟩

set_option maxHeartbeats 2000000 in
theorem sound_true (a : Ax) (L H : Nat) (hc : a.can = spanF L H) (ho : gt32 (conv32 L) (conv32 H) = false) (hn : isNan .f32 (conv32 L) = isNan .f32 (conv32 H)) (w : World) :
    Calls Try.prog 72 #[a.v] w fun e w' => e = .returned (.bool true) ∧ Below w.heap.size w w' := by
  obtain ⟨lo, hi, wd, wide⟩ := a
  have e1 : can32 lo = conv32 L := congrArg Ax.lo hc
  have e2 : can32 hi = conv32 H := congrArg Ax.hi hc
  have e3 : can32 wd = sub32 (conv32 H) (conv32 L) := congrArg Ax.w hc
  have e4 : wide = !(eq32 (add32 (sub32 (conv32 H) (conv32 L)) (sub32 (conv32 H) (conv32 L))) (sub32 (conv32 H) (conv32 L))) := congrArg Ax.wide hc
  obtain ⟨ra, na, ha, ca⟩ := arith_ex Try.prog .add 35 .f32 (by simp)
  obtain ⟨rs, ns, hs, cs⟩ := arith_ex Try.prog .sub 35 .f32 (by simp)
  have f1 : ∀ W, (FloatKind.f32.format.order (ra wd wd W) wd == some .eq) = !wide := by
    intro W
    have : eq32 (ra wd wd W) wd = !wide := by
      rw [← eq32_can, show can32 (ra wd wd W) = _ from ca.out _ _ _]
      show eq32 (add32 (can32 wd) (can32 wd)) (can32 wd) = _
      rw [e3, e4, Bool.not_not]
    exact this
  have f2 : (FloatKind.f32.format.order lo hi == some .gt) = false := by
    have : gt32 lo hi = false := by rw [← gt32_can, e1, e2]; exact ho
    exact this
  have f3 := ne_selfK .f32 lo
  have f4 := ne_selfK .f32 hi
  have f5 : isNan .f32 hi = isNan .f32 lo := by rw [← isNan_can .f32 hi, ← isNan_can .f32 lo, show can .f32 hi = _ from e2, show can .f32 lo = _ from e1, hn]
  rw [f5] at f4
  generalize isNan .f32 lo = nb at *
  have HS : Hid (∀ W, can32 wd = can32 (rs hi lo W)) := by
    intro W
    rw [show can32 (rs hi lo W) = _ from cs.out _ _ _]
    show _ = sub32 (can32 hi) (can32 lo)
    rw [e1, e2, e3]
  clear ho hn hc e1 e2 e3 e4 f5 ca cs
  simp only [Ax.v]
  go_enter Try.func72, Try.ntmps72
  go_wp2_with fail
  refine (same32_true _ _ (HS.out _) _).mono ?_
  rintro e w1 ⟨rfl, rfl⟩
  cases wide with
  | false =>
    simp only [Bool.not_false] at f1
    go_wp2
    go_ret
    refine ⟨?_, Below.drewN ((Below.refl _ _).alloc (Nat.le_refl _) _) _⟩
    cases nb <;> rfl
  | true =>
    simp only [Bool.not_true] at f1
    go_wp2
    go_ret
    refine ⟨?_, Below.drewN ((Below.refl _ _).alloc (Nat.le_refl _) _) _⟩
    cases nb <;> rfl

/-- The corners of an axis are in order, and both are numbers or neither is. -/
theorem ax_ok (A : List Nat) (hA : A ≠ []) : gt32 (conv32 (minF A)) (conv32 (maxF A)) = false ∧ isNan .f32 (conv32 (minF A)) = isNan .f32 (conv32 (maxF A)) := by
  have e1 : minF A = (levOf A (A.length - 1)).l := by unfold minF; rw [if_neg hA]
  have e2 : maxF A = (levOf A (A.length - 1)).h := by unfold maxF; rw [if_neg hA]
  obtain ⟨n1, n2⟩ := lev_nan A (A.length - 1)
  rw [← e1] at n1
  rw [← e2] at n2
  constructor
  · cases hg : gt32 (conv32 (minF A)) (conv32 (maxF A)) with
    | false => rfl
    | true =>
      exfalso
      obtain ⟨a, b, c⟩ := (gt_iffK .f32 _ _).1 hg
      rw [conv32_nan] at a b
      obtain ⟨k1, k2⟩ := lev_key A (by rw [← n1]; exact a) (A.length - 1)
      rw [← e1] at k1
      rw [← e2] at k2
      have := conv32_mono (minF A) (maxF A) a b (by omega)
      omega
  · rw [conv32_nan, conv32_nan, n1, n2]
theorem sound_ax (a : Ax) (A : List Nat) (hA : A ≠ []) (hc : a.can = axF A) (w : World) :
    Calls Try.prog 72 #[a.v] w fun e w' => e = .returned (.bool true) ∧ Below w.heap.size w w' := by
  obtain ⟨h1, h2⟩ := ax_ok A hA
  unfold axF at hc
  rw [if_neg hA] at hc
  exact sound_true a _ _ hc h1 h2 w
theorem can_zero {x : Nat} (h : can32 x = 0) : x = 0 := by
  cases hn : isNan .f32 x with
  | false => rw [← h]; exact (can_num (k := .f32) hn).symm
  | true => rw [show can32 x = theNan .f32 from can_nan hn] at h; exact absurd h (by decide)

theorem flo_eqIn (W : World) : (Op.equalIn 9999 35 (D32 0) (D32 0)).run Try.prog W = .ok true W := by
  rw [show (9999 : Nat) = 9998 + 1 from rfl, Op.equalIn]
  simp only [Sem.run_bind, run_underlying Try.underlying35, Result.andThen_ok]
  rfl
theorem serInfo : (Try.prog.info? 97).map (·.size) = some 2 := by kernel_rfl
theorem apart_any (w : World) (px bx py bY : Nat) (A B : List Nat) (sx : SerA w px bx A) (sy : SerA w py bY B) (h : px ≠ py) : (binOp .eql 25 (ptr px) (ptr py)).run Try.prog w = .ok (.bool false) w := by
  obtain ⟨j, hj, hs⟩ := Option.map_eq_some_iff.1 serInfo
  obtain ⟨l1, r1, -⟩ := sx
  obtain ⟨l2, r2, -⟩ := sy
  exact run_eql_ptr_other w (a := ⟨px, 0, none⟩) (b := ⟨py, 0, none⟩) Try.underlying25 hj (by rw [hs]; decide) (by intro e; simp only [Addr.mk.injEq] at e; exact h e.1) r1.head r2.head
set_option maxRecDepth 100000 in
set_option maxHeartbeats 2000000 in
theorem bCheck_any (w : World) (b px bx py bY : Nat) (A B : List Nat) (h : BoxA w b px bx py bY A B) :
    Calls Try.prog 41 #[ptr b] w fun e w' => e = .returned (.bool true) ∧ Below w.heap.size w w' := by
  obtain ⟨⟨x, y, r, cx, cy⟩, sx, sy, len, ap, fx, fy⟩ := h
  have hl := sx.lt.2.2.2
  have hne : px ≠ py := by
    simp only [List.nodup_cons, List.mem_cons, List.not_mem_nil, or_false, not_or] at ap
    exact ap.2.1.2.1
  have hq : (binOp .eql 25 (ptr px) (ptr py)).run Try.prog w.drew = .ok (.bool false) w.drew := apart_any w.drew px bx py bY A B (sx.drewN 1) (sy.drewN 1) hne
  have LX := fun V hV => len_all V px bx A hV
  have LY := fun V hV => len_all V py bY B hV
  rw [len] at LY
  by_cases hA : A = []
  · have hB : B = [] := by rw [hA] at len; exact List.eq_nil_of_length_eq_zero len
    have zx : x = ax0 := by
      rw [hA] at cx
      unfold axF at cx
      rw [if_pos rfl] at cx
      obtain ⟨a, b, c, d⟩ := x
      have := can_zero (congrArg Ax.lo cx)
      have := can_zero (congrArg Ax.hi cx)
      have := can_zero (congrArg Ax.w cx)
      have : d = false := congrArg Ax.wide cx
      simp_all [ax0]
    have zy : y = ax0 := by
      rw [hB] at cy
      unfold axF at cy
      rw [if_pos rfl] at cy
      obtain ⟨a, b, c, d⟩ := y
      have := can_zero (congrArg Ax.lo cy)
      have := can_zero (congrArg Ax.hi cy)
      have := can_zero (congrArg Ax.w cy)
      have : d = false := congrArg Ax.wide cy
      simp_all [ax0]
    have lA : A.length = 0 := by rw [hA]; rfl
    rw [lA] at r LX LY
    subst zx zy
    clear cx cy hA hB lA len hl fx fy
    obtain ⟨c0, c1, c2, c3, c4, c5, c6, c7, c8, c9, c10, fz⟩ := r.cells
    simp only [ax0] at c3 c4 c5 c6 c7 c8 c9 c10
    have hz0 := flo_eqIn
    go_enter Try.func41, Try.ntmps41
    go_wp2_with fail
    go_region
    go_wp2_with fail
    refine (LX _ (sx.drewN 1)).mono ?_
    rintro e w1 ⟨rfl, rfl⟩
    go_wp2_with fail
    refine (LY _ (sy.drewN 1)).mono ?_
    rintro e w1 ⟨rfl, rfl⟩
    go_wp2
    go_ret
    exact ⟨rfl, Below.drewN (Below.refl _ _) 1⟩
  · have hB : B ≠ [] := by intro e; rw [e] at len; exact hA (List.eq_nil_of_length_eq_zero len.symm)
    have SX := fun V => sound_ax x A hA cx V
    have SY := fun V => sound_ax y B hB cy V
    obtain ⟨n, hn⟩ : ∃ n, A.length = n + 1 := ⟨A.length - 1, by have := List.length_pos_iff.2 hA; omega⟩
    rw [hn] at r LX LY hl
    simp only [Ax.v] at SX SY
    clear cx cy hA hB hn len fx fy
    obtain ⟨c0, c1, c2, c3, c4, c5, c6, c7, c8, c9, c10, fz⟩ := r.cells
    go_enter Try.func41, Try.ntmps41
    go_wp2_with fail
    go_region
    go_wp2_with fail
    refine (LX _ (sx.drewN 1)).mono ?_
    rintro e w1 ⟨rfl, rfl⟩
    go_wp2_with fail
    refine (LY _ (sy.drewN 1)).mono ?_
    rintro e w1 ⟨rfl, rfl⟩
    go_wp2_with fail
    refine (SX _).mono ?_
    rintro e w1 ⟨rfl, b1⟩
    have h1 : BoxR w1 b px py (n + 1) x y := Blk.below (w := w.drewN 1) r b1 r.lt
    clear c0 c1 c2 c3 c4 c5 c6 c7 c8 c9 c10 fz
    obtain ⟨c0, c1, c2, c3, c4, c5, c6, c7, c8, c9, c10, fz⟩ := h1.cells
    go_wp2_with fail
    refine (SY _).mono ?_
    rintro e w2 ⟨rfl, b2⟩
    go_wp2
    go_ret
    exact ⟨rfl, (Below.drewN (Below.refl _ w) 1).trans (b1.trans (b2.mono b1.size))⟩
end Go.Proofs.Qxb6500472a
