import Derived.Test.Qxb6500472aFacts2
namespace Go.Proofs.Qxb6500472a
open Go.RowKit
attribute [local go_sem] run_store_float drewN_alloc drewN_setCell

theorem ne32_of {u : Nat} {F G : Nat} (h : can32 u = F) (hg : can32 G = G) (he : eq32 F G = true) : (FloatKind.f32.format.order u G != some .eq) = false := by
  have e : eq32 u G = true := by rw [← eq32_can, h, hg]; exact he
  unfold eq32 ord32 at e
  simp only [bne, e, Bool.not_true]
theorem eq32_of {u : Nat} {F G : Nat} (h : can32 u = F) (hg : can32 G = G) (he : eq32 F G = true) : (FloatKind.f32.format.order u G == some .eq) = true := by
  have e : eq32 u G = true := by rw [← eq32_can, h, hg]; exact he
  exact e

theorem fit1 (n : Int) (h0 : 0 ≤ n) (h : n < 10) : fits32 (ratioF n 1) = true := by
  obtain ⟨m, rfl⟩ := Int.eq_ofNat_of_zero_le h0
  exact fits_all.1 ⟨m, by omega⟩
theorem fit4 (n : Int) (h0 : 0 ≤ n) (h : n < 33) : fits32 (ratioF n 4) = true := by
  obtain ⟨m, rfl⟩ := Int.eq_ofNat_of_zero_le h0
  exact fits_all.2.1 ⟨m, by omega⟩
theorem cell1 (w : World) (b px py : Nat) (x y : Ax) (hx : x.can = AX) (hy : y.can = AY) (h : BoxR w b px py (1 + 1) x y) (k l : Nat) (hk : k < 4) (hl : l < 4) :
    Calls Try.prog 13 #[ptr b, I k, I (2 * (l : Int)), I 1] w fun e w' => e = .returned (.tuple #[I ((l : Int) * 4 + k), I 0]) ∧ Below w.heap.size w w' := by
  have c := cell_any grid_law w b px py 1 x y h k (2 * (l : Int)) 1 (fit1 _ (by omega) (by omega)) (fit1 _ (by omega) (by omega)) (by omega)
  rw [hx, hy, show cellF AX AY (coordF (k : Int) 1) (coordF (2 * (l : Int)) 1) = ((l : Int) * 4 + k, 0) from cells_1 ⟨k, hk⟩ ⟨l, hl⟩] at c
  exact c
theorem cell2 (w : World) (b px py : Nat) (x y : Ax) (hx : x.can = AX) (hy : y.can = AY) (h : BoxR w b px py (1 + 1) x y) (k l : Nat) (hk : k < 4) (hl : l < 4) :
    Calls Try.prog 13 #[ptr b, I (4 * (k : Int) + 3), I (8 * (l : Int) + 6), I 4] w fun e w' => e = .returned (.tuple #[I ((l : Int) * 4 + k), I 0]) ∧ Below w.heap.size w w' := by
  have c := cell_any grid_law w b px py 1 x y h (4 * (k : Int) + 3) (8 * (l : Int) + 6) 4 (fit4 _ (by omega) (by omega)) (fit4 _ (by omega) (by omega)) (by omega)
  rw [hx, hy, show cellF AX AY (coordF (4 * (k : Int) + 3) 4) (coordF (8 * (l : Int) + 6) 4) = ((l : Int) * 4 + k, 0) from cells_2 ⟨k, hk⟩ ⟨l, hl⟩] at c
  exact c
theorem cell3 (w : World) (b px py : Nat) (x y : Ax) (hx : x.can = AX) (hy : y.can = AY) (h : BoxR w b px py (1 + 1) x y) :
    Calls Try.prog 13 #[ptr b, I 4, I 8, I 1] w fun e w' => e = .returned (.tuple #[I 15, I 0]) ∧ Below w.heap.size w w' := by
  have c := cell_any grid_law w b px py 1 x y h 4 8 1 (fit1 _ (by omega) (by omega)) (fit1 _ (by omega) (by omega)) (by omega)
  rw [hx, hy, cells_3] at c
  exact c
theorem along1 (w : World) (b px py : Nat) (x y : Ax) (hx : x.can = AX) (hy : y.can = AY) (h : BoxR w b px py (1 + 1) x y) (k : Nat) (hk : k < 4) :
    Calls Try.prog 14 #[ptr b, I k, I 4] w fun e w' => ∃ u v m, e = .returned (.tuple #[D32 u, D32 v, I 0]) ∧ (FloatKind.f32.format.order u (floatOfInt .f32 (k : Int)) != some .eq) = false ∧ (FloatKind.f32.format.order v (floatOfInt .f32 (2 * (k : Int))) != some .eq) = false ∧ w' = w.drewN m := by
  refine (along_any w b px py 1 x y h k 4 (fit4 _ (by omega) (by omega)) (by omega)).mono ?_
  rintro e w' ⟨u, v, m, rfl, cu, cv, rfl⟩
  have e1 : can32 x.lo = AX.lo := by rw [← hx]; rfl
  have e2 : can32 x.hi = AX.hi := by rw [← hx]; rfl
  have e3 : can32 y.lo = AY.lo := by rw [← hy]; rfl
  have e4 : can32 y.hi = AY.hi := by rw [← hy]; rfl
  rw [e1, e2] at cu
  rw [e3, e4] at cv
  obtain ⟨q1, q2⟩ := along_1 ⟨k, hk⟩
  exact ⟨u, v, m, rfl, ne32_of cu (can_ofInt _ _) q1, ne32_of cv (can_ofInt _ _) q2, rfl⟩
theorem clamp1 (w : World) (b px py : Nat) (x y : Ax) (hx : x.can = AX) (hy : y.can = AY) (h : BoxR w b px py (1 + 1) x y) :
    Calls Try.prog 15 #[ptr b, I 9, I (-5), I 1] w fun e w' => ∃ u v m, e = .returned (.tuple #[D32 u, D32 v, I 0]) ∧ (FloatKind.f32.format.order u 1082130432 == some .eq) = true ∧ (FloatKind.f32.format.order v 0 == some .eq) = true ∧ w' = w.drewN m := by
  refine (clamp2_any w b px py 1 x y h 9 (-5) 1 (fit1 _ (by omega) (by omega)) fits_all.2.2 (by omega)).mono ?_
  rintro e w' ⟨u, v, m, rfl, cu, cv, rfl⟩
  have e1 : can32 x.lo = AX.lo := by rw [← hx]; rfl
  have e2 : can32 x.hi = AX.hi := by rw [← hx]; rfl
  have e3 : can32 y.lo = AY.lo := by rw [← hy]; rfl
  have e4 : can32 y.hi = AY.hi := by rw [← hy]; rfl
  rw [e1, e2] at cu
  rw [e3, e4] at cv
  obtain ⟨q1, q2⟩ := clamp_1
  exact ⟨u, v, m, rfl, eq32_of cu (by decide +kernel) q1, eq32_of cv (by decide +kernel) q2, rfl⟩

set_option maxRecDepth 100000 in
set_option maxHeartbeats 8000000 in
theorem facts_walk (w : World) :
    Calls Try.prog 6 #[] w fun e w' => e = .returned (.bool true) ∧ Below w.heap.size w w' := by
  go_enter Try.func6, Try.ntmps6
  go_wp2_with fail
  refine (ground_any _).mono ?_
  rintro e w1 ⟨px, bx, py, bY, rfl, sx, sy, ap, lows, b1⟩
  simp only [List.mem_cons, List.not_mem_nil, or_false, forall_eq_or_imp, forall_eq] at lows
  obtain ⟨o1, o2, o3, o4⟩ := lows
  have hz1 : px < w1.heap.size := sx.head.lt
  have hz2 : bx < w1.heap.size := sx.rows.lt
  have hz3 : py < w1.heap.size := sy.head.lt
  have hz4 : bY < w1.heap.size := sy.rows.lt
  go_wp2_with fail
  have u1 : Upd [] w1 (w1.alloc (.cells #[ptr px, ptr py] 27)) := (Upd.refl _ _).alloc _
  have g1 : Blk (w1.alloc (.cells #[ptr px, ptr py] 27)) w1.heap.size #[ptr px, ptr py] 27 := Blk.new rfl
  refine (boxNew_any px py _).mono ?_
  rintro e w2 ⟨rfl, rfl⟩
  have u2 : Upd [] w1 ((w1.alloc (.cells #[ptr px, ptr py] 27)).alloc (.cells (boxCells px py 0 ax0 ax0) 62)) := u1.alloc _
  have hB : BoxR ((w1.alloc (.cells #[ptr px, ptr py] 27)).alloc (.cells (boxCells px py 0 ax0 ax0) 62)) (w1.heap.size + 1) px py 0 ax0 ax0 := Blk.new (World.size_alloc _ _).symm
  have ap2 : [w1.heap.size + 1, px, bx, py, bY].Nodup := by
    rw [List.nodup_cons]
    refine ⟨?_, ap⟩
    simp
    omega
  have hS : BoxS _ (w1.heap.size + 1) px bx py bY 0 (List.replicate 8 lvl0) (List.replicate 8 lvl0) ax0 ax0 := ⟨hB, sx.upd u2 (by simp) (by simp), sy.upd u2 (by simp) (by simp), ap2⟩
  have bb : Below w.heap.size w ((w1.alloc (.cells #[ptr px, ptr py] 27)).alloc (.cells (boxCells px py 0 ax0 ax0) 62)) := (b1.alloc b1.size _).alloc (by have := b1.size; simp; omega) _
  generalize (w1.alloc (.cells #[ptr px, ptr py] 27)).alloc (.cells (boxCells px py 0 ax0 ax0) 62) = w2 at *
  clear u1 g1 u2 hB sx sy ap b1
  have hw1 : w.heap.size ≤ w1.heap.size + 1 := by omega
  simp only [World.size_alloc]
  generalize w1.heap.size + 1 = b at *
  go_wp2_with fail
  refine (add_any w2 b px bx py bY 0 _ _ _ _ hS (by omega) (fun i hi => absurd hi (by omega)) (fun i hi => absurd hi (by omega)) 0 0 1 (fits_all.1 0) (fits_all.1 0)).mono ?_
  rintro e w3 ⟨rfl, vx0, vy0, x1, y1, hS1, cx0, cy0, cx1, cy1, u3⟩
  have fx : Fit (List.replicate 8 lvl0 |>.set 0 vx0) 1 := Fit.next (n := 0) (fun i hi => absurd hi (by omega)) (by decide) (fits_all.1 0) cx0
  have fy : Fit (List.replicate 8 lvl0 |>.set 0 vy0) 1 := Fit.next (n := 0) (fun i hi => absurd hi (by omega)) (by decide) (fits_all.1 0) cy0
  go_wp2_with fail
  refine (add_any w3 b px bx py bY 1 _ _ _ _ hS1 (by omega) fx fy 4 8 1 (fits_all.1 4) (fits_all.1 8)).mono ?_
  rintro e w4 ⟨rfl, vx1, vy1, x2, y2, hS2, cx2, cy2, cx3, cy3, u4⟩
  have bb4 : Below w.heap.size w w4 := (bb.trans (u3.below (by have := bb.size; omega) (by simp; omega))).trans (u4.below (by have := bb.size; have := u3.size; omega) (by simp; omega))
  have hxc : x2.can = AX := by
    rw [cx3, cx2]
    show spanF (nextL (some (lvAt _ 0).can) (ratioF 4 1)).l (nextL (some (lvAt _ 0).can) (ratioF 4 1)).h = AX
    rw [lvAt_set _ 0 vx0 (by decide), cx0]
    rfl
  have hyc : y2.can = AY := by
    rw [cy3, cy2]
    show spanF (nextL (some (lvAt _ 0).can) (ratioF 8 1)).l (nextL (some (lvAt _ 0).can) (ratioF 8 1)).h = AY
    rw [lvAt_set _ 0 vy0 (by decide), cy0]
    rfl
  have hB : BoxR w4 b px py (1 + 1) x2 y2 := hS2.box
  have Hxc : Hid (x2.can = AX) := hxc
  have Hyc : Hid (y2.can = AY) := hyc
  clear hxc hyc cx0 cy0 cx1 cy1 cx2 cy2 cx3 cy3 u3 u4 hS hS1 hS2 fx fy ap2 bb o1 o2 o3 o4 hz1 hz2 hz3 hz4
  go_wp2_with fail
  go_loopw [3] (fun i wr => ∃ k : Nat, k ≤ 4 ∧ i = I (k : Int) ∧ Below w.heap.size w wr ∧ BoxR wr b px py (1 + 1) x2 y2) (fun i _ => (4 - intOf i).toNat)
  case atStart => exact ⟨0, by omega, rfl, bb4, hB⟩
  case round =>
    obtain ⟨k, hk, rfl, bbr, hBr⟩ := hrel
    by_cases hlt : k < 4
    · have hdk : decide ((k : Int) < 4) = true := by simp; omega
      go_wp2_with fail
      go_loopw [4] (fun j wi => ∃ l : Nat, l ≤ 4 ∧ j = I (l : Int) ∧ Below w.heap.size w wi ∧ BoxR wi b px py (1 + 1) x2 y2) (fun j _ => (4 - intOf j).toNat)
      case atStart => exact ⟨0, by omega, rfl, bbr, hBr⟩
      case round =>
        obtain ⟨l, hl, rfl, bbi, hBi⟩ := hrel
        by_cases hlt2 : l < 4
        · go_wp2_with fail
          refine (cell1 _ b px py x2 y2 Hxc.out Hyc.out hBi k l hlt hlt2).mono ?_
          rintro e v1 ⟨rfl, bv1⟩
          have hBi1 : BoxR v1 b px py (1 + 1) x2 y2 := hBi.below bv1 hBi.lt
          have bbi1 : Below w.heap.size w v1 := bbi.trans (bv1.mono bbi.size)
          clear bv1 hBi bbi
          go_wp2_with fail
          refine (cell2 _ b px py x2 y2 Hxc.out Hyc.out hBi1 k l hlt hlt2).mono ?_
          rintro e v2 ⟨rfl, bv2⟩
          have hBi2 : BoxR v2 b px py (1 + 1) x2 y2 := hBi1.below bv2 hBi1.lt
          have bbi2 : Below w.heap.size w v2 := bbi1.trans (bv2.mono bbi1.size)
          clear bv2 hBi1 bbi1
          go_wp2
          go_roundw
          case rel => first | exact ⟨l + 1, by omega, by go_num, bbi2, hBi2⟩ | ((repeat apply Exists.intro); exact ⟨⟨l + 1, by omega, by go_num, bbi2, hBi2⟩, rfl⟩)
          case measure => simp [intOf]; omega
        · go_wp2_with fail
          refine (along1 _ b px py x2 y2 Hxc.out Hyc.out hBi k hlt).mono ?_
          rintro e v1 ⟨u, v, m, rfl, q1, q2, rfl⟩
          go_wp2
          go_roundw
          case rel => first | exact ⟨k + 1, by omega, by go_num, Below.drewN bbi m, Blk.drewN hBi m⟩ | ((repeat apply Exists.intro); exact ⟨⟨k + 1, by omega, by go_num, Below.drewN bbi m, Blk.drewN hBi m⟩, rfl⟩)
          case measure => simp [intOf]; omega
    · go_wp2_with fail
      refine (cell3 _ b px py x2 y2 Hxc.out Hyc.out hBr).mono ?_
      rintro e v1 ⟨rfl, bv1⟩
      have hBr1 : BoxR v1 b px py (1 + 1) x2 y2 := hBr.below bv1 hBr.lt
      have bbr1 : Below w.heap.size w v1 := bbr.trans (bv1.mono bbr.size)
      clear bv1 hBr bbr
      go_wp2_with fail
      refine (clamp1 _ b px py x2 y2 Hxc.out Hyc.out hBr1).mono ?_
      rintro e v2 ⟨u, v, m, rfl, q1, q2, rfl⟩
      go_wp2
      go_ret
      exact ⟨rfl, Below.drewN bbr1 m⟩
end Go.Proofs.Qxb6500472a
