import Derived.Test.Qxb6500472aBx1
namespace Go.Proofs.Qxb6500472a
open Go.RowKit
attribute [local go_sem] run_store_float drewN_alloc drewN_setCell
def five (b px bx py bY : Nat) : List Nat := [b, px, bx, py, bY]

set_option maxHeartbeats 1000000 in
theorem text32_any (x : Nat) (w : World) : Calls Try.prog 48 #[D32 x] w fun e w' => e = .returned (S (text32 (can32 x))) ∧ Below w.heap.size w w' := by
  obtain ⟨rc, nc, hc, cc⟩ := conv64_ex Try.prog 35 80 Try.underlying35 Try.underlying80
  go_enter Try.func48, Try.ntmps48
  go_wp2_with fail
  refine (text_any _ _).mono ?_
  rintro e w1 ⟨rfl, b1⟩
  have ht : text64 (rc x w) = text32 (can32 x) := by rw [← text_can, cc.out]; rfl
  rw [ht]
  go_wp2
  go_ret
  exact ⟨rfl, (Below.drewN (Below.refl _ w) _).trans b1⟩
theorem text32_len (x : Nat) : (str (text32 x)).size ≤ 50 := by rw [str_size]; exact text_len _
/-- Two floats as an answer's text. -/
def pairT (u v : Nat) : List UInt8 := text32 u ++ [32] ++ text32 v
set_option maxHeartbeats 1000000 in
theorem pair_any (u v : Nat) (e : Int) (w : World) :
    Calls Try.prog 38 #[D32 u, D32 v, I e] w fun x w' => x = .returned (AnsV e 0 (pairT (can32 u) (can32 v))) ∧ Below w.heap.size w w' := by
  go_enter Try.func38, Try.ntmps38
  go_wp2_with fail
  refine (text32_any _ _).mono ?_
  rintro x w1 ⟨rfl, b1⟩
  go_wp2_with fail
  refine (text32_any _ _).mono ?_
  rintro x w2 ⟨rfl, b2⟩
  have l1 := text32_len (can32 u)
  have l2 := text32_len (can32 v)
  have T1 : Blk w2 w.heap.size #[I 0, I 0, I 0, S []] 50 := ((Blk.new rfl : Blk (w.alloc _) _ _ _).below b1 (by simp)).below b2 (by have := b1.size; simp at this; omega)
  obtain ⟨t1, t2, t3⟩ := T1.facts
  have hb : Below w.heap.size w w2 := (((Below.refl _ _).alloc (Nat.le_refl _) _).trans (b1.mono (by simp))).trans (b2.mono (by have := b1.size; simp at this; omega))
  go_wp2
  refine ret_row Try.results38 rfl rfl (T1.set (i := 0) _ |>.set (i := 1) _ |>.set (i := 2) _ |>.set (i := 3) _) Try.underlying50 rfl (by kernel_rfl) ⟨?_, ?_⟩
  · show Ending.returned (.agg #[I e, I 0, I 0, .string (str (text32 (can32 u)) ++ str [32] ++ str (text32 (can32 v)))]) = _
    rw [str_append, str_append]
    rfl
  · exact set4_below hb (Nat.le_refl _) _ _ _ _

set_option maxHeartbeats 1000000 in
theorem bLen_any (w : World) (b px bx py bY : Nat) (A B : List Nat) (h : BoxA w b px bx py bY A B) :
    Calls Try.prog 36 #[ptr b] w fun e w' => e = .returned (I A.length) ∧ w' = w := by
  obtain ⟨⟨x, y, r, cx, cy⟩, -⟩ := h
  obtain ⟨c0, c1, c2, c3, c4, c5, c6, c7, c8, c9, c10, fz⟩ := r.cells
  go_enter Try.func36, Try.ntmps36
  go_wp2
  go_ret
  exact ⟨rfl, rfl⟩

set_option maxHeartbeats 4000000 in
theorem bAdd_full (w : World) (b px bx py bY : Nat) (A B : List Nat) (h : BoxA w b px bx py bY A B) (hn : A.length = 8) (i j d : Int) :
    Calls Try.prog 12 #[ptr b, I i, I j, I d] w fun e w' => e = .returned (I 1) ∧ w' = w := by
  obtain ⟨⟨x, y, r, cx, cy⟩, -⟩ := h
  rw [hn] at r
  obtain ⟨c0, c1, c2, c3, c4, c5, c6, c7, c8, c9, c10, fz⟩ := r.cells
  go_enter Try.func12, Try.ntmps12
  go_wp2
  go_ret
  exact ⟨rfl, rfl⟩

set_option maxHeartbeats 4000000 in
theorem bAdd_room (w : World) (b px bx py bY : Nat) (A B : List Nat) (h : BoxA w b px bx py bY A B) (hn : A.length < 8) (i j d : Int) (hi : i64 i) (hj : i64 j) (hd : i64 d) :
    Calls Try.prog 12 #[ptr b, I i, I j, I d] w fun e w' => e = .returned (I 0) ∧ BoxA w' b px bx py bY (A ++ [ratioF i d]) (B ++ [ratioF j d]) ∧ Upd [b, px, bx, py, bY] w w' := by
  obtain ⟨⟨x, y, hbx, cx, cy⟩, sx, sy, len, ap, fx, fy⟩ := h
  have ap0 := ap
  simp only [List.nodup_cons, List.mem_cons, List.not_mem_nil, or_false, not_or] at ap
  obtain ⟨⟨a1, a2, a3, a4⟩, ⟨a5, a6, a7⟩, ⟨a8, a9⟩, a10, -⟩ := ap
  have fx' := fx.push (fit_ratio i d hi hd)
  have fy' := fy.push (fit_ratio j d hj hd)
  have PX := fun V hV => push_all i d V px bx A hV hn
  have PY := fun V hV => push_all j d V py bY B hV (by omega)
  have lA : (A ++ [ratioF i d]).length = A.length + 1 := by simp
  have lB : (B ++ [ratioF j d]).length = A.length + 1 := by simp [len]
  generalize A ++ [ratioF i d] = A' at *
  generalize B ++ [ratioF j d] = B' at *
  clear cx cy fx fy len
  generalize A.length = n at *
  obtain ⟨c0, c1, c2, c3, c4, c5, c6, c7, c8, c9, c10, fz⟩ := hbx.cells
  go_enter Try.func12, Try.ntmps12
  go_wp2_with fail
  refine (PX _ sx).mono ?_
  rintro e w1 ⟨rfl, sx1, u1⟩
  have h1 : BoxR w1 b px py n x y := hbx.upd u1 (by simp; exact ⟨a1, a2⟩)
  have sy1 : SerA w1 py bY B := sy.upd u1 (by simp; exact ⟨fun e => a6 e.symm, fun e => a8 e.symm⟩) (by simp; exact ⟨fun e => a7 e.symm, fun e => a9 e.symm⟩)
  clear c0 c1 c2 c3 c4 c5 c6 c7 c8 c9 c10 fz
  obtain ⟨c0, c1, c2, c3, c4, c5, c6, c7, c8, c9, c10, fz⟩ := h1.cells
  go_wp2_with fail
  refine (PY _ sy1).mono ?_
  rintro e w2 ⟨rfl, sy2, u2⟩
  have h2 : BoxR w2 b px py n x y := h1.upd u2 (by simp; exact ⟨a3, a4⟩)
  have sx2 : SerA w2 px bx A' := sx1.upd u2 (by simp; exact ⟨a6, a7⟩) (by simp; exact ⟨a8, a9⟩)
  clear c0 c1 c2 c3 c4 c5 c6 c7 c8 c9 c10 fz
  obtain ⟨c0, c1, c2, c3, c4, c5, c6, c7, c8, c9, c10, fz⟩ := h2.cells
  go_wp2_with fail
  obtain ⟨w3, e3, h3, u3⟩ := h2.setN (n + 1)
  rw [show (w2.setCell ⟨b, 2, none⟩ (.int .i64 ((n : Int) + 1))) = w3 from e3]
  have sx3 : SerA w3 px bx A' := sx2.upd u3 (by simp; exact fun e => a1 e.symm) (by simp; exact fun e => a2 e.symm)
  have sy3 : SerA w3 py bY B' := sy2.upd u3 (by simp; exact fun e => a3 e.symm) (by simp; exact fun e => a4 e.symm)
  refine (refresh_all w3 b px bx py bY n A' B' x y h3 lA lB sx3 sy3 ap0 fx' fy').mono ?_
  rintro e w4 ⟨rfl, hS, u4⟩
  clear c0 c1 c2 c3 c4 c5 c6 c7 c8 c9 c10 fz
  go_wp2
  go_ret
  exact ⟨rfl, hS, (((u1.mono (by simp)).trans (u2.mono (by simp))).trans (u3.mono (by simp))).trans (u4.mono (by simp))⟩

set_option maxHeartbeats 4000000 in
theorem bDrop_none (w : World) (b px bx py bY : Nat) (h : BoxA w b px bx py bY [] []) :
    Calls Try.prog 35 #[ptr b] w fun e w' => e = .returned (I 2) ∧ w' = w := by
  obtain ⟨⟨x, y, r, cx, cy⟩, -⟩ := h
  obtain ⟨c0, c1, c2, c3, c4, c5, c6, c7, c8, c9, c10, fz⟩ := r.cells
  go_enter Try.func35, Try.ntmps35
  go_wp2
  go_ret
  exact ⟨rfl, rfl⟩

set_option maxHeartbeats 4000000 in
theorem bDrop_some (w : World) (b px bx py bY : Nat) (A B : List Nat) (h : BoxA w b px bx py bY A B) (hn : A ≠ []) :
    Calls Try.prog 35 #[ptr b] w fun e w' => e = .returned (I 0) ∧ BoxA w' b px bx py bY A.dropLast B.dropLast ∧ Upd [b, px, bx, py, bY] w w' := by
  obtain ⟨⟨x, y, hbx, cx, cy⟩, sx, sy, len, ap, fx, fy⟩ := h
  have ap0 := ap
  simp only [List.nodup_cons, List.mem_cons, List.not_mem_nil, or_false, not_or] at ap
  obtain ⟨⟨a1, a2, a3, a4⟩, ⟨a5, a6, a7⟩, ⟨a8, a9⟩, a10, -⟩ := ap
  obtain ⟨n, hA⟩ : ∃ n, A.length = n + 1 := ⟨A.length - 1, by have := List.length_pos_iff.2 hn; omega⟩
  have hl8 := sx.lt.2.2.2
  have hB : B ≠ [] := by intro e; rw [e] at len; simp at len; omega
  have fx' := fx.pop
  have fy' := fy.pop
  have PX := fun V hV => pop_all V px bx A hV hn
  have PY := fun V hV => pop_all V py bY B hV hB
  have lA : A.dropLast.length = n := by simp [hA]
  have lB : B.dropLast.length = n := by simp [len, hA]
  rw [hA] at hbx hl8
  generalize A.dropLast = A' at *
  generalize B.dropLast = B' at *
  clear cx cy fx fy len hA hB hn
  have R : ∀ V, BoxR V b px py n x y → SerA V px bx A' → SerA V py bY B' → Calls Try.prog 28 #[ptr b] V fun e w' => e = .returned (.tuple #[]) ∧ BoxA w' b px bx py bY A' B' ∧ Upd [b] V w' := by
    intro V h1 h2 h3
    cases n with
    | zero =>
      obtain rfl : A' = [] := List.eq_nil_of_length_eq_zero lA
      obtain rfl : B' = [] := List.eq_nil_of_length_eq_zero lB
      exact refresh_none V b px bx py bY x y h1 h2 h3 ap0
    | succ n => exact refresh_all V b px bx py bY n A' B' x y h1 lA lB h2 h3 ap0 fx' fy'
  obtain ⟨c0, c1, c2, c3, c4, c5, c6, c7, c8, c9, c10, fz⟩ := hbx.cells
  go_enter Try.func35, Try.ntmps35
  go_wp2_with fail
  refine (PX _ sx).mono ?_
  rintro e w1 ⟨rfl, sx1, u1⟩
  have h1 : BoxR w1 b px py (n + 1) x y := hbx.upd u1 (by simp; exact ⟨a1, a2⟩)
  have sy1 : SerA w1 py bY B := sy.upd u1 (by simp; exact ⟨fun e => a6 e.symm, fun e => a8 e.symm⟩) (by simp; exact ⟨fun e => a7 e.symm, fun e => a9 e.symm⟩)
  clear c0 c1 c2 c3 c4 c5 c6 c7 c8 c9 c10 fz
  obtain ⟨c0, c1, c2, c3, c4, c5, c6, c7, c8, c9, c10, fz⟩ := h1.cells
  go_wp2_with fail
  refine (PY _ sy1).mono ?_
  rintro e w2 ⟨rfl, sy2, u2⟩
  have h2 : BoxR w2 b px py (n + 1) x y := h1.upd u2 (by simp; exact ⟨a3, a4⟩)
  have sx2 : SerA w2 px bx A' := sx1.upd u2 (by simp; exact ⟨a6, a7⟩) (by simp; exact ⟨a8, a9⟩)
  clear c0 c1 c2 c3 c4 c5 c6 c7 c8 c9 c10 fz
  obtain ⟨c0, c1, c2, c3, c4, c5, c6, c7, c8, c9, c10, fz⟩ := h2.cells
  go_wp2_with fail
  obtain ⟨w3, e3, h3, u3⟩ := h2.setN n
  have sx3 : SerA w3 px bx A' := sx2.upd u3 (by simp; exact fun e => a1 e.symm) (by simp; exact fun e => a2 e.symm)
  have sy3 : SerA w3 py bY B' := sy2.upd u3 (by simp; exact fun e => a3 e.symm) (by simp; exact fun e => a4 e.symm)
  have e3' : w2.setCell ⟨b, 2, none⟩ (.int .i64 (((n + 1 : Nat) : Int) - 1)) = w3 := by
    rw [← e3]; congr 2; omega
  first | rw [e3'] | (rw [show w2.setCell ⟨b, 2, none⟩ (.int .i64 (n : Int)) = w3 from e3])
  refine (R w3 h3 sx3 sy3).mono ?_
  rintro e w4 ⟨rfl, hS, u4⟩
  clear c0 c1 c2 c3 c4 c5 c6 c7 c8 c9 c10 fz
  go_wp2
  go_ret
  exact ⟨rfl, hS, (((u1.mono (by simp)).trans (u2.mono (by simp))).trans (u3.mono (by simp))).trans (u4.mono (by simp))⟩
end Go.Proofs.Qxb6500472a
