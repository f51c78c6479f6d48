import Derived.Test.Qxb6500472aBm4
namespace Go.Proofs.Qxb6500472a
open Go.RowKit
attribute [local go_sem] run_store_float drewN_alloc drewN_setCell
/-- Behind a call on the real box. -/
def RPost (b px bx py bY : Nat) (w : World) (A B : List Nat) (w' : World) : Prop := BoxA w' b px bx py bY A B ∧ Upd [b, px, bx, py, bY] w w'
theorem RPost.of_below {w w' : World} {b px bx py bY : Nat} {A B : List Nat} (h : BoxA w b px bx py bY A B) (u : Below w.heap.size w w') : RPost b px bx py bY w A B w' := ⟨h.later u, Upd.of_below u⟩
theorem RPost.refl {w : World} {b px bx py bY : Nat} {A B : List Nat} (h : BoxA w b px bx py bY A B) : RPost b px bx py bY w A B w := ⟨h, Upd.refl _ _⟩
theorem RPost.later {w w1 w2 : World} {b px bx py bY : Nat} {A B : List Nat} (p : RPost b px bx py bY w A B w1) (u : Below w1.heap.size w1 w2) : RPost b px bx py bY w A B w2 := ⟨p.1.later u, p.2.trans (Upd.of_below u)⟩
/-- What a step answers, and the points behind it. -/
def doB (K a b c : Int) (A B : List Nat) : (Int × Int × List UInt8) × (List Nat × List Nat) :=
  if K = 1 then (if A.length = 8 then ((1, 0, []), (A, B)) else ((0, 0, []), (A ++ [ratioF a c], B ++ [ratioF b c])))
  else if K = 2 then (if A = [] then ((2, 0, []), (A, B)) else ((0, 0, []), (A.dropLast, B.dropLast)))
  else if K = 3 then ((0, A.length, []), (A, B))
  else if K = 4 then (((cornA A B a).2, 0, pairT (cornA A B a).1 0), (A, B))
  else if K = 5 then (((insideA A B a b c).2, if (insideA A B a b c).1 then 1 else 0, []), (A, B))
  else if K = 6 then (((clampA A B a b c).2, 0, pairT (clampA A B a b c).1.1 (clampA A B a b c).1.2), (A, B))
  else if K = 7 then (((alongA A B a b).2, 0, pairT (alongA A B a b).1.1 (alongA A B a b).1.2), (A, B))
  else if K = 8 then (((cellA A B a b c).2, (cellA A B a b c).1, []), (A, B))
  else if K = 9 then ((0, 0, showB A B), (A, B))
  else if K = 10 then ((0, 1, []), (A, B))
  else ((0, 0, []), (A, B))
def DoR (b px bx py bY : Nat) (w : World) (r : (Int × Int × List UInt8) × (List Nat × List Nat)) : Ending → World → Prop := fun x w' => x = .returned (AnsV r.1.1 r.1.2.1 r.1.2.2) ∧ RPost b px bx py bY w r.2.1 r.2.2 w'
theorem dor_pre {w : World} {b px bx py bY : Nat} {A B : List Nat} (h : BoxA w b px bx py bY A B) (o1 o2 : Obj) : BoxA ((w.alloc o1).alloc o2) b px bx py bY A B := h.later (((Below.refl _ _).alloc (Nat.le_refl _) _).alloc (by simp) _)
theorem dor_T {w w1 : World} {b px bx py bY : Nat} {A B C D : List Nat} {o1 : Obj} {cs : Array Value} {t : TypeId} (h : BoxA w b px bx py bY A B) (u : RPost b px bx py bY ((w.alloc o1).alloc (.cells cs t)) C D w1) : Blk w1 (w.heap.size + 1) cs t := by
  refine (Blk.new (World.size_alloc _ _).symm : Blk ((w.alloc o1).alloc (.cells cs t)) _ _ _).upd u.2 ?_
  intro hm
  have := h.lt.1 _ hm
  omega
theorem dor_fin {w w1 : World} {b px bx py bY : Nat} {A B C D : List Nat} {o1 o2 : Obj} (h : BoxA w b px bx py bY A B) (u : RPost b px bx py bY ((w.alloc o1).alloc o2) C D w1) (x y z t : Value) : RPost b px bx py bY w C D (set4 w1 (w.heap.size + 1) x y z t) := by
  refine ⟨u.1.upd (set4_upd (bs := [w.heap.size + 1]) (Upd.refl _ _) (by simp) x y z t) ?_, ?_⟩
  · intro k hk hm
    have := h.lt.1 k hk
    simp only [List.mem_cons, List.not_mem_nil, or_false] at hm
    omega
  · have u0 : Upd [b, px, bx, py, bY] w ((w.alloc o1).alloc o2) := ((Upd.refl _ _).alloc _).alloc _
    exact set4_upd (u0.trans u.2) (Or.inr (by omega)) x y z t
theorem dor_two {w : World} {b px bx py bY : Nat} {A B : List Nat} {o1 o2 : Obj} (h : BoxA w b px bx py bY A B) : RPost b px bx py bY w A B ((w.alloc o1).alloc o2) := ⟨dor_pre h _ _, ((Upd.refl _ _).alloc _).alloc _⟩
theorem r_full (w : World) (b px bx py bY : Nat) (A B : List Nat) (h : BoxA w b px bx py bY A B) (_hl : B.length = A.length) (hn : A.length = 8) (i j d : Int) :
    Calls Try.prog 12 #[ptr b, I i, I j, I d] w fun e w' => e = .returned (I 1) ∧ RPost b px bx py bY w A B w' := by
  refine (bAdd_full w b px bx py bY A B h hn i j d).mono ?_
  rintro e w' ⟨rfl, rfl⟩
  exact ⟨rfl, .refl h⟩
theorem r_add (w : World) (b px bx py bY : Nat) (A B : List Nat) (h : BoxA w b px bx py bY A B) (_hl : B.length = A.length) (hn : A.length < 8) (i j d : Int) (hi : i64 i) (hj : i64 j) (hd : i64 d) :
    Calls Try.prog 12 #[ptr b, I i, I j, I d] w fun e w' => e = .returned (I 0) ∧ RPost b px bx py bY w (A ++ [ratioF i d]) (B ++ [ratioF j d]) w' := by
  refine (bAdd_room w b px bx py bY A B h hn i j d hi hj hd).mono ?_
  rintro e w' ⟨rfl, s, u⟩
  exact ⟨rfl, s, u⟩
theorem r_empty (w : World) (b px bx py bY : Nat) (A B : List Nat) (h : BoxA w b px bx py bY A B) (_hl : B.length = A.length) (hn : A = []) :
    Calls Try.prog 35 #[ptr b] w fun e w' => e = .returned (I 2) ∧ RPost b px bx py bY w A B w' := by
  obtain rfl : B = [] := by have := h.len; rw [hn] at this; simpa using this
  subst hn
  refine (bDrop_none w b px bx py bY h).mono ?_
  rintro e w' ⟨rfl, rfl⟩
  exact ⟨rfl, .refl h⟩
theorem r_drop (w : World) (b px bx py bY : Nat) (A B : List Nat) (h : BoxA w b px bx py bY A B) (_hl : B.length = A.length) (hn : A ≠ []) :
    Calls Try.prog 35 #[ptr b] w fun e w' => e = .returned (I 0) ∧ RPost b px bx py bY w A.dropLast B.dropLast w' := by
  refine (bDrop_some w b px bx py bY A B h hn).mono ?_
  rintro e w' ⟨rfl, s, u⟩
  exact ⟨rfl, s, u⟩
theorem r_len (w : World) (b px bx py bY : Nat) (A B : List Nat) (h : BoxA w b px bx py bY A B) :
    Calls Try.prog 36 #[ptr b] w fun e w' => e = .returned (I A.length) ∧ RPost b px bx py bY w A B w' := by
  refine (bLen_any w b px bx py bY A B h).mono ?_
  rintro e w' ⟨rfl, rfl⟩
  exact ⟨rfl, .refl h⟩
theorem r_corner (w : World) (b px bx py bY : Nat) (A B : List Nat) (h : BoxA w b px bx py bY A B) (_hl : B.length = A.length) (_fx : Fits A) (_fy : Fits B) (k : Int) :
    Calls Try.prog 37 #[ptr b, I k] w fun e w' => ∃ v, e = .returned (.tuple #[D32 v, I (cornA A B k).2]) ∧ can32 v = (cornA A B k).1 ∧ RPost b px bx py bY w A B w' := by
  refine (bCorner_any w b px bx py bY A B h k).mono ?_
  rintro e w' ⟨v, rfl, cv, rfl⟩
  exact ⟨v, rfl, cv, .refl h⟩
theorem r_inside (w : World) (b px bx py bY : Nat) (A B : List Nat) (h : BoxA w b px bx py bY A B) (_hl : B.length = A.length) (_fx : Fits A) (_fy : Fits B) (i j d : Int) (hi : i64 i) (hj : i64 j) (hd : i64 d) :
    Calls Try.prog 39 #[ptr b, I i, I j, I d] w fun e w' => e = .returned (.tuple #[.bool (insideA A B i j d).1, I (insideA A B i j d).2]) ∧ RPost b px bx py bY w A B w' := by
  refine (bInside_any w b px bx py bY A B h i j d hi hj hd).mono ?_
  rintro e w' ⟨rfl, u⟩
  exact ⟨rfl, .of_below h u⟩
theorem r_clamp (w : World) (b px bx py bY : Nat) (A B : List Nat) (h : BoxA w b px bx py bY A B) (_hl : B.length = A.length) (_fx : Fits A) (_fy : Fits B) (i j d : Int) (hi : i64 i) (hj : i64 j) (hd : i64 d) :
    Calls Try.prog 15 #[ptr b, I i, I j, I d] w fun e w' => ∃ u v, e = .returned (.tuple #[D32 u, D32 v, I (clampA A B i j d).2]) ∧ can32 u = (clampA A B i j d).1.1 ∧ can32 v = (clampA A B i j d).1.2 ∧ RPost b px bx py bY w A B w' := by
  refine (bClamp_any w b px bx py bY A B h i j d hi hj hd).mono ?_
  rintro e w' ⟨u, v, rfl, cu, cv, z⟩
  exact ⟨u, v, rfl, cu, cv, .of_below h z⟩
theorem r_along (w : World) (b px bx py bY : Nat) (A B : List Nat) (h : BoxA w b px bx py bY A B) (_hl : B.length = A.length) (_fx : Fits A) (_fy : Fits B) (i d : Int) (hi : i64 i) (hd : i64 d) :
    Calls Try.prog 14 #[ptr b, I i, I d] w fun e w' => ∃ u v, e = .returned (.tuple #[D32 u, D32 v, I (alongA A B i d).2]) ∧ can32 u = (alongA A B i d).1.1 ∧ can32 v = (alongA A B i d).1.2 ∧ RPost b px bx py bY w A B w' := by
  refine (bAlong_any w b px bx py bY A B h i d hi hd).mono ?_
  rintro e w' ⟨u, v, rfl, cu, cv, z⟩
  exact ⟨u, v, rfl, cu, cv, .of_below h z⟩
theorem r_cell (w : World) (b px bx py bY : Nat) (A B : List Nat) (h : BoxA w b px bx py bY A B) (_hl : B.length = A.length) (_fx : Fits A) (_fy : Fits B) (i j d : Int) (hi : i64 i) (hj : i64 j) (hd : i64 d) :
    Calls Try.prog 13 #[ptr b, I i, I j, I d] w fun e w' => e = .returned (.tuple #[I (cellA A B i j d).1, I (cellA A B i j d).2]) ∧ RPost b px bx py bY w A B w' := by
  refine (bCell_any w b px bx py bY A B h i j d hi hj hd).mono ?_
  rintro e w' ⟨rfl, u⟩
  exact ⟨rfl, .of_below h u⟩
theorem r_show (w : World) (b px bx py bY : Nat) (A B : List Nat) (h : BoxA w b px bx py bY A B) (_hl : B.length = A.length) (_fx : Fits A) (_fy : Fits B) :
    Calls Try.prog 40 #[ptr b] w fun e w' => e = .returned (S (showB A B)) ∧ RPost b px bx py bY w A B w' := by
  refine (bShow_any w b px bx py bY A B h).mono ?_
  rintro e w' ⟨rfl, u⟩
  exact ⟨rfl, .of_below h u⟩
theorem r_check (w : World) (b px bx py bY : Nat) (A B : List Nat) (h : BoxA w b px bx py bY A B) (_hl : B.length = A.length) (_fx : Fits A) (_fy : Fits B) :
    Calls Try.prog 41 #[ptr b] w fun e w' => e = .returned (.bool true) ∧ RPost b px bx py bY w A B w' := by
  refine (bCheck_any w b px bx py bY A B h).mono ?_
  rintro e w' ⟨rfl, u⟩
  exact ⟨rfl, .of_below h u⟩

set_option maxHeartbeats 1000000 in
theorem dor_full (w : World) (b px bx py bY : Nat) (A B : List Nat) (h : BoxA w b px bx py bY A B) (l : B.length = A.length) (hn : A.length = 8) (a j c : Int) (s t : ByteArray) :
    Calls Try.prog 20 #[ptr b, OpV 1 a j c s t] w (DoR b px bx py bY w ((1, 0, []), (A, B))) := by
  go_enter Try.func20, Try.ntmps20
  go_wp2_with fail
  refine (r_full _ b px bx py bY A B (dor_pre h _ _) l hn a j c).mono ?_
  rintro x w1 ⟨rfl, m1⟩
  have T1 := dor_T h m1
  obtain ⟨t1, t2, t3⟩ := T1.facts
  go_wp2
  refine ret_row Try.results20 rfl rfl (T1.set (i := 0) _ |>.set (i := 1) _ |>.set (i := 2) _ |>.set (i := 3) _) Try.underlying50 rfl (by kernel_rfl) ⟨rfl, dor_fin h m1 _ _ _ _⟩

set_option maxHeartbeats 1000000 in
theorem dor_add (w : World) (b px bx py bY : Nat) (A B : List Nat) (h : BoxA w b px bx py bY A B) (l : B.length = A.length) (hn : A.length < 8) (a j c : Int) (ha : i64 a) (hj : i64 j) (hc : i64 c) (s t : ByteArray) :
    Calls Try.prog 20 #[ptr b, OpV 1 a j c s t] w (DoR b px bx py bY w ((0, 0, []), (A ++ [ratioF a c], B ++ [ratioF j c]))) := by
  go_enter Try.func20, Try.ntmps20
  go_wp2_with fail
  refine (r_add _ b px bx py bY A B (dor_pre h _ _) l hn a j c ha hj hc).mono ?_
  rintro x w1 ⟨rfl, m1⟩
  have T1 := dor_T h m1
  obtain ⟨t1, t2, t3⟩ := T1.facts
  go_wp2
  refine ret_row Try.results20 rfl rfl (T1.set (i := 0) _ |>.set (i := 1) _ |>.set (i := 2) _ |>.set (i := 3) _) Try.underlying50 rfl (by kernel_rfl) ⟨rfl, dor_fin h m1 _ _ _ _⟩

set_option maxHeartbeats 1000000 in
theorem dor_empty (w : World) (b px bx py bY : Nat) (A B : List Nat) (h : BoxA w b px bx py bY A B) (l : B.length = A.length) (hn : A = []) (a j c : Int) (s t : ByteArray) :
    Calls Try.prog 20 #[ptr b, OpV 2 a j c s t] w (DoR b px bx py bY w ((2, 0, []), (A, B))) := by
  go_enter Try.func20, Try.ntmps20
  go_wp2_with fail
  refine (r_empty _ b px bx py bY A B (dor_pre h _ _) l hn).mono ?_
  rintro x w1 ⟨rfl, m1⟩
  have T1 := dor_T h m1
  obtain ⟨t1, t2, t3⟩ := T1.facts
  go_wp2
  refine ret_row Try.results20 rfl rfl (T1.set (i := 0) _ |>.set (i := 1) _ |>.set (i := 2) _ |>.set (i := 3) _) Try.underlying50 rfl (by kernel_rfl) ⟨rfl, dor_fin h m1 _ _ _ _⟩

set_option maxHeartbeats 1000000 in
theorem dor_drop (w : World) (b px bx py bY : Nat) (A B : List Nat) (h : BoxA w b px bx py bY A B) (l : B.length = A.length) (hn : A ≠ []) (a j c : Int) (s t : ByteArray) :
    Calls Try.prog 20 #[ptr b, OpV 2 a j c s t] w (DoR b px bx py bY w ((0, 0, []), (A.dropLast, B.dropLast))) := by
  go_enter Try.func20, Try.ntmps20
  go_wp2_with fail
  refine (r_drop _ b px bx py bY A B (dor_pre h _ _) l hn).mono ?_
  rintro x w1 ⟨rfl, m1⟩
  have T1 := dor_T h m1
  obtain ⟨t1, t2, t3⟩ := T1.facts
  go_wp2
  refine ret_row Try.results20 rfl rfl (T1.set (i := 0) _ |>.set (i := 1) _ |>.set (i := 2) _ |>.set (i := 3) _) Try.underlying50 rfl (by kernel_rfl) ⟨rfl, dor_fin h m1 _ _ _ _⟩

set_option maxHeartbeats 1000000 in
theorem dor_len (w : World) (b px bx py bY : Nat) (A B : List Nat) (h : BoxA w b px bx py bY A B) (a j c : Int) (s t : ByteArray) :
    Calls Try.prog 20 #[ptr b, OpV 3 a j c s t] w (DoR b px bx py bY w ((0, (A.length : Int), []), (A, B))) := by
  go_enter Try.func20, Try.ntmps20
  go_wp2_with fail
  refine (r_len _ b px bx py bY A B (dor_pre h _ _)).mono ?_
  rintro x w1 ⟨rfl, m1⟩
  have T1 := dor_T h m1
  obtain ⟨t1, t2, t3⟩ := T1.facts
  go_wp2
  refine ret_row Try.results20 rfl rfl (T1.set (i := 0) _ |>.set (i := 1) _ |>.set (i := 2) _ |>.set (i := 3) _) Try.underlying50 rfl (by kernel_rfl) ⟨rfl, dor_fin h m1 _ _ _ _⟩

set_option maxHeartbeats 1000000 in
theorem dor_corner (w : World) (b px bx py bY : Nat) (A B : List Nat) (h : BoxA w b px bx py bY A B) (l : B.length = A.length) (fx : Fits A) (fy : Fits B) (a j c : Int) (X : Nat) (E : Int) (HE : Hid (cornA A B a = (X, E))) (s t : ByteArray) :
    Calls Try.prog 20 #[ptr b, OpV 4 a j c s t] w (DoR b px bx py bY w ((E, 0, pairT X 0), (A, B))) := by
  have hW := fun V hs => r_corner V b px bx py bY A B hs l fx fy a
  rw [HE.out] at hW
  go_enter Try.func20, Try.ntmps20
  go_wp2_with fail
  refine (hW _ (dor_pre h _ _)).mono ?_
  rintro x w0 ⟨v, rfl, cv0, m0⟩
  have cv : Hid _ := cv0
  clear cv0
  go_wp2_with fail
  refine (pair_any _ _ _ _).mono ?_
  rintro x w1 ⟨rfl, b1⟩
  have m1 := m0.later b1
  clear m0 b1
  have T1 := dor_T h m1
  obtain ⟨t1, t2, t3⟩ := T1.facts
  go_wp2
  refine ret_row Try.results20 rfl rfl (T1.set (i := 0) _ |>.set (i := 1) _ |>.set (i := 2) _ |>.set (i := 3) _) Try.underlying50 rfl (by kernel_rfl) ⟨by rw [show can32 v = X from cv.out, can32_zero]; rfl, dor_fin h m1 _ _ _ _⟩

set_option maxHeartbeats 1000000 in
theorem dor_in1 (w : World) (b px bx py bY : Nat) (A B : List Nat) (h : BoxA w b px bx py bY A B) (l : B.length = A.length) (fx : Fits A) (fy : Fits B) (a j c : Int) (ha : i64 a) (hj : i64 j) (hc : i64 c) (E : Int) (HE : Hid (insideA A B a j c = (true, E))) (s t : ByteArray) :
    Calls Try.prog 20 #[ptr b, OpV 5 a j c s t] w (DoR b px bx py bY w ((E, 1, []), (A, B))) := by
  have hW := fun V hs => r_inside V b px bx py bY A B hs l fx fy a j c ha hj hc
  rw [HE.out] at hW
  go_enter Try.func20, Try.ntmps20
  go_wp2_with fail
  refine (hW _ (dor_pre h _ _)).mono ?_
  rintro x w1 ⟨rfl, m1⟩
  have T1 := dor_T h m1
  obtain ⟨t1, t2, t3⟩ := T1.facts
  go_wp2
  refine ret_row Try.results20 rfl rfl (T1.set (i := 0) _ |>.set (i := 1) _ |>.set (i := 2) _ |>.set (i := 3) _) Try.underlying50 rfl (by kernel_rfl) ⟨rfl, dor_fin h m1 _ _ _ _⟩

set_option maxHeartbeats 1000000 in
theorem dor_in0 (w : World) (b px bx py bY : Nat) (A B : List Nat) (h : BoxA w b px bx py bY A B) (l : B.length = A.length) (fx : Fits A) (fy : Fits B) (a j c : Int) (ha : i64 a) (hj : i64 j) (hc : i64 c) (E : Int) (HE : Hid (insideA A B a j c = (false, E))) (s t : ByteArray) :
    Calls Try.prog 20 #[ptr b, OpV 5 a j c s t] w (DoR b px bx py bY w ((E, 0, []), (A, B))) := by
  have hW := fun V hs => r_inside V b px bx py bY A B hs l fx fy a j c ha hj hc
  rw [HE.out] at hW
  go_enter Try.func20, Try.ntmps20
  go_wp2_with fail
  refine (hW _ (dor_pre h _ _)).mono ?_
  rintro x w1 ⟨rfl, m1⟩
  have T1 := dor_T h m1
  obtain ⟨t1, t2, t3⟩ := T1.facts
  go_wp2
  refine ret_row Try.results20 rfl rfl (T1.set (i := 0) _ |>.set (i := 1) _ |>.set (i := 2) _ |>.set (i := 3) _) Try.underlying50 rfl (by kernel_rfl) ⟨rfl, dor_fin h m1 _ _ _ _⟩

set_option maxHeartbeats 1000000 in
theorem dor_clamp (w : World) (b px bx py bY : Nat) (A B : List Nat) (h : BoxA w b px bx py bY A B) (l : B.length = A.length) (fx : Fits A) (fy : Fits B) (a j c : Int) (ha : i64 a) (hj : i64 j) (hc : i64 c) (X Y : Nat) (E : Int) (HE : Hid (clampA A B a j c = ((X, Y), E))) (s t : ByteArray) :
    Calls Try.prog 20 #[ptr b, OpV 6 a j c s t] w (DoR b px bx py bY w ((E, 0, pairT X Y), (A, B))) := by
  have hW := fun V hs => r_clamp V b px bx py bY A B hs l fx fy a j c ha hj hc
  rw [HE.out] at hW
  go_enter Try.func20, Try.ntmps20
  go_wp2_with fail
  refine (hW _ (dor_pre h _ _)).mono ?_
  rintro x w0 ⟨u, v, rfl, cu0, cv0, m0⟩
  have cv : Hid _ := cv0
  have cu : Hid _ := cu0
  clear cv0 cu0
  go_wp2_with fail
  refine (pair_any _ _ _ _).mono ?_
  rintro x w1 ⟨rfl, b1⟩
  have m1 := m0.later b1
  clear m0 b1
  have T1 := dor_T h m1
  obtain ⟨t1, t2, t3⟩ := T1.facts
  go_wp2
  refine ret_row Try.results20 rfl rfl (T1.set (i := 0) _ |>.set (i := 1) _ |>.set (i := 2) _ |>.set (i := 3) _) Try.underlying50 rfl (by kernel_rfl) ⟨by rw [show can32 u = X from cu.out, show can32 v = Y from cv.out]; rfl, dor_fin h m1 _ _ _ _⟩

set_option maxHeartbeats 1000000 in
theorem dor_along (w : World) (b px bx py bY : Nat) (A B : List Nat) (h : BoxA w b px bx py bY A B) (l : B.length = A.length) (fx : Fits A) (fy : Fits B) (a j c : Int) (ha : i64 a) (hj : i64 j) (X Y : Nat) (E : Int) (HE : Hid (alongA A B a j = ((X, Y), E))) (s t : ByteArray) :
    Calls Try.prog 20 #[ptr b, OpV 7 a j c s t] w (DoR b px bx py bY w ((E, 0, pairT X Y), (A, B))) := by
  have hW := fun V hs => r_along V b px bx py bY A B hs l fx fy a j ha hj
  rw [HE.out] at hW
  go_enter Try.func20, Try.ntmps20
  go_wp2_with fail
  refine (hW _ (dor_pre h _ _)).mono ?_
  rintro x w0 ⟨u, v, rfl, cu0, cv0, m0⟩
  have cv : Hid _ := cv0
  have cu : Hid _ := cu0
  clear cv0 cu0
  go_wp2_with fail
  refine (pair_any _ _ _ _).mono ?_
  rintro x w1 ⟨rfl, b1⟩
  have m1 := m0.later b1
  clear m0 b1
  have T1 := dor_T h m1
  obtain ⟨t1, t2, t3⟩ := T1.facts
  go_wp2
  refine ret_row Try.results20 rfl rfl (T1.set (i := 0) _ |>.set (i := 1) _ |>.set (i := 2) _ |>.set (i := 3) _) Try.underlying50 rfl (by kernel_rfl) ⟨by rw [show can32 u = X from cu.out, show can32 v = Y from cv.out]; rfl, dor_fin h m1 _ _ _ _⟩

set_option maxHeartbeats 1000000 in
theorem dor_cell (w : World) (b px bx py bY : Nat) (A B : List Nat) (h : BoxA w b px bx py bY A B) (l : B.length = A.length) (fx : Fits A) (fy : Fits B) (a j c : Int) (ha : i64 a) (hj : i64 j) (hc : i64 c) (N E : Int) (HE : Hid (cellA A B a j c = (N, E))) (s t : ByteArray) :
    Calls Try.prog 20 #[ptr b, OpV 8 a j c s t] w (DoR b px bx py bY w ((E, N, []), (A, B))) := by
  have hW := fun V hs => r_cell V b px bx py bY A B hs l fx fy a j c ha hj hc
  rw [HE.out] at hW
  go_enter Try.func20, Try.ntmps20
  go_wp2_with fail
  refine (hW _ (dor_pre h _ _)).mono ?_
  rintro x w1 ⟨rfl, m1⟩
  have T1 := dor_T h m1
  obtain ⟨t1, t2, t3⟩ := T1.facts
  go_wp2
  refine ret_row Try.results20 rfl rfl (T1.set (i := 0) _ |>.set (i := 1) _ |>.set (i := 2) _ |>.set (i := 3) _) Try.underlying50 rfl (by kernel_rfl) ⟨rfl, dor_fin h m1 _ _ _ _⟩

set_option maxHeartbeats 1000000 in
theorem dor_show (w : World) (b px bx py bY : Nat) (A B : List Nat) (h : BoxA w b px bx py bY A B) (l : B.length = A.length) (fx : Fits A) (fy : Fits B) (a j c : Int) (s t : ByteArray) :
    Calls Try.prog 20 #[ptr b, OpV 9 a j c s t] w (DoR b px bx py bY w ((0, 0, showB A B), (A, B))) := by
  go_enter Try.func20, Try.ntmps20
  go_wp2_with fail
  refine (r_show _ b px bx py bY A B (dor_pre h _ _) l fx fy).mono ?_
  rintro x w1 ⟨rfl, m1⟩
  have T1 := dor_T h m1
  obtain ⟨t1, t2, t3⟩ := T1.facts
  go_wp2
  refine ret_row Try.results20 rfl rfl (T1.set (i := 0) _ |>.set (i := 1) _ |>.set (i := 2) _ |>.set (i := 3) _) Try.underlying50 rfl (by kernel_rfl) ⟨rfl, dor_fin h m1 _ _ _ _⟩

set_option maxHeartbeats 1000000 in
theorem dor_check (w : World) (b px bx py bY : Nat) (A B : List Nat) (h : BoxA w b px bx py bY A B) (l : B.length = A.length) (fx : Fits A) (fy : Fits B) (a j c : Int) (s t : ByteArray) :
    Calls Try.prog 20 #[ptr b, OpV 10 a j c s t] w (DoR b px bx py bY w ((0, 1, []), (A, B))) := by
  go_enter Try.func20, Try.ntmps20
  go_wp2_with fail
  refine (r_check _ b px bx py bY A B (dor_pre h _ _) l fx fy).mono ?_
  rintro x w1 ⟨rfl, m1⟩
  have T1 := dor_T h m1
  obtain ⟨t1, t2, t3⟩ := T1.facts
  go_wp2
  refine ret_row Try.results20 rfl rfl (T1.set (i := 0) _ |>.set (i := 1) _ |>.set (i := 2) _ |>.set (i := 3) _) Try.underlying50 rfl (by kernel_rfl) ⟨rfl, dor_fin h m1 _ _ _ _⟩

set_option maxHeartbeats 1000000 in
theorem dor_other (w : World) (b px bx py bY : Nat) (A B : List Nat) (h : BoxA w b px bx py bY A B) (K a j c : Int) (k1 : K ≠ 1) (k2 : K ≠ 2) (k3 : K ≠ 3) (k4 : K ≠ 4) (k5 : K ≠ 5) (k6 : K ≠ 6) (k7 : K ≠ 7) (k8 : K ≠ 8) (k9 : K ≠ 9) (k10 : K ≠ 10) (s t : ByteArray) :
    Calls Try.prog 20 #[ptr b, OpV K a j c s t] w (DoR b px bx py bY w ((0, 0, []), (A, B))) := by
  have e1 : (K == 1) = false := by simpa using k1
  have e2 : (K == 2) = false := by simpa using k2
  have e3 : (K == 3) = false := by simpa using k3
  have e4 : (K == 4) = false := by simpa using k4
  have e5 : (K == 5) = false := by simpa using k5
  have e6 : (K == 6) = false := by simpa using k6
  have e7 : (K == 7) = false := by simpa using k7
  have e8 : (K == 8) = false := by simpa using k8
  have e9 : (K == 9) = false := by simpa using k9
  have e10 : (K == 10) = false := by simpa using k10
  clear k1 k2 k3 k4 k5 k6 k7 k8 k9 k10
  go_enter Try.func20, Try.ntmps20
  go_wp2
  refine ret_row Try.results20 rfl rfl (Blk.new (World.size_alloc _ _).symm) Try.underlying50 rfl (by kernel_rfl) ⟨rfl, dor_two h⟩

theorem dor_any (w : World) (b px bx py bY : Nat) (A B : List Nat) (h : BoxA w b px bx py bY A B) (l : B.length = A.length) (fx : Fits A) (fy : Fits B) (h8 : A.length ≤ 8) (K a j c : Int) (ha : i64 a) (hj : i64 j) (hc : i64 c) (s t : ByteArray) :
    Calls Try.prog 20 #[ptr b, OpV K a j c s t] w (DoR b px bx py bY w (doB K a j c A B)) := by
  unfold doB
  by_cases k1 : K = 1
  · subst k1
    rw [if_pos rfl]
    split
    · exact dor_full w b px bx py bY A B h l (by assumption) a j c s t
    · exact dor_add w b px bx py bY A B h l (by omega) a j c ha hj hc s t
  rw [if_neg k1]
  by_cases k2 : K = 2
  · subst k2
    rw [if_pos rfl]
    split
    · exact dor_empty w b px bx py bY A B h l (by assumption) a j c s t
    · exact dor_drop w b px bx py bY A B h l (by assumption) a j c s t
  rw [if_neg k2]
  by_cases k3 : K = 3
  · subst k3
    rw [if_pos rfl]
    exact dor_len w b px bx py bY A B h a j c s t
  rw [if_neg k3]
  by_cases k4 : K = 4
  · subst k4
    rw [if_pos rfl]
    exact dor_corner w b px bx py bY A B h l fx fy a j c _ _ rfl s t
  rw [if_neg k4]
  by_cases k5 : K = 5
  · subst k5
    rw [if_pos rfl]
    rcases hI : insideA A B a j c with ⟨r, E⟩
    cases r
    · exact dor_in0 w b px bx py bY A B h l fx fy a j c ha hj hc E hI s t
    · exact dor_in1 w b px bx py bY A B h l fx fy a j c ha hj hc E hI s t
  rw [if_neg k5]
  by_cases k6 : K = 6
  · subst k6
    rw [if_pos rfl]
    exact dor_clamp w b px bx py bY A B h l fx fy a j c ha hj hc _ _ _ rfl s t
  rw [if_neg k6]
  by_cases k7 : K = 7
  · subst k7
    rw [if_pos rfl]
    exact dor_along w b px bx py bY A B h l fx fy a j c ha hj _ _ _ rfl s t
  rw [if_neg k7]
  by_cases k8 : K = 8
  · subst k8
    rw [if_pos rfl]
    exact dor_cell w b px bx py bY A B h l fx fy a j c ha hj hc _ _ rfl s t
  rw [if_neg k8]
  by_cases k9 : K = 9
  · subst k9
    rw [if_pos rfl]
    exact dor_show w b px bx py bY A B h l fx fy a j c s t
  rw [if_neg k9]
  by_cases k10 : K = 10
  · subst k10
    rw [if_pos rfl]
    exact dor_check w b px bx py bY A B h l fx fy a j c s t
  rw [if_neg k10]
  exact dor_other w b px bx py bY A B h K a j c k1 k2 k3 k4 k5 k6 k7 k8 k9 k10 s t
end Go.Proofs.Qxb6500472a
