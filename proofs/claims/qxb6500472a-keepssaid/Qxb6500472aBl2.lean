import Derived.Test.Qxb6500472aBl1
namespace Go.Proofs.Qxb6500472a
open Go.RowKit
attribute [local go_sem] run_store_float drewN_alloc drewN_setCell
def DoMR (q : Nat) (L : List Nat) (w : World) (r : (Int × Int × List UInt8) × (List Nat × List Nat)) : Ending → World → Prop := fun x w' => x = .returned (AnsV r.1.1 r.1.2.1 r.1.2.2) ∧ BPost q L w r.2.1 r.2.2 w'
theorem dom_pre {w : World} {q : Nat} {L A B : List Nat} (h : BM w q L A B) (o1 o2 : Obj) : BM ((w.alloc o1).alloc o2) q L A B := h.later (((Below.refl _ _).alloc (Nat.le_refl _) _).alloc (by simp) _)
theorem dom_T {w w1 : World} {q : Nat} {L A B C D : List Nat} {o1 : Obj} {cs : Array Value} {t : TypeId} (h : BM w q L A B) (u : BPost q L ((w.alloc o1).alloc (.cells cs t)) C D w1) : Blk w1 (w.heap.size + 1) cs t := by
  obtain ⟨L', -, -, u⟩ := u
  refine (Blk.new (World.size_alloc _ _).symm : Blk ((w.alloc o1).alloc (.cells cs t)) _ _ _).upd u ?_
  intro hm
  have := h.lt.1 _ hm
  omega
theorem dom_fin {w w1 : World} {q : Nat} {L A B C D : List Nat} {o1 o2 : Obj} (h : BM w q L A B) (u : BPost q L ((w.alloc o1).alloc o2) C D w1) (x y z t : Value) : BPost q L w C D (set4 w1 (w.heap.size + 1) x y z t) := by
  obtain ⟨L', m, n, u⟩ := u
  simp only [World.size_alloc] at n
  refine ⟨L', m.upd (set4_upd (bs := [w.heap.size + 1]) (Upd.refl _ _) (by simp) x y z t) ?_, ?_, ?_⟩
  · intro g hg hm
    simp only [List.mem_cons, List.not_mem_nil, or_false] at hm
    rcases n g hg with k | k
    · have := h.lt.1 g k
      omega
    · omega
  · intro g hg
    rcases n g hg with k | k
    · exact .inl k
    · exact .inr (by omega)
  · have u0 : Upd L w ((w.alloc o1).alloc o2) := ((Upd.refl _ _).alloc _).alloc _
    exact set4_upd (u0.trans u) (Or.inr (by omega)) x y z t
theorem dom_two {w : World} {q : Nat} {L A B : List Nat} {o1 o2 : Obj} (h : BM w q L A B) : BPost q L w A B ((w.alloc o1).alloc o2) := .of_below h (((Below.refl _ _).alloc (Nat.le_refl _) _).alloc (by simp) _)
theorem m_full (w : World) (q : Nat) (L A B : List Nat) (h : BM w q L A B) (_hl : B.length = A.length) (hn : A.length = 8) (i j d : Int) :
    Calls Try.prog 79 #[ptr q, I i, I j, I d] w fun e w' => e = .returned (I 1) ∧ BPost q L w A B w' := mbAdd_full w q L A B h hn i j d
theorem m_add (w : World) (q : Nat) (L A B : List Nat) (h : BM w q L A B) (hl : B.length = A.length) (hn : A.length < 8) (i j d : Int) (_hi : i64 i) (_hj : i64 j) (_hd : i64 d) :
    Calls Try.prog 79 #[ptr q, I i, I j, I d] w fun e w' => e = .returned (I 0) ∧ BPost q L w (A ++ [ratioF i d]) (B ++ [ratioF j d]) w' := mbAdd_room w q L A B h hl hn i j d
theorem m_empty (w : World) (q : Nat) (L A B : List Nat) (h : BM w q L A B) (_hl : B.length = A.length) (hn : A = []) :
    Calls Try.prog 80 #[ptr q] w fun e w' => e = .returned (I 2) ∧ BPost q L w A B w' := mbDrop_none w q L A B h hn
theorem m_drop (w : World) (q : Nat) (L A B : List Nat) (h : BM w q L A B) (hl : B.length = A.length) (hn : A ≠ []) :
    Calls Try.prog 80 #[ptr q] w fun e w' => e = .returned (I 0) ∧ BPost q L w A.dropLast B.dropLast w' := mbDrop_some w q L A B h hl hn

set_option maxHeartbeats 1000000 in
theorem dom_full (w : World) (q : Nat) (L A B : List Nat) (h : BM w q L A B) (l : B.length = A.length) (hn : A.length = 8) (a j c : Int) (s t : ByteArray) :
    Calls Try.prog 61 #[ptr q, OpV 1 a j c s t] w (DoMR q L w ((1, 0, []), (A, B))) := by
  go_enter Try.func61, Try.ntmps61
  go_wp2_with fail
  refine (m_full _ q L A B (dom_pre h _ _) l hn a j c).mono ?_
  rintro x w1 ⟨rfl, m1⟩
  have T1 := dom_T h m1
  obtain ⟨t1, t2, t3⟩ := T1.facts
  go_wp2
  refine ret_row Try.results61 rfl rfl (T1.set (i := 0) _ |>.set (i := 1) _ |>.set (i := 2) _ |>.set (i := 3) _) Try.underlying50 rfl (by kernel_rfl) ⟨rfl, dom_fin h m1 _ _ _ _⟩

set_option maxHeartbeats 1000000 in
theorem dom_add (w : World) (q : Nat) (L A B : List Nat) (h : BM w q L A B) (l : B.length = A.length) (hn : A.length < 8) (a j c : Int) (ha : i64 a) (hj : i64 j) (hc : i64 c) (s t : ByteArray) :
    Calls Try.prog 61 #[ptr q, OpV 1 a j c s t] w (DoMR q L w ((0, 0, []), (A ++ [ratioF a c], B ++ [ratioF j c]))) := by
  go_enter Try.func61, Try.ntmps61
  go_wp2_with fail
  refine (m_add _ q L A B (dom_pre h _ _) l hn a j c ha hj hc).mono ?_
  rintro x w1 ⟨rfl, m1⟩
  have T1 := dom_T h m1
  obtain ⟨t1, t2, t3⟩ := T1.facts
  go_wp2
  refine ret_row Try.results61 rfl rfl (T1.set (i := 0) _ |>.set (i := 1) _ |>.set (i := 2) _ |>.set (i := 3) _) Try.underlying50 rfl (by kernel_rfl) ⟨rfl, dom_fin h m1 _ _ _ _⟩

set_option maxHeartbeats 1000000 in
theorem dom_empty (w : World) (q : Nat) (L A B : List Nat) (h : BM w q L A B) (l : B.length = A.length) (hn : A = []) (a j c : Int) (s t : ByteArray) :
    Calls Try.prog 61 #[ptr q, OpV 2 a j c s t] w (DoMR q L w ((2, 0, []), (A, B))) := by
  go_enter Try.func61, Try.ntmps61
  go_wp2_with fail
  refine (m_empty _ q L A B (dom_pre h _ _) l hn).mono ?_
  rintro x w1 ⟨rfl, m1⟩
  have T1 := dom_T h m1
  obtain ⟨t1, t2, t3⟩ := T1.facts
  go_wp2
  refine ret_row Try.results61 rfl rfl (T1.set (i := 0) _ |>.set (i := 1) _ |>.set (i := 2) _ |>.set (i := 3) _) Try.underlying50 rfl (by kernel_rfl) ⟨rfl, dom_fin h m1 _ _ _ _⟩

set_option maxHeartbeats 1000000 in
theorem dom_drop (w : World) (q : Nat) (L A B : List Nat) (h : BM w q L A B) (l : B.length = A.length) (hn : A ≠ []) (a j c : Int) (s t : ByteArray) :
    Calls Try.prog 61 #[ptr q, OpV 2 a j c s t] w (DoMR q L w ((0, 0, []), (A.dropLast, B.dropLast))) := by
  go_enter Try.func61, Try.ntmps61
  go_wp2_with fail
  refine (m_drop _ q L A B (dom_pre h _ _) l hn).mono ?_
  rintro x w1 ⟨rfl, m1⟩
  have T1 := dom_T h m1
  obtain ⟨t1, t2, t3⟩ := T1.facts
  go_wp2
  refine ret_row Try.results61 rfl rfl (T1.set (i := 0) _ |>.set (i := 1) _ |>.set (i := 2) _ |>.set (i := 3) _) Try.underlying50 rfl (by kernel_rfl) ⟨rfl, dom_fin h m1 _ _ _ _⟩

set_option maxHeartbeats 1000000 in
theorem dom_len (w : World) (q : Nat) (L A B : List Nat) (h : BM w q L A B) (a j c : Int) (s t : ByteArray) :
    Calls Try.prog 61 #[ptr q, OpV 3 a j c s t] w (DoMR q L w ((0, (A.length : Int), []), (A, B))) := by
  go_enter Try.func61, Try.ntmps61
  go_wp2_with fail
  refine (mbLen_any _ q L A B (dom_pre h _ _)).mono ?_
  rintro x w1 ⟨rfl, m1⟩
  have T1 := dom_T h m1
  obtain ⟨t1, t2, t3⟩ := T1.facts
  go_wp2
  refine ret_row Try.results61 rfl rfl (T1.set (i := 0) _ |>.set (i := 1) _ |>.set (i := 2) _ |>.set (i := 3) _) Try.underlying50 rfl (by kernel_rfl) ⟨rfl, dom_fin h m1 _ _ _ _⟩

set_option maxHeartbeats 1000000 in
theorem dom_corner (w : World) (q : Nat) (L A B : List Nat) (h : BM w q L A B) (l : B.length = A.length) (fx : Fits A) (fy : Fits B) (a j c : Int) (X : Nat) (E : Int) (HE : Hid (cornA A B a = (X, E))) (s t : ByteArray) :
    Calls Try.prog 61 #[ptr q, OpV 4 a j c s t] w (DoMR q L w ((E, 0, pairT X 0), (A, B))) := by
  have hW := fun V hs => mbCorner_any V q L A B hs l fx fy a
  rw [HE.out] at hW
  go_enter Try.func61, Try.ntmps61
  go_wp2_with fail
  refine (hW _ (dom_pre h _ _)).mono ?_
  rintro x w0 ⟨v, rfl, cv0, m0⟩
  have cv : Hid _ := cv0
  clear cv0
  go_wp2_with fail
  refine (pair_any _ _ _ _).mono ?_
  rintro x w1 ⟨rfl, b1⟩
  have m1 := m0.later b1
  clear m0 b1
  have T1 := dom_T h m1
  obtain ⟨t1, t2, t3⟩ := T1.facts
  go_wp2
  refine ret_row Try.results61 rfl rfl (T1.set (i := 0) _ |>.set (i := 1) _ |>.set (i := 2) _ |>.set (i := 3) _) Try.underlying50 rfl (by kernel_rfl) ⟨by rw [show can32 v = X from cv.out, can32_zero]; rfl, dom_fin h m1 _ _ _ _⟩

set_option maxHeartbeats 1000000 in
theorem dom_in1 (w : World) (q : Nat) (L A B : List Nat) (h : BM w q L A B) (l : B.length = A.length) (fx : Fits A) (fy : Fits B) (a j c : Int) (ha : i64 a) (hj : i64 j) (hc : i64 c) (E : Int) (HE : Hid (insideA A B a j c = (true, E))) (s t : ByteArray) :
    Calls Try.prog 61 #[ptr q, OpV 5 a j c s t] w (DoMR q L w ((E, 1, []), (A, B))) := by
  have hW := fun V hs => mbInside_any V q L A B hs l fx fy a j c ha hj hc
  rw [HE.out] at hW
  go_enter Try.func61, Try.ntmps61
  go_wp2_with fail
  refine (hW _ (dom_pre h _ _)).mono ?_
  rintro x w1 ⟨rfl, m1⟩
  have T1 := dom_T h m1
  obtain ⟨t1, t2, t3⟩ := T1.facts
  go_wp2
  refine ret_row Try.results61 rfl rfl (T1.set (i := 0) _ |>.set (i := 1) _ |>.set (i := 2) _ |>.set (i := 3) _) Try.underlying50 rfl (by kernel_rfl) ⟨rfl, dom_fin h m1 _ _ _ _⟩

set_option maxHeartbeats 1000000 in
theorem dom_in0 (w : World) (q : Nat) (L A B : List Nat) (h : BM w q L A B) (l : B.length = A.length) (fx : Fits A) (fy : Fits B) (a j c : Int) (ha : i64 a) (hj : i64 j) (hc : i64 c) (E : Int) (HE : Hid (insideA A B a j c = (false, E))) (s t : ByteArray) :
    Calls Try.prog 61 #[ptr q, OpV 5 a j c s t] w (DoMR q L w ((E, 0, []), (A, B))) := by
  have hW := fun V hs => mbInside_any V q L A B hs l fx fy a j c ha hj hc
  rw [HE.out] at hW
  go_enter Try.func61, Try.ntmps61
  go_wp2_with fail
  refine (hW _ (dom_pre h _ _)).mono ?_
  rintro x w1 ⟨rfl, m1⟩
  have T1 := dom_T h m1
  obtain ⟨t1, t2, t3⟩ := T1.facts
  go_wp2
  refine ret_row Try.results61 rfl rfl (T1.set (i := 0) _ |>.set (i := 1) _ |>.set (i := 2) _ |>.set (i := 3) _) Try.underlying50 rfl (by kernel_rfl) ⟨rfl, dom_fin h m1 _ _ _ _⟩

set_option maxHeartbeats 1000000 in
theorem dom_clamp (w : World) (q : Nat) (L A B : List Nat) (h : BM w q L A B) (l : B.length = A.length) (fx : Fits A) (fy : Fits B) (a j c : Int) (ha : i64 a) (hj : i64 j) (hc : i64 c) (X Y : Nat) (E : Int) (HE : Hid (clampA A B a j c = ((X, Y), E))) (s t : ByteArray) :
    Calls Try.prog 61 #[ptr q, OpV 6 a j c s t] w (DoMR q L w ((E, 0, pairT X Y), (A, B))) := by
  have hW := fun V hs => mbClamp_any V q L A B hs l fx fy a j c ha hj hc
  rw [HE.out] at hW
  go_enter Try.func61, Try.ntmps61
  go_wp2_with fail
  refine (hW _ (dom_pre h _ _)).mono ?_
  rintro x w0 ⟨u, v, rfl, cu0, cv0, m0⟩
  have cv : Hid _ := cv0
  have cu : Hid _ := cu0
  clear cv0 cu0
  go_wp2_with fail
  refine (pair_any _ _ _ _).mono ?_
  rintro x w1 ⟨rfl, b1⟩
  have m1 := m0.later b1
  clear m0 b1
  have T1 := dom_T h m1
  obtain ⟨t1, t2, t3⟩ := T1.facts
  go_wp2
  refine ret_row Try.results61 rfl rfl (T1.set (i := 0) _ |>.set (i := 1) _ |>.set (i := 2) _ |>.set (i := 3) _) Try.underlying50 rfl (by kernel_rfl) ⟨by rw [show can32 u = X from cu.out, show can32 v = Y from cv.out]; rfl, dom_fin h m1 _ _ _ _⟩

set_option maxHeartbeats 1000000 in
theorem dom_along (w : World) (q : Nat) (L A B : List Nat) (h : BM w q L A B) (l : B.length = A.length) (fx : Fits A) (fy : Fits B) (a j c : Int) (ha : i64 a) (hj : i64 j) (X Y : Nat) (E : Int) (HE : Hid (alongA A B a j = ((X, Y), E))) (s t : ByteArray) :
    Calls Try.prog 61 #[ptr q, OpV 7 a j c s t] w (DoMR q L w ((E, 0, pairT X Y), (A, B))) := by
  have hW := fun V hs => mbAlong_any V q L A B hs l fx fy a j ha hj
  rw [HE.out] at hW
  go_enter Try.func61, Try.ntmps61
  go_wp2_with fail
  refine (hW _ (dom_pre h _ _)).mono ?_
  rintro x w0 ⟨u, v, rfl, cu0, cv0, m0⟩
  have cv : Hid _ := cv0
  have cu : Hid _ := cu0
  clear cv0 cu0
  go_wp2_with fail
  refine (pair_any _ _ _ _).mono ?_
  rintro x w1 ⟨rfl, b1⟩
  have m1 := m0.later b1
  clear m0 b1
  have T1 := dom_T h m1
  obtain ⟨t1, t2, t3⟩ := T1.facts
  go_wp2
  refine ret_row Try.results61 rfl rfl (T1.set (i := 0) _ |>.set (i := 1) _ |>.set (i := 2) _ |>.set (i := 3) _) Try.underlying50 rfl (by kernel_rfl) ⟨by rw [show can32 u = X from cu.out, show can32 v = Y from cv.out]; rfl, dom_fin h m1 _ _ _ _⟩

set_option maxHeartbeats 1000000 in
theorem dom_cell (w : World) (q : Nat) (L A B : List Nat) (h : BM w q L A B) (l : B.length = A.length) (fx : Fits A) (fy : Fits B) (a j c : Int) (ha : i64 a) (hj : i64 j) (hc : i64 c) (N E : Int) (HE : Hid (cellA A B a j c = (N, E))) (s t : ByteArray) :
    Calls Try.prog 61 #[ptr q, OpV 8 a j c s t] w (DoMR q L w ((E, N, []), (A, B))) := by
  have hW := fun V hs => mbCell_any V q L A B hs l fx fy a j c ha hj hc
  rw [HE.out] at hW
  go_enter Try.func61, Try.ntmps61
  go_wp2_with fail
  refine (hW _ (dom_pre h _ _)).mono ?_
  rintro x w1 ⟨rfl, m1⟩
  have T1 := dom_T h m1
  obtain ⟨t1, t2, t3⟩ := T1.facts
  go_wp2
  refine ret_row Try.results61 rfl rfl (T1.set (i := 0) _ |>.set (i := 1) _ |>.set (i := 2) _ |>.set (i := 3) _) Try.underlying50 rfl (by kernel_rfl) ⟨rfl, dom_fin h m1 _ _ _ _⟩

set_option maxHeartbeats 1000000 in
theorem dom_show (w : World) (q : Nat) (L A B : List Nat) (h : BM w q L A B) (l : B.length = A.length) (fx : Fits A) (fy : Fits B) (a j c : Int) (s t : ByteArray) :
    Calls Try.prog 61 #[ptr q, OpV 9 a j c s t] w (DoMR q L w ((0, 0, showB A B), (A, B))) := by
  go_enter Try.func61, Try.ntmps61
  go_wp2_with fail
  refine (mbShow_any _ q L A B (dom_pre h _ _) l fx fy).mono ?_
  rintro x w1 ⟨rfl, m1⟩
  have T1 := dom_T h m1
  obtain ⟨t1, t2, t3⟩ := T1.facts
  go_wp2
  refine ret_row Try.results61 rfl rfl (T1.set (i := 0) _ |>.set (i := 1) _ |>.set (i := 2) _ |>.set (i := 3) _) Try.underlying50 rfl (by kernel_rfl) ⟨rfl, dom_fin h m1 _ _ _ _⟩

set_option maxHeartbeats 1000000 in
theorem dom_check (w : World) (q : Nat) (L A B : List Nat) (h : BM w q L A B) (a j c : Int) (s t : ByteArray) :
    Calls Try.prog 61 #[ptr q, OpV 10 a j c s t] w (DoMR q L w ((0, 1, []), (A, B))) := by
  go_enter Try.func61, Try.ntmps61
  go_wp2
  refine ret_row Try.results61 rfl rfl (Blk.new (World.size_alloc _ _).symm) Try.underlying50 rfl (by kernel_rfl) ⟨rfl, dom_two h⟩

set_option maxHeartbeats 1000000 in
theorem dom_other (w : World) (q : Nat) (L A B : List Nat) (h : BM w q L A B) (K a j c : Int) (k1 : K ≠ 1) (k2 : K ≠ 2) (k3 : K ≠ 3) (k4 : K ≠ 4) (k5 : K ≠ 5) (k6 : K ≠ 6) (k7 : K ≠ 7) (k8 : K ≠ 8) (k9 : K ≠ 9) (k10 : K ≠ 10) (s t : ByteArray) :
    Calls Try.prog 61 #[ptr q, OpV K a j c s t] w (DoMR q L w ((0, 0, []), (A, B))) := by
  have e1 : (K == 1) = false := by simpa using k1
  have e2 : (K == 2) = false := by simpa using k2
  have e3 : (K == 3) = false := by simpa using k3
  have e4 : (K == 4) = false := by simpa using k4
  have e5 : (K == 5) = false := by simpa using k5
  have e6 : (K == 6) = false := by simpa using k6
  have e7 : (K == 7) = false := by simpa using k7
  have e8 : (K == 8) = false := by simpa using k8
  have e9 : (K == 9) = false := by simpa using k9
  have e10 : (K == 10) = false := by simpa using k10
  clear k1 k2 k3 k4 k5 k6 k7 k8 k9 k10
  go_enter Try.func61, Try.ntmps61
  go_wp2
  refine ret_row Try.results61 rfl rfl (Blk.new (World.size_alloc _ _).symm) Try.underlying50 rfl (by kernel_rfl) ⟨rfl, dom_two h⟩

theorem dom_any (w : World) (q : Nat) (L A B : List Nat) (h : BM w q L A B) (l : B.length = A.length) (fx : Fits A) (fy : Fits B) (h8 : A.length ≤ 8) (K a j c : Int) (ha : i64 a) (hj : i64 j) (hc : i64 c) (s t : ByteArray) :
    Calls Try.prog 61 #[ptr q, OpV K a j c s t] w (DoMR q L w (doB K a j c A B)) := by
  unfold doB
  by_cases k1 : K = 1
  · subst k1
    rw [if_pos rfl]
    split
    · exact dom_full w q L A B h l (by assumption) a j c s t
    · exact dom_add w q L A B h l (by omega) a j c ha hj hc s t
  rw [if_neg k1]
  by_cases k2 : K = 2
  · subst k2
    rw [if_pos rfl]
    split
    · exact dom_empty w q L A B h l (by assumption) a j c s t
    · exact dom_drop w q L A B h l (by assumption) a j c s t
  rw [if_neg k2]
  by_cases k3 : K = 3
  · subst k3
    rw [if_pos rfl]
    exact dom_len w q L A B h a j c s t
  rw [if_neg k3]
  by_cases k4 : K = 4
  · subst k4
    rw [if_pos rfl]
    exact dom_corner w q L A B h l fx fy a j c _ _ rfl s t
  rw [if_neg k4]
  by_cases k5 : K = 5
  · subst k5
    rw [if_pos rfl]
    rcases hI : insideA A B a j c with ⟨r, E⟩
    cases r
    · exact dom_in0 w q L A B h l fx fy a j c ha hj hc E hI s t
    · exact dom_in1 w q L A B h l fx fy a j c ha hj hc E hI s t
  rw [if_neg k5]
  by_cases k6 : K = 6
  · subst k6
    rw [if_pos rfl]
    exact dom_clamp w q L A B h l fx fy a j c ha hj hc _ _ _ rfl s t
  rw [if_neg k6]
  by_cases k7 : K = 7
  · subst k7
    rw [if_pos rfl]
    exact dom_along w q L A B h l fx fy a j c ha hj _ _ _ rfl s t
  rw [if_neg k7]
  by_cases k8 : K = 8
  · subst k8
    rw [if_pos rfl]
    exact dom_cell w q L A B h l fx fy a j c ha hj hc _ _ rfl s t
  rw [if_neg k8]
  by_cases k9 : K = 9
  · subst k9
    rw [if_pos rfl]
    exact dom_show w q L A B h l fx fy a j c s t
  rw [if_neg k9]
  by_cases k10 : K = 10
  · subst k10
    rw [if_pos rfl]
    exact dom_check w q L A B h a j c s t
  rw [if_neg k10]
  exact dom_other w q L A B h K a j c k1 k2 k3 k4 k5 k6 k7 k8 k9 k10 s t
end Go.Proofs.Qxb6500472a
