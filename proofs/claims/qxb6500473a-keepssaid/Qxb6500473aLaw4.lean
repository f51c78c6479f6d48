import Derived.Test.Qxb6500473aLaw3
namespace Go.Proofs.Qxb6500473a
open Go.RowKit
attribute [local go_sem] run_store_float drewN_alloc drewN_setCell

set_option maxHeartbeats 1000000 in
theorem dom_push (w : World) (p : Nat) (o : Option Nat) (A : List Nat) (h : MA w p o A) (hn : A.length < 8) (a b : Int) (c : Int) (s t : ByteArray) :
    Calls Try.prog 34 #[ptr p, OpV 1 a b c s t] w (DoMR p o w ((0, 0, []), A ++ [ratioF a b])) := by
  go_enter Try.func34, Try.ntmps34
  go_wp2_with fail
  refine (ma_push a b _ p o A (dom_pre h _ _) hn).mono ?_
  rintro x w1 ⟨rfl, m1⟩
  have T1 := dom_T h m1
  obtain ⟨t1, t2, t3⟩ := T1.facts
  go_wp2
  refine ret_row Try.results34 rfl rfl (T1.set (i := 0) _ |>.set (i := 1) _ |>.set (i := 2) _ |>.set (i := 3) _) Try.underlying36 rfl (by kernel_rfl) ⟨rfl, dom_fin h m1 _ _ _ _⟩

set_option maxHeartbeats 1000000 in
theorem dom_full (w : World) (p : Nat) (o : Option Nat) (A : List Nat) (h : MA w p o A) (hn : A.length = 8) (a b : Int) (c : Int) (s t : ByteArray) :
    Calls Try.prog 34 #[ptr p, OpV 1 a b c s t] w (DoMR p o w ((1, 0, []), A)) := by
  go_enter Try.func34, Try.ntmps34
  go_wp2_with fail
  refine (ma_full a b _ p o A (dom_pre h _ _) hn).mono ?_
  rintro x w1 ⟨rfl, m1⟩
  have T1 := dom_T h m1
  obtain ⟨t1, t2, t3⟩ := T1.facts
  go_wp2
  refine ret_row Try.results34 rfl rfl (T1.set (i := 0) _ |>.set (i := 1) _ |>.set (i := 2) _ |>.set (i := 3) _) Try.underlying36 rfl (by kernel_rfl) ⟨rfl, dom_fin h m1 _ _ _ _⟩

set_option maxHeartbeats 1000000 in
theorem dom_pop (w : World) (p : Nat) (o : Option Nat) (A : List Nat) (h : MA w p o A) (hn : A ≠ []) (a b : Int) (c : Int) (s t : ByteArray) :
    Calls Try.prog 34 #[ptr p, OpV 2 a b c s t] w (DoMR p o w ((0, 0, []), A.dropLast)) := by
  go_enter Try.func34, Try.ntmps34
  go_wp2_with fail
  refine (ma_pop _ p o A (dom_pre h _ _) hn).mono ?_
  rintro x w1 ⟨rfl, m1⟩
  have T1 := dom_T h m1
  obtain ⟨t1, t2, t3⟩ := T1.facts
  go_wp2
  refine ret_row Try.results34 rfl rfl (T1.set (i := 0) _ |>.set (i := 1) _ |>.set (i := 2) _ |>.set (i := 3) _) Try.underlying36 rfl (by kernel_rfl) ⟨rfl, dom_fin h m1 _ _ _ _⟩

set_option maxHeartbeats 1000000 in
theorem dom_empty (w : World) (p : Nat) (o : Option Nat) (A : List Nat) (h : MA w p o A) (hn : A = []) (a b : Int) (c : Int) (s t : ByteArray) :
    Calls Try.prog 34 #[ptr p, OpV 2 a b c s t] w (DoMR p o w ((2, 0, []), A)) := by
  go_enter Try.func34, Try.ntmps34
  go_wp2_with fail
  refine (ma_empty _ p o A (dom_pre h _ _) hn).mono ?_
  rintro x w1 ⟨rfl, m1⟩
  have T1 := dom_T h m1
  obtain ⟨t1, t2, t3⟩ := T1.facts
  go_wp2
  refine ret_row Try.results34 rfl rfl (T1.set (i := 0) _ |>.set (i := 1) _ |>.set (i := 2) _ |>.set (i := 3) _) Try.underlying36 rfl (by kernel_rfl) ⟨rfl, dom_fin h m1 _ _ _ _⟩

set_option maxHeartbeats 1000000 in
theorem dom_len (w : World) (p : Nat) (o : Option Nat) (A : List Nat) (h : MA w p o A) (a b : Int) (c : Int) (s t : ByteArray) :
    Calls Try.prog 34 #[ptr p, OpV 3 a b c s t] w (DoMR p o w ((0, (A.length : Int), []), A)) := by
  go_enter Try.func34, Try.ntmps34
  go_wp2_with fail
  refine (ma_len _ p o A (dom_pre h _ _)).mono ?_
  rintro x w1 ⟨rfl, m1⟩
  have T1 := dom_T h m1
  obtain ⟨t1, t2, t3⟩ := T1.facts
  go_wp2
  refine ret_row Try.results34 rfl rfl (T1.set (i := 0) _ |>.set (i := 1) _ |>.set (i := 2) _ |>.set (i := 3) _) Try.underlying36 rfl (by kernel_rfl) ⟨rfl, dom_fin h m1 _ _ _ _⟩

set_option maxHeartbeats 1000000 in
theorem dom_at (w : World) (p : Nat) (o : Option Nat) (A : List Nat) (h : MA w p o A) (i : Nat) (hi : i < A.length) (b : Int) (c : Int) (s t : ByteArray) :
    Calls Try.prog 34 #[ptr p, OpV 4 (i : Int) b c s t] w (DoMR p o w ((0, 0, text64 (A.getD i 0)), A)) := by
  go_enter Try.func34, Try.ntmps34
  go_wp2_with fail
  refine (ma_at _ p o A (dom_pre h _ _) i hi).mono ?_
  rintro x w0 ⟨v, rfl, cv, m0⟩
  go_wp2_with fail
  refine (told_any _ _ _).mono ?_
  rintro x w1 ⟨rfl, b1⟩
  have m1 := m0.later b1
  clear m0 b1
  have T1 := dom_T h m1
  obtain ⟨t1, t2, t3⟩ := T1.facts
  go_wp2
  refine ret_row Try.results34 rfl rfl (T1.set (i := 0) _ |>.set (i := 1) _ |>.set (i := 2) _ |>.set (i := 3) _) Try.underlying36 rfl (by kernel_rfl) ⟨by rw [← cv]; exact congrArg (fun u => Ending.returned (AnsV _ 0 u)) (text_can v).symm, dom_fin h m1 _ _ _ _⟩

set_option maxHeartbeats 1000000 in
theorem dom_atx (w : World) (p : Nat) (o : Option Nat) (A : List Nat) (h : MA w p o A) (a b : Int) (hi : a < 0 ∨ (A.length : Int) ≤ a) (c : Int) (s t : ByteArray) :
    Calls Try.prog 34 #[ptr p, OpV 4 a b c s t] w (DoMR p o w ((3, 0, text64 0), A)) := by
  go_enter Try.func34, Try.ntmps34
  go_wp2_with fail
  refine (ma_atx _ p o A (dom_pre h _ _) a hi).mono ?_
  rintro x w0 ⟨rfl, m0⟩
  go_wp2_with fail
  refine (told_any _ _ _).mono ?_
  rintro x w1 ⟨rfl, b1⟩
  have m1 := m0.later b1
  clear m0 b1
  have T1 := dom_T h m1
  obtain ⟨t1, t2, t3⟩ := T1.facts
  go_wp2
  refine ret_row Try.results34 rfl rfl (T1.set (i := 0) _ |>.set (i := 1) _ |>.set (i := 2) _ |>.set (i := 3) _) Try.underlying36 rfl (by kernel_rfl) ⟨rfl, dom_fin h m1 _ _ _ _⟩

set_option maxHeartbeats 1000000 in
theorem dom_whole (w : World) (p : Nat) (o : Option Nat) (A : List Nat) (h : MA w p o A) (i : Nat) (hi : i < A.length) (b : Int) (N E : Int) (HW : Hid (wholeF (A.getD i 0) = (N, E))) (c : Int) (s t : ByteArray) :
    Calls Try.prog 34 #[ptr p, OpV 5 (i : Int) b c s t] w (DoMR p o w ((E, N, []), A)) := by
  have hW := fun V hs => ma_whole V p o A hs i hi
  rw [HW.out] at hW
  go_enter Try.func34, Try.ntmps34
  go_wp2_with fail
  refine (hW _ (dom_pre h _ _)).mono ?_
  rintro x w1 ⟨rfl, m1⟩
  have T1 := dom_T h m1
  obtain ⟨t1, t2, t3⟩ := T1.facts
  go_wp2
  refine ret_row Try.results34 rfl rfl (T1.set (i := 0) _ |>.set (i := 1) _ |>.set (i := 2) _ |>.set (i := 3) _) Try.underlying36 rfl (by kernel_rfl) ⟨rfl, dom_fin h m1 _ _ _ _⟩

set_option maxHeartbeats 1000000 in
theorem dom_wholex (w : World) (p : Nat) (o : Option Nat) (A : List Nat) (h : MA w p o A) (a b : Int) (hi : a < 0 ∨ (A.length : Int) ≤ a) (c : Int) (s t : ByteArray) :
    Calls Try.prog 34 #[ptr p, OpV 5 a b c s t] w (DoMR p o w ((3, 0, []), A)) := by
  go_enter Try.func34, Try.ntmps34
  go_wp2_with fail
  refine (ma_wholex _ p o A (dom_pre h _ _) a hi).mono ?_
  rintro x w1 ⟨rfl, m1⟩
  have T1 := dom_T h m1
  obtain ⟨t1, t2, t3⟩ := T1.facts
  go_wp2
  refine ret_row Try.results34 rfl rfl (T1.set (i := 0) _ |>.set (i := 1) _ |>.set (i := 2) _ |>.set (i := 3) _) Try.underlying36 rfl (by kernel_rfl) ⟨rfl, dom_fin h m1 _ _ _ _⟩

set_option maxHeartbeats 1000000 in
theorem dom_sum (w : World) (p : Nat) (o : Option Nat) (A : List Nat) (h : MA w p o A) (a b : Int) (c : Int) (s t : ByteArray) :
    Calls Try.prog 34 #[ptr p, OpV 6 a b c s t] w (DoMR p o w ((0, 0, text64 (sumF A)), A)) := by
  go_enter Try.func34, Try.ntmps34
  go_wp2_with fail
  refine (ma_sum _ p o A (dom_pre h _ _)).mono ?_
  rintro x w0 ⟨v, rfl, cv, m0⟩
  go_wp2_with fail
  refine (told_any _ _ _).mono ?_
  rintro x w1 ⟨rfl, b1⟩
  have m1 := m0.later b1
  clear m0 b1
  have T1 := dom_T h m1
  obtain ⟨t1, t2, t3⟩ := T1.facts
  go_wp2
  refine ret_row Try.results34 rfl rfl (T1.set (i := 0) _ |>.set (i := 1) _ |>.set (i := 2) _ |>.set (i := 3) _) Try.underlying36 rfl (by kernel_rfl) ⟨by rw [← cv]; exact congrArg (fun u => Ending.returned (AnsV _ 0 u)) (text_can v).symm, dom_fin h m1 _ _ _ _⟩

set_option maxHeartbeats 1000000 in
theorem dom_mean (w : World) (p : Nat) (o : Option Nat) (A : List Nat) (h : MA w p o A) (a b : Int) (E : Int) (HE : Hid (E = if A = [] then 2 else 0)) (c : Int) (s t : ByteArray) :
    Calls Try.prog 34 #[ptr p, OpV 7 a b c s t] w (DoMR p o w ((E, 0, text64 (meanF A)), A)) := by
  have hW := fun V hs => ma_mean V p o A hs
  rw [← HE.out] at hW
  go_enter Try.func34, Try.ntmps34
  go_wp2_with fail
  refine (hW _ (dom_pre h _ _)).mono ?_
  rintro x w0 ⟨v, rfl, cv, m0⟩
  go_wp2_with fail
  refine (told_any _ _ _).mono ?_
  rintro x w1 ⟨rfl, b1⟩
  have m1 := m0.later b1
  clear m0 b1
  have T1 := dom_T h m1
  obtain ⟨t1, t2, t3⟩ := T1.facts
  go_wp2
  refine ret_row Try.results34 rfl rfl (T1.set (i := 0) _ |>.set (i := 1) _ |>.set (i := 2) _ |>.set (i := 3) _) Try.underlying36 rfl (by kernel_rfl) ⟨by rw [← cv]; exact congrArg (fun u => Ending.returned (AnsV _ 0 u)) (text_can v).symm, dom_fin h m1 _ _ _ _⟩

set_option maxHeartbeats 1000000 in
theorem dom_min (w : World) (p : Nat) (o : Option Nat) (A : List Nat) (h : MA w p o A) (a b : Int) (E : Int) (HE : Hid (E = if A = [] then 2 else 0)) (c : Int) (s t : ByteArray) :
    Calls Try.prog 34 #[ptr p, OpV 8 a b c s t] w (DoMR p o w ((E, 0, text64 (minF A)), A)) := by
  have hW := fun V hs => ma_min V p o A hs
  rw [← HE.out] at hW
  go_enter Try.func34, Try.ntmps34
  go_wp2_with fail
  refine (hW _ (dom_pre h _ _)).mono ?_
  rintro x w0 ⟨v, rfl, cv, m0⟩
  go_wp2_with fail
  refine (told_any _ _ _).mono ?_
  rintro x w1 ⟨rfl, b1⟩
  have m1 := m0.later b1
  clear m0 b1
  have T1 := dom_T h m1
  obtain ⟨t1, t2, t3⟩ := T1.facts
  go_wp2
  refine ret_row Try.results34 rfl rfl (T1.set (i := 0) _ |>.set (i := 1) _ |>.set (i := 2) _ |>.set (i := 3) _) Try.underlying36 rfl (by kernel_rfl) ⟨by rw [← cv]; exact congrArg (fun u => Ending.returned (AnsV _ 0 u)) (text_can v).symm, dom_fin h m1 _ _ _ _⟩

set_option maxHeartbeats 1000000 in
theorem dom_max (w : World) (p : Nat) (o : Option Nat) (A : List Nat) (h : MA w p o A) (a b : Int) (E : Int) (HE : Hid (E = if A = [] then 2 else 0)) (c : Int) (s t : ByteArray) :
    Calls Try.prog 34 #[ptr p, OpV 9 a b c s t] w (DoMR p o w ((E, 0, text64 (maxF A)), A)) := by
  have hW := fun V hs => ma_max V p o A hs
  rw [← HE.out] at hW
  go_enter Try.func34, Try.ntmps34
  go_wp2_with fail
  refine (hW _ (dom_pre h _ _)).mono ?_
  rintro x w0 ⟨v, rfl, cv, m0⟩
  go_wp2_with fail
  refine (told_any _ _ _).mono ?_
  rintro x w1 ⟨rfl, b1⟩
  have m1 := m0.later b1
  clear m0 b1
  have T1 := dom_T h m1
  obtain ⟨t1, t2, t3⟩ := T1.facts
  go_wp2
  refine ret_row Try.results34 rfl rfl (T1.set (i := 0) _ |>.set (i := 1) _ |>.set (i := 2) _ |>.set (i := 3) _) Try.underlying36 rfl (by kernel_rfl) ⟨by rw [← cv]; exact congrArg (fun u => Ending.returned (AnsV _ 0 u)) (text_can v).symm, dom_fin h m1 _ _ _ _⟩

set_option maxHeartbeats 1000000 in
theorem dom_show (w : World) (p : Nat) (o : Option Nat) (A : List Nat) (h : MA w p o A) (a b : Int) (c : Int) (s t : ByteArray) :
    Calls Try.prog 34 #[ptr p, OpV 10 a b c s t] w (DoMR p o w ((0, 0, showF A), A)) := by
  go_enter Try.func34, Try.ntmps34
  go_wp2_with fail
  refine (ma_show _ p o A (dom_pre h _ _)).mono ?_
  rintro x w1 ⟨rfl, m1⟩
  have T1 := dom_T h m1
  obtain ⟨t1, t2, t3⟩ := T1.facts
  go_wp2
  refine ret_row Try.results34 rfl rfl (T1.set (i := 0) _ |>.set (i := 1) _ |>.set (i := 2) _ |>.set (i := 3) _) Try.underlying36 rfl (by kernel_rfl) ⟨rfl, dom_fin h m1 _ _ _ _⟩

set_option maxHeartbeats 1000000 in
theorem dom_check (w : World) (p : Nat) (o : Option Nat) (A : List Nat) (h : MA w p o A) (a b : Int) (c : Int) (s t : ByteArray) :
    Calls Try.prog 34 #[ptr p, OpV 11 a b c s t] w (DoMR p o w ((0, 1, []), A)) := by
  go_enter Try.func34, Try.ntmps34
  go_wp2
  refine ret_row Try.results34 rfl rfl (Blk.new (World.size_alloc _ _).symm) Try.underlying36 rfl (by kernel_rfl) ⟨rfl, .of_below (dom_pre h _ _) (((Below.refl _ _).alloc (Nat.le_refl _) _).alloc (by simp) _)⟩

set_option maxHeartbeats 1000000 in
theorem dom_other (w : World) (p : Nat) (o : Option Nat) (A : List Nat) (h : MA w p o A) (K a b : Int) (k1 : K ≠ 1) (k2 : K ≠ 2) (k3 : K ≠ 3) (k4 : K ≠ 4) (k5 : K ≠ 5) (k6 : K ≠ 6) (k7 : K ≠ 7) (k8 : K ≠ 8) (k9 : K ≠ 9) (k10 : K ≠ 10) (k11 : K ≠ 11) (c : Int) (s t : ByteArray) :
    Calls Try.prog 34 #[ptr p, OpV K a b c s t] w (DoMR p o w ((0, 0, []), A)) := by
  have e1 : (K == 1) = false := by simpa using k1
  have e2 : (K == 2) = false := by simpa using k2
  have e3 : (K == 3) = false := by simpa using k3
  have e4 : (K == 4) = false := by simpa using k4
  have e5 : (K == 5) = false := by simpa using k5
  have e6 : (K == 6) = false := by simpa using k6
  have e7 : (K == 7) = false := by simpa using k7
  have e8 : (K == 8) = false := by simpa using k8
  have e9 : (K == 9) = false := by simpa using k9
  have e10 : (K == 10) = false := by simpa using k10
  have e11 : (K == 11) = false := by simpa using k11
  clear k1 k2 k3 k4 k5 k6 k7 k8 k9 k10 k11
  go_enter Try.func34, Try.ntmps34
  go_wp2
  refine ret_row Try.results34 rfl rfl (Blk.new (World.size_alloc _ _).symm) Try.underlying36 rfl (by kernel_rfl) ⟨rfl, .of_below (dom_pre h _ _) (((Below.refl _ _).alloc (Nat.le_refl _) _).alloc (by simp) _)⟩

theorem dom_any (w : World) (p : Nat) (o : Option Nat) (A : List Nat) (h : MA w p o A) (K a b c : Int) (s t : ByteArray) :
    Calls Try.prog 34 #[ptr p, OpV K a b c s t] w (DoMR p o w (doA K a b A)) := by
  obtain ⟨-, -, h8⟩ := h.lt
  unfold doA
  by_cases k1 : K = 1
  · subst k1
    rw [if_pos rfl]
    split
    · exact dom_full w p o A h (by assumption) a b c s t
    · exact dom_push w p o A h (by omega) a b c s t
  rw [if_neg k1]
  by_cases k2 : K = 2
  · subst k2
    rw [if_pos rfl]
    split
    · exact dom_empty w p o A h (by assumption) a b c s t
    · exact dom_pop w p o A h (by assumption) a b c s t
  rw [if_neg k2]
  by_cases k3 : K = 3
  · subst k3
    rw [if_pos rfl]
    exact dom_len w p o A h a b c s t
  rw [if_neg k3]
  by_cases k4 : K = 4
  · subst k4
    rw [if_pos rfl]
    split
    · exact dom_atx w p o A h a b (by assumption) c s t
    · obtain ⟨i, rfl⟩ : ∃ i : Nat, a = (i : Int) := ⟨a.toNat, by omega⟩
      exact dom_at w p o A h i (by omega) b c s t
  rw [if_neg k4]
  by_cases k5 : K = 5
  · subst k5
    rw [if_pos rfl]
    split
    · exact dom_wholex w p o A h a b (by assumption) c s t
    · obtain ⟨i, rfl⟩ : ∃ i : Nat, a = (i : Int) := ⟨a.toNat, by omega⟩
      exact dom_whole w p o A h i (by omega) b _ _ rfl c s t
  rw [if_neg k5]
  by_cases k6 : K = 6
  · subst k6
    rw [if_pos rfl]
    exact dom_sum w p o A h a b c s t
  rw [if_neg k6]
  by_cases k7 : K = 7
  · subst k7
    rw [if_pos rfl]
    exact dom_mean w p o A h a b _ rfl c s t
  rw [if_neg k7]
  by_cases k8 : K = 8
  · subst k8
    rw [if_pos rfl]
    exact dom_min w p o A h a b _ rfl c s t
  rw [if_neg k8]
  by_cases k9 : K = 9
  · subst k9
    rw [if_pos rfl]
    exact dom_max w p o A h a b _ rfl c s t
  rw [if_neg k9]
  by_cases k10 : K = 10
  · subst k10
    rw [if_pos rfl]
    exact dom_show w p o A h a b c s t
  rw [if_neg k10]
  by_cases k11 : K = 11
  · subst k11
    rw [if_pos rfl]
    exact dom_check w p o A h a b c s t
  rw [if_neg k11]
  exact dom_other w p o A h K a b k1 k2 k3 k4 k5 k6 k7 k8 k9 k10 k11 c s t
end Go.Proofs.Qxb6500473a
