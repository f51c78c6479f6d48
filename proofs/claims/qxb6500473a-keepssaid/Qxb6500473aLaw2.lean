import Derived.Test.Qxb6500473aLaw1
namespace Go.Proofs.Qxb6500473a
open Go.RowKit
attribute [local go_sem] run_store_float drewN_alloc drewN_setCell

set_option maxHeartbeats 1000000 in
theorem do_push (w : World) (p bl : Nat) (A : List Nat) (h : SerA w p bl A) (hn : A.length < 8) (a b : Int) (c : Int) (s t : ByteArray) :
    Calls Try.prog 11 #[ptr p, OpV 1 a b c s t] w (DoR p bl w ((0, 0, []), A ++ [ratioF a b])) := by
  go_enter Try.func11, Try.ntmps11
  go_wp2_with fail
  refine (push_all a b _ p bl A (do_pre h _ _) hn).mono ?_
  rintro x w1 ⟨rfl, s1, u1⟩
  have T1 := do_T h u1
  obtain ⟨t1, t2, t3⟩ := T1.facts
  go_wp2
  refine ret_row Try.results11 rfl rfl (T1.set (i := 0) _ |>.set (i := 1) _ |>.set (i := 2) _ |>.set (i := 3) _) Try.underlying36 rfl (by kernel_rfl) ⟨rfl, do_fin h u1 s1 _ _ _ _⟩

set_option maxHeartbeats 1000000 in
theorem do_full (w : World) (p bl : Nat) (A : List Nat) (h : SerA w p bl A) (hn : A.length = 8) (a b : Int) (c : Int) (s t : ByteArray) :
    Calls Try.prog 11 #[ptr p, OpV 1 a b c s t] w (DoR p bl w ((1, 0, []), A)) := by
  go_enter Try.func11, Try.ntmps11
  go_wp2_with fail
  refine (full_all a b _ p bl A (do_pre h _ _) hn).mono ?_
  rintro x w1 ⟨rfl, e1⟩
  obtain ⟨s1, u1⟩ := do_eq0 h e1
  clear e1
  have T1 := do_T h u1
  obtain ⟨t1, t2, t3⟩ := T1.facts
  go_wp2
  refine ret_row Try.results11 rfl rfl (T1.set (i := 0) _ |>.set (i := 1) _ |>.set (i := 2) _ |>.set (i := 3) _) Try.underlying36 rfl (by kernel_rfl) ⟨rfl, do_fin h u1 s1 _ _ _ _⟩

set_option maxHeartbeats 1000000 in
theorem do_pop (w : World) (p bl : Nat) (A : List Nat) (h : SerA w p bl A) (hn : A ≠ []) (a b : Int) (c : Int) (s t : ByteArray) :
    Calls Try.prog 11 #[ptr p, OpV 2 a b c s t] w (DoR p bl w ((0, 0, []), A.dropLast)) := by
  go_enter Try.func11, Try.ntmps11
  go_wp2_with fail
  refine (pop_all _ p bl A (do_pre h _ _) hn).mono ?_
  rintro x w1 ⟨rfl, s1, u1⟩
  have T1 := do_T h u1
  obtain ⟨t1, t2, t3⟩ := T1.facts
  go_wp2
  refine ret_row Try.results11 rfl rfl (T1.set (i := 0) _ |>.set (i := 1) _ |>.set (i := 2) _ |>.set (i := 3) _) Try.underlying36 rfl (by kernel_rfl) ⟨rfl, do_fin h u1 s1 _ _ _ _⟩

set_option maxHeartbeats 1000000 in
theorem do_empty (w : World) (p bl : Nat) (A : List Nat) (h : SerA w p bl A) (hn : A = []) (a b : Int) (c : Int) (s t : ByteArray) :
    Calls Try.prog 11 #[ptr p, OpV 2 a b c s t] w (DoR p bl w ((2, 0, []), A)) := by
  go_enter Try.func11, Try.ntmps11
  go_wp2_with fail
  refine (empty_all _ p bl (hn ▸ (do_pre h _ _))).mono ?_
  rintro x w1 ⟨rfl, e1⟩
  obtain ⟨s1, u1⟩ := do_eq0 h e1
  clear e1
  have T1 := do_T h u1
  obtain ⟨t1, t2, t3⟩ := T1.facts
  go_wp2
  refine ret_row Try.results11 rfl rfl (T1.set (i := 0) _ |>.set (i := 1) _ |>.set (i := 2) _ |>.set (i := 3) _) Try.underlying36 rfl (by kernel_rfl) ⟨rfl, do_fin h u1 s1 _ _ _ _⟩

set_option maxHeartbeats 1000000 in
theorem do_len (w : World) (p bl : Nat) (A : List Nat) (h : SerA w p bl A) (a b : Int) (c : Int) (s t : ByteArray) :
    Calls Try.prog 11 #[ptr p, OpV 3 a b c s t] w (DoR p bl w ((0, (A.length : Int), []), A)) := by
  go_enter Try.func11, Try.ntmps11
  go_wp2_with fail
  refine (len_all _ p bl A (do_pre h _ _)).mono ?_
  rintro x w1 ⟨rfl, e1⟩
  obtain ⟨s1, u1⟩ := do_eq0 h e1
  clear e1
  have T1 := do_T h u1
  obtain ⟨t1, t2, t3⟩ := T1.facts
  go_wp2
  refine ret_row Try.results11 rfl rfl (T1.set (i := 0) _ |>.set (i := 1) _ |>.set (i := 2) _ |>.set (i := 3) _) Try.underlying36 rfl (by kernel_rfl) ⟨rfl, do_fin h u1 s1 _ _ _ _⟩

set_option maxHeartbeats 1000000 in
theorem do_at (w : World) (p bl : Nat) (A : List Nat) (h : SerA w p bl A) (i : Nat) (hi : i < A.length) (b : Int) (c : Int) (s t : ByteArray) :
    Calls Try.prog 11 #[ptr p, OpV 4 (i : Int) b c s t] w (DoR p bl w ((0, 0, text64 (A.getD i 0)), A)) := by
  go_enter Try.func11, Try.ntmps11
  go_wp2_with fail
  refine (at_all _ p bl A (do_pre h _ _) i hi).mono ?_
  rintro x w0 ⟨v, m, rfl, cv, e1⟩
  obtain ⟨s0, u0⟩ := do_eq h e1
  clear e1
  go_wp2_with fail
  refine (told_any _ _ _).mono ?_
  rintro x w1 ⟨rfl, b1⟩
  have s1 := s0.later b1
  have u1 := u0.trans (Upd.of_below b1)
  clear s0 u0 b1
  have T1 := do_T h u1
  obtain ⟨t1, t2, t3⟩ := T1.facts
  go_wp2
  refine ret_row Try.results11 rfl rfl (T1.set (i := 0) _ |>.set (i := 1) _ |>.set (i := 2) _ |>.set (i := 3) _) Try.underlying36 rfl (by kernel_rfl) ⟨by rw [← cv]; exact congrArg (fun u => Ending.returned (AnsV _ 0 u)) (text_can v).symm, do_fin h u1 s1 _ _ _ _⟩

set_option maxHeartbeats 1000000 in
theorem do_atx (w : World) (p bl : Nat) (A : List Nat) (h : SerA w p bl A) (a b : Int) (hi : a < 0 ∨ (A.length : Int) ≤ a) (c : Int) (s t : ByteArray) :
    Calls Try.prog 11 #[ptr p, OpV 4 a b c s t] w (DoR p bl w ((3, 0, text64 0), A)) := by
  go_enter Try.func11, Try.ntmps11
  go_wp2_with fail
  refine (at_none _ p bl A (do_pre h _ _) a hi).mono ?_
  rintro x w0 ⟨rfl, m, e1⟩
  obtain ⟨s0, u0⟩ := do_eq h e1
  clear e1
  go_wp2_with fail
  refine (told_any _ _ _).mono ?_
  rintro x w1 ⟨rfl, b1⟩
  have s1 := s0.later b1
  have u1 := u0.trans (Upd.of_below b1)
  clear s0 u0 b1
  have T1 := do_T h u1
  obtain ⟨t1, t2, t3⟩ := T1.facts
  go_wp2
  refine ret_row Try.results11 rfl rfl (T1.set (i := 0) _ |>.set (i := 1) _ |>.set (i := 2) _ |>.set (i := 3) _) Try.underlying36 rfl (by kernel_rfl) ⟨rfl, do_fin h u1 s1 _ _ _ _⟩

set_option maxHeartbeats 1000000 in
theorem do_whole (w : World) (p bl : Nat) (A : List Nat) (h : SerA w p bl A) (i : Nat) (hi : i < A.length) (b : Int) (N E : Int) (HW : Hid (wholeF (A.getD i 0) = (N, E))) (c : Int) (s t : ByteArray) :
    Calls Try.prog 11 #[ptr p, OpV 5 (i : Int) b c s t] w (DoR p bl w ((E, N, []), A)) := by
  have hW := fun V hs => whole_all V p bl A hs i hi
  rw [HW.out] at hW
  go_enter Try.func11, Try.ntmps11
  go_wp2_with fail
  refine (hW _ (do_pre h _ _)).mono ?_
  rintro x w1 ⟨rfl, m, e1⟩
  obtain ⟨s1, u1⟩ := do_eq h e1
  clear e1
  have T1 := do_T h u1
  obtain ⟨t1, t2, t3⟩ := T1.facts
  go_wp2
  refine ret_row Try.results11 rfl rfl (T1.set (i := 0) _ |>.set (i := 1) _ |>.set (i := 2) _ |>.set (i := 3) _) Try.underlying36 rfl (by kernel_rfl) ⟨rfl, do_fin h u1 s1 _ _ _ _⟩

set_option maxHeartbeats 1000000 in
theorem do_wholex (w : World) (p bl : Nat) (A : List Nat) (h : SerA w p bl A) (a b : Int) (hi : a < 0 ∨ (A.length : Int) ≤ a) (c : Int) (s t : ByteArray) :
    Calls Try.prog 11 #[ptr p, OpV 5 a b c s t] w (DoR p bl w ((3, 0, []), A)) := by
  go_enter Try.func11, Try.ntmps11
  go_wp2_with fail
  refine (whole_none _ p bl A (do_pre h _ _) a hi).mono ?_
  rintro x w1 ⟨rfl, m, e1⟩
  obtain ⟨s1, u1⟩ := do_eq h e1
  clear e1
  have T1 := do_T h u1
  obtain ⟨t1, t2, t3⟩ := T1.facts
  go_wp2
  refine ret_row Try.results11 rfl rfl (T1.set (i := 0) _ |>.set (i := 1) _ |>.set (i := 2) _ |>.set (i := 3) _) Try.underlying36 rfl (by kernel_rfl) ⟨rfl, do_fin h u1 s1 _ _ _ _⟩

set_option maxHeartbeats 1000000 in
theorem do_sum (w : World) (p bl : Nat) (A : List Nat) (h : SerA w p bl A) (a b : Int) (c : Int) (s t : ByteArray) :
    Calls Try.prog 11 #[ptr p, OpV 6 a b c s t] w (DoR p bl w ((0, 0, text64 (sumF A)), A)) := by
  go_enter Try.func11, Try.ntmps11
  go_wp2_with fail
  refine (sum_all _ p bl A (do_pre h _ _)).mono ?_
  rintro x w0 ⟨v, m, rfl, cv, e1⟩
  obtain ⟨s0, u0⟩ := do_eq h e1
  clear e1
  go_wp2_with fail
  refine (told_any _ _ _).mono ?_
  rintro x w1 ⟨rfl, b1⟩
  have s1 := s0.later b1
  have u1 := u0.trans (Upd.of_below b1)
  clear s0 u0 b1
  have T1 := do_T h u1
  obtain ⟨t1, t2, t3⟩ := T1.facts
  go_wp2
  refine ret_row Try.results11 rfl rfl (T1.set (i := 0) _ |>.set (i := 1) _ |>.set (i := 2) _ |>.set (i := 3) _) Try.underlying36 rfl (by kernel_rfl) ⟨by rw [← cv]; exact congrArg (fun u => Ending.returned (AnsV _ 0 u)) (text_can v).symm, do_fin h u1 s1 _ _ _ _⟩

set_option maxHeartbeats 1000000 in
theorem do_mean (w : World) (p bl : Nat) (A : List Nat) (h : SerA w p bl A) (a b : Int) (E : Int) (HE : Hid (E = if A = [] then 2 else 0)) (c : Int) (s t : ByteArray) :
    Calls Try.prog 11 #[ptr p, OpV 7 a b c s t] w (DoR p bl w ((E, 0, text64 (meanF A)), A)) := by
  have hW := fun V hs => mean_all V p bl A hs
  rw [← HE.out] at hW
  go_enter Try.func11, Try.ntmps11
  go_wp2_with fail
  refine (hW _ (do_pre h _ _)).mono ?_
  rintro x w0 ⟨v, m, rfl, cv, e1⟩
  obtain ⟨s0, u0⟩ := do_eq h e1
  clear e1
  go_wp2_with fail
  refine (told_any _ _ _).mono ?_
  rintro x w1 ⟨rfl, b1⟩
  have s1 := s0.later b1
  have u1 := u0.trans (Upd.of_below b1)
  clear s0 u0 b1
  have T1 := do_T h u1
  obtain ⟨t1, t2, t3⟩ := T1.facts
  go_wp2
  refine ret_row Try.results11 rfl rfl (T1.set (i := 0) _ |>.set (i := 1) _ |>.set (i := 2) _ |>.set (i := 3) _) Try.underlying36 rfl (by kernel_rfl) ⟨by rw [← cv]; exact congrArg (fun u => Ending.returned (AnsV _ 0 u)) (text_can v).symm, do_fin h u1 s1 _ _ _ _⟩

set_option maxHeartbeats 1000000 in
theorem do_min (w : World) (p bl : Nat) (A : List Nat) (h : SerA w p bl A) (a b : Int) (E : Int) (HE : Hid (E = if A = [] then 2 else 0)) (c : Int) (s t : ByteArray) :
    Calls Try.prog 11 #[ptr p, OpV 8 a b c s t] w (DoR p bl w ((E, 0, text64 (minF A)), A)) := by
  have hW := fun V hs => min_all V p bl A hs
  rw [← HE.out] at hW
  go_enter Try.func11, Try.ntmps11
  go_wp2_with fail
  refine (hW _ (do_pre h _ _)).mono ?_
  rintro x w0 ⟨v, m, rfl, cv, e1⟩
  obtain ⟨s0, u0⟩ := do_eq h e1
  clear e1
  go_wp2_with fail
  refine (told_any _ _ _).mono ?_
  rintro x w1 ⟨rfl, b1⟩
  have s1 := s0.later b1
  have u1 := u0.trans (Upd.of_below b1)
  clear s0 u0 b1
  have T1 := do_T h u1
  obtain ⟨t1, t2, t3⟩ := T1.facts
  go_wp2
  refine ret_row Try.results11 rfl rfl (T1.set (i := 0) _ |>.set (i := 1) _ |>.set (i := 2) _ |>.set (i := 3) _) Try.underlying36 rfl (by kernel_rfl) ⟨by rw [← cv]; exact congrArg (fun u => Ending.returned (AnsV _ 0 u)) (text_can v).symm, do_fin h u1 s1 _ _ _ _⟩

set_option maxHeartbeats 1000000 in
theorem do_max (w : World) (p bl : Nat) (A : List Nat) (h : SerA w p bl A) (a b : Int) (E : Int) (HE : Hid (E = if A = [] then 2 else 0)) (c : Int) (s t : ByteArray) :
    Calls Try.prog 11 #[ptr p, OpV 9 a b c s t] w (DoR p bl w ((E, 0, text64 (maxF A)), A)) := by
  have hW := fun V hs => max_all V p bl A hs
  rw [← HE.out] at hW
  go_enter Try.func11, Try.ntmps11
  go_wp2_with fail
  refine (hW _ (do_pre h _ _)).mono ?_
  rintro x w0 ⟨v, m, rfl, cv, e1⟩
  obtain ⟨s0, u0⟩ := do_eq h e1
  clear e1
  go_wp2_with fail
  refine (told_any _ _ _).mono ?_
  rintro x w1 ⟨rfl, b1⟩
  have s1 := s0.later b1
  have u1 := u0.trans (Upd.of_below b1)
  clear s0 u0 b1
  have T1 := do_T h u1
  obtain ⟨t1, t2, t3⟩ := T1.facts
  go_wp2
  refine ret_row Try.results11 rfl rfl (T1.set (i := 0) _ |>.set (i := 1) _ |>.set (i := 2) _ |>.set (i := 3) _) Try.underlying36 rfl (by kernel_rfl) ⟨by rw [← cv]; exact congrArg (fun u => Ending.returned (AnsV _ 0 u)) (text_can v).symm, do_fin h u1 s1 _ _ _ _⟩

set_option maxHeartbeats 1000000 in
theorem do_show (w : World) (p bl : Nat) (A : List Nat) (h : SerA w p bl A) (a b : Int) (c : Int) (s t : ByteArray) :
    Calls Try.prog 11 #[ptr p, OpV 10 a b c s t] w (DoR p bl w ((0, 0, showF A), A)) := by
  go_enter Try.func11, Try.ntmps11
  go_wp2_with fail
  refine (show_any _ p bl A (do_pre h _ _)).mono ?_
  rintro x w1 ⟨rfl, b1⟩
  have s1 := (do_pre h _ _).later b1
  have u1 := Upd.of_below (bs := [p, bl]) b1
  clear b1
  have T1 := do_T h u1
  obtain ⟨t1, t2, t3⟩ := T1.facts
  go_wp2
  refine ret_row Try.results11 rfl rfl (T1.set (i := 0) _ |>.set (i := 1) _ |>.set (i := 2) _ |>.set (i := 3) _) Try.underlying36 rfl (by kernel_rfl) ⟨rfl, do_fin h u1 s1 _ _ _ _⟩

set_option maxHeartbeats 1000000 in
theorem do_check (w : World) (p bl : Nat) (A : List Nat) (h : SerA w p bl A) (a b : Int) (c : Int) (s t : ByteArray) :
    Calls Try.prog 11 #[ptr p, OpV 11 a b c s t] w (DoR p bl w ((0, 1, []), A)) := by
  go_enter Try.func11, Try.ntmps11
  go_wp2_with fail
  refine (check_any _ p bl A (do_pre h _ _)).mono ?_
  rintro x w1 ⟨rfl, b1⟩
  have s1 := (do_pre h _ _).later b1
  have u1 := Upd.of_below (bs := [p, bl]) b1
  clear b1
  have T1 := do_T h u1
  obtain ⟨t1, t2, t3⟩ := T1.facts
  go_wp2
  refine ret_row Try.results11 rfl rfl (T1.set (i := 0) _ |>.set (i := 1) _ |>.set (i := 2) _ |>.set (i := 3) _) Try.underlying36 rfl (by kernel_rfl) ⟨rfl, do_fin h u1 s1 _ _ _ _⟩

set_option maxHeartbeats 1000000 in
theorem do_other (w : World) (p bl : Nat) (A : List Nat) (h : SerA w p bl A) (K a b : Int) (k1 : K ≠ 1) (k2 : K ≠ 2) (k3 : K ≠ 3) (k4 : K ≠ 4) (k5 : K ≠ 5) (k6 : K ≠ 6) (k7 : K ≠ 7) (k8 : K ≠ 8) (k9 : K ≠ 9) (k10 : K ≠ 10) (k11 : K ≠ 11) (c : Int) (s t : ByteArray) :
    Calls Try.prog 11 #[ptr p, OpV K a b c s t] w (DoR p bl w ((0, 0, []), A)) := by
  have e1 : (K == 1) = false := by simpa using k1
  have e2 : (K == 2) = false := by simpa using k2
  have e3 : (K == 3) = false := by simpa using k3
  have e4 : (K == 4) = false := by simpa using k4
  have e5 : (K == 5) = false := by simpa using k5
  have e6 : (K == 6) = false := by simpa using k6
  have e7 : (K == 7) = false := by simpa using k7
  have e8 : (K == 8) = false := by simpa using k8
  have e9 : (K == 9) = false := by simpa using k9
  have e10 : (K == 10) = false := by simpa using k10
  have e11 : (K == 11) = false := by simpa using k11
  clear k1 k2 k3 k4 k5 k6 k7 k8 k9 k10 k11
  go_enter Try.func11, Try.ntmps11
  go_wp2
  refine ret_row Try.results11 rfl rfl (Blk.new (World.size_alloc _ _).symm) Try.underlying36 rfl (by kernel_rfl) ⟨rfl, do_pre h _ _, ((Upd.refl _ _).alloc _).alloc _⟩

theorem do_any (w : World) (p bl : Nat) (A : List Nat) (h : SerA w p bl A) (K a b c : Int) (s t : ByteArray) :
    Calls Try.prog 11 #[ptr p, OpV K a b c s t] w (DoR p bl w (doA K a b A)) := by
  obtain ⟨-, -, -, h8⟩ := h.lt
  unfold doA
  by_cases k1 : K = 1
  · subst k1
    rw [if_pos rfl]
    split
    · exact do_full w p bl A h (by assumption) a b c s t
    · exact do_push w p bl A h (by omega) a b c s t
  rw [if_neg k1]
  by_cases k2 : K = 2
  · subst k2
    rw [if_pos rfl]
    split
    · exact do_empty w p bl A h (by assumption) a b c s t
    · exact do_pop w p bl A h (by assumption) a b c s t
  rw [if_neg k2]
  by_cases k3 : K = 3
  · subst k3
    rw [if_pos rfl]
    exact do_len w p bl A h a b c s t
  rw [if_neg k3]
  by_cases k4 : K = 4
  · subst k4
    rw [if_pos rfl]
    split
    · exact do_atx w p bl A h a b (by assumption) c s t
    · obtain ⟨i, rfl⟩ : ∃ i : Nat, a = (i : Int) := ⟨a.toNat, by omega⟩
      exact do_at w p bl A h i (by omega) b c s t
  rw [if_neg k4]
  by_cases k5 : K = 5
  · subst k5
    rw [if_pos rfl]
    split
    · exact do_wholex w p bl A h a b (by assumption) c s t
    · obtain ⟨i, rfl⟩ : ∃ i : Nat, a = (i : Int) := ⟨a.toNat, by omega⟩
      exact do_whole w p bl A h i (by omega) b _ _ rfl c s t
  rw [if_neg k5]
  by_cases k6 : K = 6
  · subst k6
    rw [if_pos rfl]
    exact do_sum w p bl A h a b c s t
  rw [if_neg k6]
  by_cases k7 : K = 7
  · subst k7
    rw [if_pos rfl]
    exact do_mean w p bl A h a b _ rfl c s t
  rw [if_neg k7]
  by_cases k8 : K = 8
  · subst k8
    rw [if_pos rfl]
    exact do_min w p bl A h a b _ rfl c s t
  rw [if_neg k8]
  by_cases k9 : K = 9
  · subst k9
    rw [if_pos rfl]
    exact do_max w p bl A h a b _ rfl c s t
  rw [if_neg k9]
  by_cases k10 : K = 10
  · subst k10
    rw [if_pos rfl]
    exact do_show w p bl A h a b c s t
  rw [if_neg k10]
  by_cases k11 : K = 11
  · subst k11
    rw [if_pos rfl]
    exact do_check w p bl A h a b c s t
  rw [if_neg k11]
  exact do_other w p bl A h K a b k1 k2 k3 k4 k5 k6 k7 k8 k9 k10 k11 c s t
end Go.Proofs.Qxb6500473a
