import Derived.Test.Qxb6500472aBm1
namespace Go.Proofs.Qxb6500472a
open Go.RowKit
attribute [local go_sem] run_store_float drewN_alloc drewN_setCell
set_option maxHeartbeats 1000000 in
theorem mCoord_any (n d : Int) (hn : i64 n) (hd : i64 d) (w : World) :
    Calls Try.prog 91 #[I n, I d] w fun e w' => ∃ r m, e = .returned (D32 r) ∧ can32 r = coordF n d ∧ w' = w.drewN m := by
  obtain ⟨rq, nq, hq, cq⟩ := arith_ex Try.prog .quo 80 .f64 (by simp)
  obtain ⟨rc, nc, hc, cc⟩ := conv_ex Try.prog 80 35 Try.underlying80 Try.underlying35
  have hr : ∀ W, can64 (rq (floatOfInt .f64 n) (floatOfInt .f64 d) W) = ratioF n d := fun W => (cq.out _ _ _).trans (by rw [can_ofInt, can_ofInt]; rfl)
  have hf : ∀ W, fits32 (rq (floatOfInt .f64 n) (floatOfInt .f64 d) W) = true := fun W => fit_can (hr W) (fit_ratio n d hn hd)
  have HR : Hid _ := hr
  clear hr hn hd cq
  go_enter Try.func91, Try.ntmps91
  go_wp2
  go_ret
  exact ⟨_, _, rfl, (cc.out _ _).trans (by rw [show can .f64 _ = _ from HR.out _]; rfl), rfl⟩
theorem axF_lo {A : List Nat} (h : A ≠ []) : (axF A).lo = conv32 (minF A) := by unfold axF; rw [if_neg h]; rfl
theorem axF_hi {A : List Nat} (h : A ≠ []) : (axF A).hi = conv32 (maxF A) := by unfold axF; rw [if_neg h]; rfl
theorem ma_min1 (w : World) (p : Nat) (o : Option Nat) (A : List Nat) (h : MA w p o A) (hA : A ≠ []) :
    Calls Try.prog 49 #[ptr p] w fun e w' => ∃ v, e = .returned (.tuple #[D64 v, I 0]) ∧ can64 v = minF A ∧ MPost p o w A w' := by
  have := ma_min w p o A h
  rw [if_neg hA] at this
  exact this
theorem ma_max1 (w : World) (p : Nat) (o : Option Nat) (A : List Nat) (h : MA w p o A) (hA : A ≠ []) :
    Calls Try.prog 50 #[ptr p] w fun e w' => ∃ v, e = .returned (.tuple #[D64 v, I 0]) ∧ can64 v = maxF A ∧ MPost p o w A w' := by
  have := ma_max w p o A h
  rw [if_neg hA] at this
  exact this
theorem len_ne {A : List Nat} (h : A ≠ []) : ((A.length : Int) == 0) = false := by simp; exact h
theorem other_nil {A B : List Nat} (len : B.length = A.length) (h : A ≠ []) : B ≠ [] := by intro e; rw [e] at len; exact h (List.eq_nil_of_length_eq_zero len.symm)

set_option maxHeartbeats 2000000 in
theorem mbCorner_none (w : World) (q : Nat) (L A B : List Nat) (h : BM w q L A B) (k : Int) (hA : A = []) :
    Calls Try.prog 82 #[ptr q, I k] w fun e w' => ∃ v, e = .returned (.tuple #[D32 v, I 2]) ∧ can32 v = 0 ∧ BPost q L w A B w' := by
  obtain ⟨qx, qy, ox, oy, h, rfl⟩ := h
  obtain ⟨c0, c1, lq⟩ := h.at0
  have ML := ma_len w qx ox A h.mx
  rw [show A.length = 0 from by rw [hA]; rfl] at ML
  clear hA
  go_enter Try.func82, Try.ntmps82
  go_wp2_with fail
  refine ML.mono ?_
  rintro e w1 ⟨rfl, m1⟩
  obtain ⟨ox1, h1, n1, u1⟩ := h.stepX m1
  clear c0 c1 lq ML m1
  go_wp2
  go_ret2
  exact ⟨0, rfl, can32_zero, _, ⟨qx, qy, ox1, oy, h1, rfl⟩, n1, u1⟩

set_option maxHeartbeats 2000000 in
theorem mbCorner_0 (w : World) (q : Nat) (L A B : List Nat) (h : BM w q L A B) (hA : A ≠ []) (len : B.length = A.length) (fx : Fits A) (_fy : Fits B) :
    Calls Try.prog 82 #[ptr q, I 0] w fun e w' => ∃ v, e = .returned (.tuple #[D32 v, I 0]) ∧ can32 v = (axF A).lo ∧ BPost q L w A B w' := by
  obtain ⟨qx, qy, ox, oy, h, rfl⟩ := h
  obtain ⟨c0, c1, lq⟩ := h.at0
  have ML := ma_len w qx ox A h.mx
  have hz := len_ne hA
  have hB := other_nil len hA
  have MV := fun V o hV => ma_min1 V qx o A hV hA
  have hf := fits_min A fx
  rw [axF_lo hA]
  obtain ⟨rc, nc, hc, cc⟩ := conv_ex Try.prog 80 35 Try.underlying80 Try.underlying35
  clear hA hB len fx _fy
  go_enter Try.func82, Try.ntmps82
  go_wp2_with fail
  refine ML.mono ?_
  rintro e w1 ⟨rfl, m1⟩
  obtain ⟨ox1, h1, n1, u1⟩ := h.stepX m1
  clear c0 c1 lq ML m1
  obtain ⟨c0, c1, lq⟩ := h1.at0
  go_wp2_with fail
  refine (MV _ _ h1.mx).mono ?_
  rintro e w2 ⟨v, rfl, cv, m2⟩
  obtain ⟨o2, h2, n2, u2⟩ := h1.stepX m2
  have hfv := fit_can cv hf
  clear c0 c1 lq MV m2
  go_wp2
  go_ret2
  exact ⟨_, rfl, (cc.out _ _).trans (by rw [show can .f64 v = _ from cv]), .trans n1 u1 (BPost.later ⟨_, ⟨qx, qy, o2, oy, h2, rfl⟩, n2, u2⟩ (Below.drewN (Below.refl _ _) _))⟩

set_option maxHeartbeats 2000000 in
theorem mbCorner_1 (w : World) (q : Nat) (L A B : List Nat) (h : BM w q L A B) (hA : A ≠ []) (len : B.length = A.length) (_fx : Fits A) (fy : Fits B) :
    Calls Try.prog 82 #[ptr q, I 1] w fun e w' => ∃ v, e = .returned (.tuple #[D32 v, I 0]) ∧ can32 v = (axF B).lo ∧ BPost q L w A B w' := by
  obtain ⟨qx, qy, ox, oy, h, rfl⟩ := h
  obtain ⟨c0, c1, lq⟩ := h.at0
  have ML := ma_len w qx ox A h.mx
  have hz := len_ne hA
  have hB := other_nil len hA
  have MV := fun V o hV => ma_min1 V qy o B hV hB
  have hf := fits_min B fy
  rw [axF_lo hB]
  obtain ⟨rc, nc, hc, cc⟩ := conv_ex Try.prog 80 35 Try.underlying80 Try.underlying35
  clear hA hB len _fx fy
  go_enter Try.func82, Try.ntmps82
  go_wp2_with fail
  refine ML.mono ?_
  rintro e w1 ⟨rfl, m1⟩
  obtain ⟨ox1, h1, n1, u1⟩ := h.stepX m1
  clear c0 c1 lq ML m1
  obtain ⟨c0, c1, lq⟩ := h1.at0
  go_wp2_with fail
  refine (MV _ _ h1.my).mono ?_
  rintro e w2 ⟨v, rfl, cv, m2⟩
  obtain ⟨o2, h2, n2, u2⟩ := h1.stepY m2
  have hfv := fit_can cv hf
  clear c0 c1 lq MV m2
  go_wp2
  go_ret2
  exact ⟨_, rfl, (cc.out _ _).trans (by rw [show can .f64 v = _ from cv]), .trans n1 u1 (BPost.later ⟨_, ⟨qx, qy, ox1, o2, h2, rfl⟩, n2, u2⟩ (Below.drewN (Below.refl _ _) _))⟩

set_option maxHeartbeats 2000000 in
theorem mbCorner_2 (w : World) (q : Nat) (L A B : List Nat) (h : BM w q L A B) (hA : A ≠ []) (len : B.length = A.length) (fx : Fits A) (_fy : Fits B) :
    Calls Try.prog 82 #[ptr q, I 2] w fun e w' => ∃ v, e = .returned (.tuple #[D32 v, I 0]) ∧ can32 v = (axF A).hi ∧ BPost q L w A B w' := by
  obtain ⟨qx, qy, ox, oy, h, rfl⟩ := h
  obtain ⟨c0, c1, lq⟩ := h.at0
  have ML := ma_len w qx ox A h.mx
  have hz := len_ne hA
  have hB := other_nil len hA
  have MV := fun V o hV => ma_max1 V qx o A hV hA
  have hf := fits_max A fx
  rw [axF_hi hA]
  obtain ⟨rc, nc, hc, cc⟩ := conv_ex Try.prog 80 35 Try.underlying80 Try.underlying35
  clear hA hB len fx _fy
  go_enter Try.func82, Try.ntmps82
  go_wp2_with fail
  refine ML.mono ?_
  rintro e w1 ⟨rfl, m1⟩
  obtain ⟨ox1, h1, n1, u1⟩ := h.stepX m1
  clear c0 c1 lq ML m1
  obtain ⟨c0, c1, lq⟩ := h1.at0
  go_wp2_with fail
  refine (MV _ _ h1.mx).mono ?_
  rintro e w2 ⟨v, rfl, cv, m2⟩
  obtain ⟨o2, h2, n2, u2⟩ := h1.stepX m2
  have hfv := fit_can cv hf
  clear c0 c1 lq MV m2
  go_wp2
  go_ret2
  exact ⟨_, rfl, (cc.out _ _).trans (by rw [show can .f64 v = _ from cv]), .trans n1 u1 (BPost.later ⟨_, ⟨qx, qy, o2, oy, h2, rfl⟩, n2, u2⟩ (Below.drewN (Below.refl _ _) _))⟩

set_option maxHeartbeats 2000000 in
theorem mbCorner_3 (w : World) (q : Nat) (L A B : List Nat) (h : BM w q L A B) (hA : A ≠ []) (len : B.length = A.length) (_fx : Fits A) (fy : Fits B) :
    Calls Try.prog 82 #[ptr q, I 3] w fun e w' => ∃ v, e = .returned (.tuple #[D32 v, I 0]) ∧ can32 v = (axF B).hi ∧ BPost q L w A B w' := by
  obtain ⟨qx, qy, ox, oy, h, rfl⟩ := h
  obtain ⟨c0, c1, lq⟩ := h.at0
  have ML := ma_len w qx ox A h.mx
  have hz := len_ne hA
  have hB := other_nil len hA
  have MV := fun V o hV => ma_max1 V qy o B hV hB
  have hf := fits_max B fy
  rw [axF_hi hB]
  obtain ⟨rc, nc, hc, cc⟩ := conv_ex Try.prog 80 35 Try.underlying80 Try.underlying35
  clear hA hB len _fx fy
  go_enter Try.func82, Try.ntmps82
  go_wp2_with fail
  refine ML.mono ?_
  rintro e w1 ⟨rfl, m1⟩
  obtain ⟨ox1, h1, n1, u1⟩ := h.stepX m1
  clear c0 c1 lq ML m1
  obtain ⟨c0, c1, lq⟩ := h1.at0
  go_wp2_with fail
  refine (MV _ _ h1.my).mono ?_
  rintro e w2 ⟨v, rfl, cv, m2⟩
  obtain ⟨o2, h2, n2, u2⟩ := h1.stepY m2
  have hfv := fit_can cv hf
  clear c0 c1 lq MV m2
  go_wp2
  go_ret2
  exact ⟨_, rfl, (cc.out _ _).trans (by rw [show can .f64 v = _ from cv]), .trans n1 u1 (BPost.later ⟨_, ⟨qx, qy, ox1, o2, h2, rfl⟩, n2, u2⟩ (Below.drewN (Below.refl _ _) _))⟩

set_option maxHeartbeats 2000000 in
theorem mbCorner_out (w : World) (q : Nat) (L A B : List Nat) (h : BM w q L A B) (hA : A ≠ []) (k : Int) (k0 : k ≠ 0) (k1 : k ≠ 1) (k2 : k ≠ 2) (k3 : k ≠ 3) :
    Calls Try.prog 82 #[ptr q, I k] w fun e w' => ∃ v, e = .returned (.tuple #[D32 v, I 3]) ∧ can32 v = 0 ∧ BPost q L w A B w' := by
  obtain ⟨qx, qy, ox, oy, h, rfl⟩ := h
  obtain ⟨c0, c1, lq⟩ := h.at0
  have ML := ma_len w qx ox A h.mx
  have hz := len_ne hA
  have e0 : (k == 0) = false := by simpa using k0
  have e1 : (k == 1) = false := by simpa using k1
  have e2 : (k == 2) = false := by simpa using k2
  have e3 : (k == 3) = false := by simpa using k3
  clear hA
  go_enter Try.func82, Try.ntmps82
  go_wp2_with fail
  refine ML.mono ?_
  rintro e w1 ⟨rfl, m1⟩
  obtain ⟨ox1, h1, n1, u1⟩ := h.stepX m1
  clear c0 c1 lq ML m1
  go_wp2
  go_ret2
  exact ⟨0, rfl, can32_zero, _, ⟨qx, qy, ox1, oy, h1, rfl⟩, n1, u1⟩

theorem mbCorner_any (w : World) (q : Nat) (L A B : List Nat) (h : BM w q L A B) (len : B.length = A.length) (fx : Fits A) (fy : Fits B) (k : Int) :
    Calls Try.prog 82 #[ptr q, I k] w fun e w' => ∃ v, e = .returned (.tuple #[D32 v, I (cornA A B k).2]) ∧ can32 v = (cornA A B k).1 ∧ BPost q L w A B w' := by
  unfold cornA
  by_cases hA : A = []
  · rw [if_pos hA]; exact mbCorner_none w q L A B h k hA
  rw [if_neg hA]
  by_cases k0 : k = 0
  · subst k0; rw [if_pos rfl]; exact mbCorner_0 w q L A B h hA len fx fy
  rw [if_neg k0]
  by_cases k1 : k = 1
  · subst k1; rw [if_pos rfl]; exact mbCorner_1 w q L A B h hA len fx fy
  rw [if_neg k1]
  by_cases k2 : k = 2
  · subst k2; rw [if_pos rfl]; exact mbCorner_2 w q L A B h hA len fx fy
  rw [if_neg k2]
  by_cases k3 : k = 3
  · subst k3; rw [if_pos rfl]; exact mbCorner_3 w q L A B h hA len fx fy
  rw [if_neg k3]
  exact mbCorner_out w q L A B h hA k k0 k1 k2 k3
set_option maxHeartbeats 2000000 in
theorem four_any (w : World) (q : Nat) (L A B : List Nat) (h : BM w q L A B) (hA : A ≠ []) (len : B.length = A.length) (fx : Fits A) (fy : Fits B) :
    Calls Try.prog 90 #[ptr q] w fun e w' => ∃ a b c d, e = .returned (.tuple #[D32 a, D32 b, D32 c, D32 d]) ∧ can32 a = (axF A).lo ∧ can32 b = (axF B).lo ∧ can32 c = (axF A).hi ∧ can32 d = (axF B).hi ∧ BPost q L w A B w' := by
  go_enter Try.func90, Try.ntmps90
  go_wp2_with fail
  refine (mbCorner_0 w q L A B h hA len fx fy).mono ?_
  rintro e w1 ⟨a, rfl, ca, L1, h1, n1, u1⟩
  go_wp2_with fail
  refine (mbCorner_1 w1 q L1 A B h1 hA len fx fy).mono ?_
  rintro e w2 ⟨b, rfl, cb, L2, h2, n2, u2⟩
  go_wp2_with fail
  refine (mbCorner_2 w2 q L2 A B h2 hA len fx fy).mono ?_
  rintro e w3 ⟨c, rfl, cc, L3, h3, n3, u3⟩
  go_wp2_with fail
  refine (mbCorner_3 w3 q L3 A B h3 hA len fx fy).mono ?_
  rintro e w4 ⟨d, rfl, cd, L4, h4, n4, u4⟩
  go_wp2
  refine bodyPost_ret (v := .tuple #[D32 a, D32 b, D32 c, D32 d]) (by simp [results, Try.results90, go_sem]) rfl ⟨a, b, c, d, rfl, ca, cb, cc, cd, .trans n1 u1 (.trans n2 u2 (.trans n3 u3 ⟨L4, h4, n4, u4⟩))⟩
end Go.Proofs.Qxb6500472a
