import Derived.Test.Qxb6500472aKw2
import Derived.Test.Qxb6500472aKf4
namespace Go.Proofs.Qxb6500472a
open Go.RowKit
attribute [local go_sem] run_store_float drewN_alloc drewN_setCell
theorem lCoordB (n d : Int) (hn : i64 n) (hd : i64 d) (w : World) :
    Calls Try.prog 56 #[I n, I d] w fun e w' => ∃ r, e = .returned (D32 r) ∧ can32 r = coordF n d ∧ Below w.heap.size w w' := by
  refine (lCoord_any n d hn hd w).mono ?_
  rintro e w' ⟨r, m, rfl, cr, rfl⟩
  exact ⟨r, rfl, cr, b_drew m⟩
theorem withinB (v lo hi : Nat) (H : withinF v lo hi = true) (w : World) :
    Calls Try.prog 52 #[D32 v, D32 lo, D32 hi] w fun e w' => e = .returned (.bool true) ∧ Below w.heap.size w w' := by
  refine (within_any v lo hi H w).mono ?_
  rintro e w' ⟨rfl, rfl⟩
  exact ⟨rfl, Below.refl _ _⟩
theorem finiteB (a b A B : Nat) (ha : can32 a = A) (hb : can32 b = B) (F : Bool) (hF : (eq32 (sub32 A A) 0 && eq32 (sub32 B B) 0) = F) (w : World) :
    Calls Try.prog 57 #[D32 a, D32 b] w fun e w' => e = .returned (.bool F) ∧ Below w.heap.size w w' := by
  subst hF
  refine (finite_any a b A B ha hb w).mono ?_
  rintro e w' ⟨rfl, m, rfl⟩
  exact ⟨rfl, b_drew m⟩
theorem owedB (inn : Bool) (wx wy WX WY : Nat) (hx : can32 wx = WX) (hy : can32 wy = WY) (f : Int) (hf : f = if inn then (if wideB WX && wideB WY then 0 else 6) else 5) (w : World) :
    Calls Try.prog 58 #[.bool inn, D32 wx, D32 wy, I f] w fun e w' => e = .returned (.bool true) ∧ Below w.heap.size w w' := by
  refine (owed_any inn wx wy WX WY hx hy f hf w).mono ?_
  rintro e w' ⟨rfl, m, rfl⟩
  exact ⟨rfl, b_drew m⟩
theorem lPartB (p lo hi : Nat) (P LO HI : Nat) (hp : can32 p = P) (hlo : can32 lo = LO) (hhi : can32 hi = HI) (hin : partIn (fracF (axOf LO HI) P) = true) (K : Int) (hK : colF LO HI P = K) (w : World) :
    Calls Try.prog 59 #[D32 p, D32 lo, D32 hi] w fun e w' => e = .returned (I K) ∧ Below w.heap.size w w' := by
  subst hK
  refine (lPart_any p lo hi P LO HI hp hlo hhi hin w).mono ?_
  rintro e w' ⟨rfl, m, rfl⟩
  exact ⟨rfl, b_drew m⟩

set_option maxRecDepth 100000 in
set_option maxHeartbeats 8000000 in
theorem means_empty (w : World) (b px bx py bY : Nat) (A B : List Nat) (h : BoxA w b px bx py bY A B) (hA : A = []) (K a j c E : Int) (s t : ByteArray) :
    Calls Try.prog 24 #[ptr b, OpV K a j c s t, I E] w fun e w' => e = .returned (.bool true) ∧ Below w.heap.size w w' := by
  subst hA
  have b0 : Below w.heap.size w (w.alloc (.cells #[I K, I a, I j, I c, .string s, .string t] 48)) := (Below.refl _ _).alloc (Nat.le_refl _) _
  have P0 : Blk (w.alloc (.cells #[I K, I a, I j, I c, .string s, .string t] 48)) w.heap.size #[I K, I a, I j, I c, .string s, .string t] 48 := Blk.new rfl
  have H : ∀ V, Below w.heap.size w V → BoxA V b px bx py bY [] B := fun V hV => h.later hV
  go_enter Try.func24, Try.ntmps24
  go_wp2_with fail
  refine (bCornerZ _ b px bx py bY B (H _ b0) 0).mono ?_
  rintro e w1 ⟨lox, rfl, c0, rfl⟩
  clear c0
  go_wp2
  go_ret
  exact ⟨rfl, b0⟩

set_option maxRecDepth 100000 in
set_option maxHeartbeats 8000000 in
theorem means_other (w : World) (b px bx py bY : Nat) (A B : List Nat) (h : BoxA w b px bx py bY A B) (hA : A ≠ []) (K a j c E : Int) (k1 : K ≠ 1) (k5 : K ≠ 5) (k6 : K ≠ 6) (k7 : K ≠ 7) (k8 : K ≠ 8) (s t : ByteArray) :
    Calls Try.prog 24 #[ptr b, OpV K a j c s t, I E] w fun e w' => e = .returned (.bool true) ∧ Below w.heap.size w w' := by
  have e1 : (K == 1) = false := by simpa using k1
  have e5 : (K == 5) = false := by simpa using k5
  have e6 : (K == 6) = false := by simpa using k6
  have e7 : (K == 7) = false := by simpa using k7
  have e8 : (K == 8) = false := by simpa using k8
  clear k1 k5 k6 k7 k8
  have b0 : Below w.heap.size w (w.alloc (.cells #[I K, I a, I j, I c, .string s, .string t] 48)) := (Below.refl _ _).alloc (Nat.le_refl _) _
  have P0 : Blk (w.alloc (.cells #[I K, I a, I j, I c, .string s, .string t] 48)) w.heap.size #[I K, I a, I j, I c, .string s, .string t] 48 := Blk.new rfl
  have H : ∀ V, Below w.heap.size w V → BoxA V b px bx py bY A B := fun V hV => h.later hV
  go_enter Try.func24, Try.ntmps24
  go_wp2_with fail
  refine (bCorner0 _ b px bx py bY A B (H _ b0) hA).mono ?_
  rintro e w1 ⟨lox, rfl, c0, rfl⟩
  have C0 : Hid _ := c0
  clear c0
  go_wp2_with fail
  refine (bCorner1 _ b px bx py bY A B (H _ b0) hA).mono ?_
  rintro e w1 ⟨loy, rfl, c1, rfl⟩
  have C1 : Hid _ := c1
  clear c1
  go_wp2_with fail
  refine (bCorner2 _ b px bx py bY A B (H _ b0) hA).mono ?_
  rintro e w1 ⟨hix, rfl, c2, rfl⟩
  have C2 : Hid _ := c2
  clear c2
  go_wp2_with fail
  refine (bCorner3 _ b px bx py bY A B (H _ b0) hA).mono ?_
  rintro e w1 ⟨hiy, rfl, c3, rfl⟩
  have C3 : Hid _ := c3
  clear c3
  go_wp2
  go_ret
  exact ⟨rfl, b0⟩

set_option maxRecDepth 100000 in
set_option maxHeartbeats 8000000 in
theorem means_add0 (w : World) (b px bx py bY : Nat) (A B : List Nat) (h : BoxA w b px bx py bY A B) (hA : A ≠ []) (a j c : Int) (ha : i64 a) (hj : i64 j) (hc : i64 c) (hL : (∃ i, i < A.length ∧ A.getD i 0 = ratioF a c) ∧ ∃ i, i < B.length ∧ B.getD i 0 = ratioF j c) (s t : ByteArray) :
    Calls Try.prog 24 #[ptr b, OpV 1 a j c s t, I 0] w fun e w' => e = .returned (.bool true) ∧ Below w.heap.size w w' := by
  obtain ⟨X, hX⟩ : ∃ X, ((ge32 (coordF a c) (axF A).lo && le32 (coordF a c) (axF A).hi) && (ge32 (coordF j c) (axF B).lo && le32 (coordF j c) (axF B).hi)) = X := ⟨_, rfl⟩
  have IN := fun V hV => bInside1 V b px bx py bY A B hV hA a j c ha hj hc X hX
  obtain ⟨n1, h1⟩ : ∃ n, (!isNan .f32 (coordF a c)) = !n := ⟨_, rfl⟩
  obtain ⟨n2, h2⟩ : ∃ n, (!isNan .f32 (coordF j c)) = !n := ⟨_, rfl⟩
  obtain ⟨n3, h3⟩ : ∃ n, (!isNan .f32 (axF A).lo) = !n := ⟨_, rfl⟩
  obtain ⟨n4, h4⟩ : ∃ n, (!isNan .f32 (axF B).lo) = !n := ⟨_, rfl⟩
  have hB := other_nil h.len hA
  have XX : n1 = false → n2 = false → n3 = false → n4 = false → X = true := by
    rintro rfl rfl rfl rfl
    simp only [Bool.not_false, Bool.not_eq_true'] at h1 h2 h3 h4
    obtain ⟨⟨i1, l1, e1⟩, ⟨i2, l2, e2⟩⟩ := hL
    have w1 := box_law A hA i1 l1
    have w2 := box_law B hB i2 l2
    rw [e1] at w1
    rw [e2] at w2
    have o1 := (axF_nan hA).2
    have o2 := (axF_nan hB).2
    rw [← (axF_nan hA).1, h3] at o1
    rw [← (axF_nan hB).1, h4] at o2
    unfold withinF at w1 w2
    have h1' : isNan .f32 (conv32 (ratioF a c)) = false := h1
    have h2' : isNan .f32 (conv32 (ratioF j c)) = false := h2
    rw [h1', h3, o1] at w1
    rw [h2', h4, o2] at w2
    simp only [Bool.false_or, Bool.and_eq_true] at w1 w2
    rw [← hX]
    simp only [Bool.and_eq_true]
    exact ⟨⟨(ge32_iff _ _).2 ⟨h1, h3, ((le32_iff _ _).1 w1.1).2.2⟩, w1.2⟩, ⟨(ge32_iff _ _).2 ⟨h2, h4, ((le32_iff _ _).1 w2.1).2.2⟩, w2.2⟩⟩
  have N1 : Hid _ := h1
  have N2 : Hid _ := h2
  have N3 : Hid _ := h3
  have N4 : Hid _ := h4
  clear hX hL h1 h2 h3 h4 hB
  have b0 : Below w.heap.size w (w.alloc (.cells #[I 1, I a, I j, I c, .string s, .string t] 48)) := (Below.refl _ _).alloc (Nat.le_refl _) _
  have P0 : Blk (w.alloc (.cells #[I 1, I a, I j, I c, .string s, .string t] 48)) w.heap.size #[I 1, I a, I j, I c, .string s, .string t] 48 := Blk.new rfl
  have H : ∀ V, Below w.heap.size w V → BoxA V b px bx py bY A B := fun V hV => h.later hV
  go_enter Try.func24, Try.ntmps24
  go_wp2_with fail
  refine (bCorner0 _ b px bx py bY A B (H _ b0) hA).mono ?_
  rintro e w1 ⟨lox, rfl, c0, rfl⟩
  have C0 : Hid _ := c0
  clear c0
  go_wp2_with fail
  refine (bCorner1 _ b px bx py bY A B (H _ b0) hA).mono ?_
  rintro e w1 ⟨loy, rfl, c1, rfl⟩
  have C1 : Hid _ := c1
  clear c1
  go_wp2_with fail
  refine (bCorner2 _ b px bx py bY A B (H _ b0) hA).mono ?_
  rintro e w1 ⟨hix, rfl, c2, rfl⟩
  have C2 : Hid _ := c2
  clear c2
  go_wp2_with fail
  refine (bCorner3 _ b px bx py bY A B (H _ b0) hA).mono ?_
  rintro e w1 ⟨hiy, rfl, c3, rfl⟩
  have C3 : Hid _ := c3
  clear c3
  go_wp2_with fail
  refine (placed_any _ b px bx py bY A B (H _ b0) hA 1 a j c ha hj hc s t lox loy hix hiy C0.out C1.out C2.out C3.out).mono ?_
  rintro e w1 ⟨rfl, B1⟩
  have P1 := P0.below B1 P0.lt
  have b1 := b0.trans (B1.mono b0.size)
  clear P0 b0 B1
  obtain ⟨q1, q2, q3⟩ := P1.facts
  go_wp2_with fail
  refine (lCoordB a c ha hc _).mono ?_
  rintro e w2 ⟨p, rfl, cp, B2⟩
  have CP : Hid _ := cp
  clear cp
  have P2 := P1.below B2 P1.lt
  have b2 := b1.trans (B2.mono b1.size)
  clear q1 q2 q3
  clear P1 b1 B2
  obtain ⟨q1, q2, q3⟩ := P2.facts
  go_wp2_with fail
  refine (lCoordB j c hj hc _).mono ?_
  rintro e w3 ⟨r, rfl, cr, B3⟩
  have CR : Hid _ := cr
  clear cr
  have P3 := P2.below B3 P2.lt
  have b3 := b2.trans (B3.mono b2.size)
  clear q1 q2 q3
  clear P2 b2 B3
  obtain ⟨q1, q2, q3⟩ := P3.facts
  go_wp2_with fail
  refine (IN _ (H _ b3)).mono ?_
  rintro e w4 ⟨rfl, B4⟩
  have P4 := P3.below B4 P3.lt
  have b4 := b3.trans (B4.mono b3.size)
  clear q1 q2 q3
  clear P3 b3 B4
  obtain ⟨q1, q2, q3⟩ := P4.facts
  have f1 := (eq_selfK .f32 p).trans (by rw [nan_of_can CP.out, N1.out])
  have f2 := (eq_selfK .f32 r).trans (by rw [nan_of_can CR.out, N2.out])
  have f3 := (eq_selfK .f32 lox).trans (by rw [nan_of_can C0.out, N3.out])
  have f4 := (eq_selfK .f32 loy).trans (by rw [nan_of_can C1.out, N4.out])
  clear CP CR C0 C1 C2 C3 N1 N2 N3 N4
  cases n1 with
  | true =>
    go_wp2
    go_ret
    exact ⟨rfl, b4⟩
  | false =>
    cases n2 with
    | true =>
      go_wp2
      go_ret
      exact ⟨rfl, b4⟩
    | false =>
      cases n3 with
      | true =>
        go_wp2
        go_ret
        exact ⟨rfl, b4⟩
      | false =>
        cases n4 with
        | true =>
          go_wp2
          go_ret
          exact ⟨rfl, b4⟩
        | false =>
          go_wp2
          go_ret
          exact ⟨rfl, b4⟩

set_option maxRecDepth 100000 in
set_option maxHeartbeats 8000000 in
theorem means_add1 (w : World) (b px bx py bY : Nat) (A B : List Nat) (h : BoxA w b px bx py bY A B) (hA : A ≠ []) (a j c E : Int) (hE : E ≠ 0) (ha : i64 a) (hj : i64 j) (hc : i64 c) (s t : ByteArray) :
    Calls Try.prog 24 #[ptr b, OpV 1 a j c s t, I E] w fun e w' => e = .returned (.bool true) ∧ Below w.heap.size w w' := by
  have hE0 : (E == 0) = false := by simpa using hE
  obtain ⟨X, hX⟩ : ∃ X, ((ge32 (coordF a c) (axF A).lo && le32 (coordF a c) (axF A).hi) && (ge32 (coordF j c) (axF B).lo && le32 (coordF j c) (axF B).hi)) = X := ⟨_, rfl⟩
  have IN := fun V hV => bInside1 V b px bx py bY A B hV hA a j c ha hj hc X hX
  clear hX hE
  have b0 : Below w.heap.size w (w.alloc (.cells #[I 1, I a, I j, I c, .string s, .string t] 48)) := (Below.refl _ _).alloc (Nat.le_refl _) _
  have P0 : Blk (w.alloc (.cells #[I 1, I a, I j, I c, .string s, .string t] 48)) w.heap.size #[I 1, I a, I j, I c, .string s, .string t] 48 := Blk.new rfl
  have H : ∀ V, Below w.heap.size w V → BoxA V b px bx py bY A B := fun V hV => h.later hV
  go_enter Try.func24, Try.ntmps24
  go_wp2_with fail
  refine (bCorner0 _ b px bx py bY A B (H _ b0) hA).mono ?_
  rintro e w1 ⟨lox, rfl, c0, rfl⟩
  have C0 : Hid _ := c0
  clear c0
  go_wp2_with fail
  refine (bCorner1 _ b px bx py bY A B (H _ b0) hA).mono ?_
  rintro e w1 ⟨loy, rfl, c1, rfl⟩
  have C1 : Hid _ := c1
  clear c1
  go_wp2_with fail
  refine (bCorner2 _ b px bx py bY A B (H _ b0) hA).mono ?_
  rintro e w1 ⟨hix, rfl, c2, rfl⟩
  have C2 : Hid _ := c2
  clear c2
  go_wp2_with fail
  refine (bCorner3 _ b px bx py bY A B (H _ b0) hA).mono ?_
  rintro e w1 ⟨hiy, rfl, c3, rfl⟩
  have C3 : Hid _ := c3
  clear c3
  go_wp2_with fail
  refine (placed_any _ b px bx py bY A B (H _ b0) hA 1 a j c ha hj hc s t lox loy hix hiy C0.out C1.out C2.out C3.out).mono ?_
  rintro e w1 ⟨rfl, B1⟩
  have P1 := P0.below B1 P0.lt
  have b1 := b0.trans (B1.mono b0.size)
  clear P0 b0 B1
  obtain ⟨q1, q2, q3⟩ := P1.facts
  go_wp2_with fail
  refine (lCoordB a c ha hc _).mono ?_
  rintro e w2 ⟨p, rfl, cp, B2⟩
  have CP : Hid _ := cp
  clear cp
  have P2 := P1.below B2 P1.lt
  have b2 := b1.trans (B2.mono b1.size)
  clear q1 q2 q3
  clear P1 b1 B2
  obtain ⟨q1, q2, q3⟩ := P2.facts
  go_wp2_with fail
  refine (lCoordB j c hj hc _).mono ?_
  rintro e w3 ⟨r, rfl, cr, B3⟩
  have CR : Hid _ := cr
  clear cr
  have P3 := P2.below B3 P2.lt
  have b3 := b2.trans (B3.mono b2.size)
  clear q1 q2 q3
  clear P2 b2 B3
  obtain ⟨q1, q2, q3⟩ := P3.facts
  go_wp2_with fail
  refine (IN _ (H _ b3)).mono ?_
  rintro e w4 ⟨rfl, B4⟩
  have P4 := P3.below B4 P3.lt
  have b4 := b3.trans (B4.mono b3.size)
  clear q1 q2 q3
  clear P3 b3 B4
  obtain ⟨q1, q2, q3⟩ := P4.facts
  clear CP CR
  go_wp2
  go_ret
  exact ⟨rfl, b4⟩
end Go.Proofs.Qxb6500472a
