import Derived.Test.Qxb6500472aHo3
import Derived.Test.Qxb6500472aKw3
namespace Go.Proofs.Qxb6500472a
open Go.RowKit
attribute [local go_sem] run_store_float drewN_alloc drewN_setCell
/-- Has one of the first j coordinates, as float32, met the corner c? -/
def tch (A : List Nat) (c : Nat) (j : Nat) : Bool := (List.range j).any fun i => eq32 (conv32 (A.getD i 0)) c
theorem tch_succ (A : List Nat) (c j : Nat) : tch A c (j + 1) = (tch A c j || eq32 (conv32 (A.getD j 0)) c) := by
  unfold tch
  rw [List.range_succ, List.any_append]
  simp
theorem tch_of {A : List Nat} {c j i : Nat} (hi : i < j) (h : eq32 (conv32 (A.getD i 0)) c = true) : tch A c j = true := by
  unfold tch
  rw [List.any_eq_true]
  exact ⟨i, List.mem_range.2 hi, h⟩
theorem tch_all {A : List Nat} {c : Nat} (h : ∃ j, j < A.length ∧ eq32 (conv32 (A.getD j 0)) c = true) : tch A c A.length = true := by
  obtain ⟨j, h1, h2⟩ := h
  exact tch_of h1 h2
def four (a b c d : Bool) : Int := (if a then 1 else 0) + (if b then 2 else 0) + (if c then 4 else 0) + (if d then 8 else 0)
theorem four_step : ∀ a b c d x1 x2 y1 y2 : Bool, bits BinOp.or IntKind.i64 (bits BinOp.or IntKind.i64 (four a b c d) (touchI x1 x2)) (touchI y1 y2 * 2) = four (a || x1) (b || y1) (c || x2) (d || y2) := by decide +kernel
theorem four_and5 : ∀ b d : Bool, bits BinOp.and IntKind.i64 (four true b true d) 5 = 5 := by decide +kernel
theorem four_and10 : ∀ b d : Bool, bits BinOp.and IntKind.i64 (four b true d true) 10 = 10 := by decide +kernel
theorem touch_bd : ∀ a b : Bool, 0 ≤ touchI a b ∧ touchI a b ≤ 5 := by decide
/-- Inside Bounds: both sides, and the boxed pair. -/
structure BSt (L0 : List Nat) (w0 : World) (N : Nat) (V : World) (g b px bx py bY q hx hy : Nat) (L A B : List Nat) (G : Nat) : Prop where
  two : TwoK N V g b px bx py bY q hx hy L A B A B
  ow : Blk V G #[ptr hx, ptr hy] 42
  oL : G ∉ L
  f1 : ∀ k, k ∈ L → k ∈ L0 ∨ w0.heap.size ≤ k
  f2 : Upd L0 w0 V
theorem BSt.later {L0 : List Nat} {w0 : World} {N : Nat} {V V' : World} {g b px bx py bY q hx hy : Nat} {L A B : List Nat} {G : Nat} (h : BSt L0 w0 N V g b px bx py bY q hx hy L A B G) (u : Below V.heap.size V V') : BSt L0 w0 N V' g b px bx py bY q hx hy L A B G :=
  ⟨h.two.later u, h.ow.below u h.ow.lt, h.oL, h.f1, h.f2.trans (Upd.of_below u)⟩
theorem BSt.step {L0 : List Nat} {w0 : World} {N : Nat} {V V' : World} {g b px bx py bY q hx hy : Nat} {L A B : List Nat} {G : Nat} (h : BSt L0 w0 N V g b px bx py bY q hx hy L A B G) (p : HPost q hx hy L V A B V') : (∃ L', BSt L0 w0 N V' g b px bx py bY q hx hy L' A B G) ∧ Below N V V' := by
  have l0 := h.ow.lt
  have a1 := p.blk h.ow h.oL
  obtain ⟨L', m, n, u⟩ := p
  refine ⟨⟨L', ⟨h.two.real.upd u (fun k hk => (h.two.nr k hk).2), m, h.two.hand.upd u h.two.gm, ?_, ?_, h.two.gr, ?_⟩, a1, ?_, ?_, ?_⟩, u.below h.two.size h.two.nm⟩
  · intro k hk
    refine ⟨(h.two.nr k hk).1, fun hm => ?_⟩
    rcases n k hm with e | e
    · exact (h.two.nr k hk).2 e
    · have := h.two.real.lt.1 k hk; omega
  · intro k hk
    rcases n k hk with e | e
    · exact h.two.nm k e
    · have := h.two.size; omega
  · intro hm
    rcases n g hm with e | e
    · exact h.two.gm e
    · have := h.two.hand.lt; omega
  · intro hm
    rcases n G hm with e | e
    · exact h.oL e
    · omega
  · intro k hk
    have := h.f2.size
    rcases n k hk with e | e
    · exact h.f1 k e
    · exact .inr (by omega)
  · have hz := h.f2.size
    refine ⟨u.os.trans h.f2.os, u.tape.trans h.f2.tape, u.output.trans h.f2.output, Nat.le_trans hz u.size, fun k hk hn => ?_⟩
    rw [u.block k (by omega) (fun hm => ?_)]
    · exact h.f2.block k hk hn
    · rcases h.f1 k hm with e | e
      · exact hn e
      · omega
theorem BSt.post {L0 : List Nat} {w0 : World} {N : Nat} {V : World} {g b px bx py bY q hx hy : Nat} {L A B : List Nat} {G : Nat} (h : BSt L0 w0 N V g b px bx py bY q hx hy L A B G) : HPost q hx hy L0 w0 A B V := ⟨L, h.two.mod, h.f1, h.f2⟩
theorem BSt.init {N : Nat} {w : World} {g b px bx py bY q hx hy : Nat} {L A B : List Nat} (h : TwoK N w g b px bx py bY q hx hy L A B A B) :
    BSt L w N (w.alloc (.cells #[ptr hx, ptr hy] 42)) g b px bx py bY q hx hy L A B w.heap.size ∧ Below N w (w.alloc (.cells #[ptr hx, ptr hy] 42)) := by
  have b0 : Below w.heap.size w (w.alloc (.cells #[ptr hx, ptr hy] 42)) := (Below.refl _ _).alloc (Nat.le_refl _) _
  exact ⟨⟨h.later b0, Blk.new rfl, h.mod.out (Nat.le_refl _), fun k hk => .inl hk, Upd.of_below b0⟩, b0.mono h.size⟩
set_option maxRecDepth 100000 in
set_option maxHeartbeats 8000000 in
theorem bounds_some (N : Nat) (w : World) (g b px bx py bY q hx hy : Nat) (L A B : List Nat) (h : TwoK N w g b px bx py bY q hx hy L A B A B) (hA : A ≠ []) :
    Calls Try.prog 23 #[ptr b, .agg #[ptr hx, ptr hy]] w fun e w' => e = .returned (.bool true) ∧ HPost q hx hy L w A B w' ∧ Below N w w' := by
  have h8 := h.real.lt.2
  have hB := other_nil h.real.len hA
  have hl0 : 0 < A.length := List.length_pos_iff.2 hA
  have hn0 : (0 : Int) < (A.length : Int) := by omega
  have hl := itoa_len (A.length : Int) (by omega) (by omega)
  rw [← str_size] at hl
  have l1 := text32_len (axF A).lo
  have l2 := text32_len (axF B).lo
  have l3 := text32_len (axF A).hi
  have l4 := text32_len (axF B).hi
  have SH : ∀ V, BoxA V b px bx py bY A B → Calls Try.prog 40 #[ptr b] V fun e w' => e = .returned (.string (({ data := #[110, 61] } : ByteArray) ++ str (itoa (A.length : Int)) ++ { data := #[32] } ++ str (text32 (axF A).lo) ++ { data := #[32] } ++ str (text32 (axF B).lo) ++ { data := #[32] } ++ str (text32 (axF A).hi) ++ { data := #[32] } ++ str (text32 (axF B).hi))) ∧ Below V.heap.size V w' := by
    intro V hV
    refine (bShow_any V b px bx py bY A B hV).mono ?_
    rintro e w' ⟨rfl, bb⟩
    refine ⟨?_, bb⟩
    show _ = Ending.returned (.string (str [110, 61] ++ str (itoa (A.length : Int)) ++ str [32] ++ str (text32 (axF A).lo) ++ str [32] ++ str (text32 (axF B).lo) ++ str [32] ++ str (text32 (axF A).hi) ++ str [32] ++ str (text32 (axF B).hi)))
    unfold showB
    rw [if_neg hA]
    simp only [str_append, List.append_assoc]
  obtain ⟨rc, nc, hc, cc⟩ := conv_ex Try.prog 80 35 Try.underlying80 Try.underlying35
  obtain ⟨r6, n6, h6, c6⟩ := conv64_ex Try.prog 35 80 Try.underlying35 Try.underlying80
  have CV : Hid (∀ v X W, can64 v = X → can32 (rc v W) = conv32 X) := fun v X W e => (cc.out _ _).trans (by rw [show can .f64 v = _ from e])
  have T1 : Hid (∀ v W, can64 v = minF A → can32 (rc v W) = (axF A).lo) := fun v W e => (CV.out v _ W e).trans (axF_lo hA).symm
  have T2 : Hid (∀ v W, can64 v = minF B → can32 (rc v W) = (axF B).lo) := fun v W e => (CV.out v _ W e).trans (axF_lo hB).symm
  have T3 : Hid (∀ v W, can64 v = maxF A → can32 (rc v W) = (axF A).hi) := fun v W e => (CV.out v _ W e).trans (axF_hi hA).symm
  have T4 : Hid (∀ v W, can64 v = maxF B → can32 (rc v W) = (axF B).hi) := fun v W e => (CV.out v _ W e).trans (axF_hi hB).symm
  have F1 := fits_min A h.real.fx
  have F2 := fits_min B h.real.fy
  have F3 := fits_max A h.real.fx
  have F4 := fits_max B h.real.fy
  clear cc
  obtain ⟨s0, bb0⟩ := BSt.init h
  go_enter Try.func23, Try.ntmps23
  go_wp2_with fail
  refine (hx_len _ q hx hy L A B s0.two.mod).mono ?_
  rintro e w1 ⟨rfl, p1⟩
  obtain ⟨⟨L1, s1⟩, b1⟩ := s0.step p1
  have bb1 := bb0.trans b1
  clear p1 b1 s0 bb0
  go_wp2_with fail
  refine (bLen_any _ b px bx py bY A B s1.two.real).mono ?_
  rintro e w2 ⟨rfl, rfl⟩
  go_wp2_with fail
  refine (bCorner0 _ b px bx py bY A B s1.two.real hA).mono ?_
  rintro e w2 ⟨lox, rfl, c0, rfl⟩
  have C0 : Hid _ := c0
  clear c0
  go_wp2_with fail
  refine (bCorner1 _ b px bx py bY A B s1.two.real hA).mono ?_
  rintro e w2 ⟨loy, rfl, c0, rfl⟩
  have C1 : Hid _ := c0
  clear c0
  go_wp2_with fail
  refine (bCorner2 _ b px bx py bY A B s1.two.real hA).mono ?_
  rintro e w2 ⟨hix, rfl, c0, rfl⟩
  have C2 : Hid _ := c0
  clear c0
  go_wp2_with fail
  refine (bCorner3 _ b px bx py bY A B s1.two.real hA).mono ?_
  rintro e w2 ⟨hiy, rfl, c0, rfl⟩
  have C3 : Hid _ := c0
  clear c0
  go_wp2_with fail
  refine (itoa_any _ (by omega) (by omega) _).mono ?_
  rintro e w2 ⟨rfl, b2⟩
  have s2 := s1.later b2
  have bb2 := bb1.trans (b2.mono s1.two.size)
  clear s1 bb1 b2
  go_wp2_with fail
  refine (text32_to lox _ C0.out _).mono ?_
  rintro e w3 ⟨rfl, b3⟩
  have s3 := s2.later b3
  have bb3 := bb2.trans (b3.mono s2.two.size)
  clear s2 bb2 b3
  go_wp2_with fail
  refine (text32_to loy _ C1.out _).mono ?_
  rintro e w4 ⟨rfl, b4⟩
  have s4 := s3.later b4
  have bb4 := bb3.trans (b4.mono s3.two.size)
  clear s3 bb3 b4
  go_wp2_with fail
  refine (text32_to hix _ C2.out _).mono ?_
  rintro e w5 ⟨rfl, b5⟩
  have s5 := s4.later b5
  have bb5 := bb4.trans (b5.mono s4.two.size)
  clear s4 bb4 b5
  go_wp2_with fail
  refine (text32_to hiy _ C3.out _).mono ?_
  rintro e w6 ⟨rfl, b6⟩
  have s6 := s5.later b6
  have bb6 := bb5.trans (b6.mono s5.two.size)
  clear s5 bb5 b6
  go_wp2_with fail
  refine (SH _ s6.two.real).mono ?_
  rintro e w7 ⟨rfl, b7⟩
  have s7 := s6.later b7
  have bb7 := bb6.trans (b7.mono s6.two.size)
  clear s6 bb6 b7 SH l1 l2 l3 l4 hl
  obtain ⟨o1, o2, o3⟩ := s7.ow.facts
  go_wp2_with fail
  refine (hx_min _ q hx hy _ A B s7.two.mod hA).mono ?_
  rintro e w8 ⟨ax, rfl, c0, p0⟩
  obtain ⟨⟨L8, s8⟩, b0⟩ := s7.step p0
  have bb8 := bb7.trans b0
  have Cax : Hid _ := c0
  clear p0 b0 s7 bb7 o1 o2 o3 c0
  obtain ⟨o1, o2, o3⟩ := s8.ow.facts
  go_wp2_with fail
  refine (hy_min _ q hx hy _ A B s8.two.mod hB).mono ?_
  rintro e w9 ⟨ay, rfl, c0, p0⟩
  obtain ⟨⟨L9, s9⟩, b0⟩ := s8.step p0
  have bb9 := bb8.trans b0
  have Cay : Hid _ := c0
  clear p0 b0 s8 bb8 o1 o2 o3 c0
  obtain ⟨o1, o2, o3⟩ := s9.ow.facts
  go_wp2_with fail
  refine (hx_max _ q hx hy _ A B s9.two.mod hA).mono ?_
  rintro e w10 ⟨zx, rfl, c0, p0⟩
  obtain ⟨⟨L10, s10⟩, b0⟩ := s9.step p0
  have bb10 := bb9.trans b0
  have Czx : Hid _ := c0
  clear p0 b0 s9 bb9 o1 o2 o3 c0
  obtain ⟨o1, o2, o3⟩ := s10.ow.facts
  go_wp2_with fail
  refine (hy_max _ q hx hy _ A B s10.two.mod hB).mono ?_
  rintro e w11 ⟨zy, rfl, c0, p0⟩
  obtain ⟨⟨L11, s11⟩, b0⟩ := s10.step p0
  have bb11 := bb10.trans b0
  have Czy : Hid _ := c0
  clear p0 b0 s10 bb10 o1 o2 o3 c0
  obtain ⟨o1, o2, o3⟩ := s11.ow.facts
  have fit1 := fit_can Cax.out F1
  have fit2 := fit_can Cay.out F2
  have fit3 := fit_can Czx.out F3
  have fit4 := fit_can Czy.out F4
  clear F1 F2 F3 F4
  clear o1 o2 o3
  go_wp2_with fail
  refine (text32_to _ _ (T1.out ax _ Cax.out) _).mono ?_
  rintro e w12 ⟨rfl, b0⟩
  have d0 : Below w11.heap.size w11 w12 := (b_drew (w := w11) _).trans (b0.mono (Nat.le_refl _))
  have s12 := s11.later d0
  have bb12 := bb11.trans (d0.mono s11.two.size)
  clear s11 bb11 b0 d0
  go_wp2_with fail
  refine (text32_to _ _ (T2.out ay _ Cay.out) _).mono ?_
  rintro e w13 ⟨rfl, b0⟩
  have d0 : Below w12.heap.size w12 w13 := (b_drew (w := w12) _).trans (b0.mono (Nat.le_refl _))
  have s13 := s12.later d0
  have bb13 := bb12.trans (d0.mono s12.two.size)
  clear s12 bb12 b0 d0
  go_wp2_with fail
  refine (text32_to _ _ (T3.out zx _ Czx.out) _).mono ?_
  rintro e w14 ⟨rfl, b0⟩
  have d0 : Below w13.heap.size w13 w14 := (b_drew (w := w13) _).trans (b0.mono (Nat.le_refl _))
  have s14 := s13.later d0
  have bb14 := bb13.trans (d0.mono s13.two.size)
  clear s13 bb13 b0 d0
  go_wp2_with fail
  refine (text32_to _ _ (T4.out zy _ Czy.out) _).mono ?_
  rintro e w15 ⟨rfl, b0⟩
  have d0 : Below w14.heap.size w14 w15 := (b_drew (w := w14) _).trans (b0.mono (Nat.le_refl _))
  have s15 := s14.later d0
  have bb15 := bb14.trans (d0.mono s14.two.size)
  clear s14 bb14 b0 d0
  go_wp2_with fail
  refine (text32_to lox _ C0.out _).mono ?_
  rintro e w16 ⟨rfl, d0⟩
  have s16 := s15.later d0
  have bb16 := bb15.trans (d0.mono s15.two.size)
  clear s15 bb15 d0
  go_wp2_with fail
  refine (text32_to loy _ C1.out _).mono ?_
  rintro e w17 ⟨rfl, d0⟩
  have s17 := s16.later d0
  have bb17 := bb16.trans (d0.mono s16.two.size)
  clear s16 bb16 d0
  go_wp2_with fail
  refine (text32_to hix _ C2.out _).mono ?_
  rintro e w18 ⟨rfl, d0⟩
  have s18 := s17.later d0
  have bb18 := bb17.trans (d0.mono s17.two.size)
  clear s17 bb17 d0
  go_wp2_with fail
  refine (text32_to hiy _ C3.out _).mono ?_
  rintro e w19 ⟨rfl, d0⟩
  have s19 := s18.later d0
  have bb19 := bb18.trans (d0.mono s18.two.size)
  clear s18 bb18 d0
  go_wp2
  clear T1 T2 T3 T4 Cax Cay Czx Czy fit1 fit2 fit3 fit4
  go_loopw [27, 28] (fun tt i wr => ∃ (j : Nat) (Lr : List Nat), j ≤ A.length ∧ i = I (j : Int) ∧ tt = I (four (tch A (axF A).lo j) (tch B (axF B).lo j) (tch A (axF A).hi j) (tch B (axF B).hi j)) ∧ BSt L w N wr g b px bx py bY q hx hy Lr A B w.heap.size ∧ Below N w wr) (fun _ i _ => (A.length - intOf i).toNat)
  case atStart => exact ⟨0, L11, by omega, rfl, rfl, s19, bb19⟩
  case round =>
    obtain ⟨j, Lr, hj, rfl, rfl, sr, br⟩ := hrel
    obtain ⟨o1, o2, o3⟩ := sr.ow.facts
    by_cases hlt : j < A.length
    · have hjn : (j : Int) < (A.length : Int) := by omega
      have hjB : j < B.length := by rw [h.real.len]; exact hlt
      go_wp2_with fail
      refine (hx_at _ q hx hy _ A B sr.two.mod j hlt).mono ?_
      rintro e u1 ⟨u, rfl, c0, p0⟩
      obtain ⟨⟨M1, t1⟩, b0⟩ := sr.step p0
      have br1 := br.trans b0
      have CU : Hid _ := c0
      clear p0 b0 sr br o1 o2 o3 c0
      obtain ⟨o1, o2, o3⟩ := t1.ow.facts
      go_wp2_with fail
      refine (hy_at _ q hx hy _ A B t1.two.mod j hjB).mono ?_
      rintro e u2 ⟨v, rfl, c0, p0⟩
      obtain ⟨⟨M2, t2⟩, b0⟩ := t1.step p0
      have br2 := br1.trans b0
      have CW : Hid _ := c0
      clear p0 b0 t1 br1 o1 o2 o3 c0
      obtain ⟨x1, hx1⟩ : ∃ x, eq32 (conv32 (A.getD j 0)) (axF A).lo = x := ⟨_, rfl⟩
      obtain ⟨x2, hx2⟩ : ∃ x, eq32 (conv32 (A.getD j 0)) (axF A).hi = x := ⟨_, rfl⟩
      obtain ⟨y1, hy1⟩ : ∃ x, eq32 (conv32 (B.getD j 0)) (axF B).lo = x := ⟨_, rfl⟩
      obtain ⟨y2, hy2⟩ : ∃ x, eq32 (conv32 (B.getD j 0)) (axF B).hi = x := ⟨_, rfl⟩
      have q1 := tch_succ A (axF A).lo j
      have q2 := tch_succ B (axF B).lo j
      have q3 := tch_succ A (axF A).hi j
      have q4 := tch_succ B (axF B).hi j
      rw [hx1] at q1
      rw [hy1] at q2
      rw [hx2] at q3
      rw [hy2] at q4
      have Q1 : Hid _ := q1
      have Q2 : Hid _ := q2
      have Q3 : Hid _ := q3
      have Q4 : Hid _ := q4
      have E1 : Hid (∀ p, can32 p = conv32 (A.getD j 0) → (FloatKind.f32.format.order p lox == some .eq) = x1 ∧ (FloatKind.f32.format.order p hix == some .eq) = x2) := fun p hp => ⟨(eq_of hp C0.out).trans hx1, (eq_of hp C2.out).trans hx2⟩
      have E2 : Hid (∀ p, can32 p = conv32 (B.getD j 0) → (FloatKind.f32.format.order p loy == some .eq) = y1 ∧ (FloatKind.f32.format.order p hiy == some .eq) = y2) := fun p hp => ⟨(eq_of hp C1.out).trans hy1, (eq_of hp C3.out).trans hy2⟩
      have bd := touch_bd y1 y2
      clear hx1 hx2 hy1 hy2 q1 q2 q3 q4
      have fu := fit_can CU.out (h.real.fx j)
      have fv := fit_can CW.out (h.real.fy j)
      go_wp2_with fail
      refine (withinB _ _ _ ((within_can (CV.out u _ _ CU.out) C0.out C2.out).trans (box_law A hA j hlt)) _).mono ?_
      rintro e u3 ⟨rfl, b0⟩
      have d0 : Below u2.heap.size u2 u3 := (b_drew (w := u2) _).trans (b0.mono (Nat.le_refl _))
      have t3 := t2.later d0
      have br3 := br2.trans (d0.mono t2.two.size)
      clear t2 br2 b0 d0
      go_wp2_with fail
      refine (withinB _ _ _ ((within_can (CV.out v _ _ CW.out) C1.out C3.out).trans (box_law B hB j hjB)) _).mono ?_
      rintro e u4 ⟨rfl, b0⟩
      have d0 : Below u3.heap.size u3 u4 := (b_drew (w := u3) _).trans (b0.mono (Nat.le_refl _))
      have t4 := t3.later d0
      have br4 := br3.trans (d0.mono t3.two.size)
      clear t3 br3 b0 d0
      go_wp2_with fail
      refine (touch_any _ _ _ x1 x2 (E1.out _ (CV.out u _ _ CU.out)).1 (E1.out _ (CV.out u _ _ CU.out)).2 _).mono ?_
      rintro e u5 ⟨rfl, rfl⟩
      go_wp2_with fail
      refine (touch_any _ _ _ y1 y2 (E2.out _ (CV.out v _ _ CW.out)).1 (E2.out _ (CV.out v _ _ CW.out)).2 _).mono ?_
      rintro e u5 ⟨rfl, rfl⟩
      go_wp2
      go_roundw
      case rel =>
        refine ⟨j + 1, M2, by omega, by go_num, ?_, t4.later (b_drew _), br4.trans ((b_drew (w := u4) _).mono t4.two.size)⟩
        rw [Q1.out, Q2.out, Q3.out, Q4.out, ← four_step]
      case measure => simp [intOf]; omega
    · have hjn : ¬ (j : Int) < (A.length : Int) := by omega
      obtain rfl : j = A.length := by omega
      clear hlt
      obtain ⟨f1, hf1⟩ : ∃ x, tch A (axF A).lo A.length = x := ⟨_, rfl⟩
      obtain ⟨f2, hf2⟩ : ∃ x, tch B (axF B).lo A.length = x := ⟨_, rfl⟩
      obtain ⟨f3, hf3⟩ : ∃ x, tch A (axF A).hi A.length = x := ⟨_, rfl⟩
      obtain ⟨f4, hf4⟩ : ∃ x, tch B (axF B).hi A.length = x := ⟨_, rfl⟩
      rw [hf1, hf2, hf3, hf4]
      obtain ⟨nx, hnx⟩ : ∃ x, isNan .f32 (axF A).lo = x := ⟨_, rfl⟩
      obtain ⟨ny, hny⟩ : ∃ x, isNan .f32 (axF B).lo = x := ⟨_, rfl⟩
      have e1 := (eq_selfK .f32 lox).trans (by rw [nan_of_can C0.out, hnx])
      have e2 := (eq_selfK .f32 loy).trans (by rw [nan_of_can C1.out, hny])
      have TX : Hid (nx = false → f1 = true ∧ f3 = true) := by
        rintro rfl
        rw [← hf1, ← hf3]
        exact ⟨tch_all (tight_law A hA hnx).1, tch_all (tight_law A hA hnx).2⟩
      have TY : Hid (ny = false → f2 = true ∧ f4 = true) := by
        rintro rfl
        rw [← hf2, ← hf4, ← h.real.len]
        exact ⟨tch_all (tight_law B hB hny).1, tch_all (tight_law B hB hny).2⟩
      obtain ⟨ga, ha⟩ : ∃ x, bits BinOp.and IntKind.i64 (four f1 f2 f3 f4) 5 = x := ⟨_, rfl⟩
      obtain ⟨gb, hb⟩ : ∃ x, bits BinOp.and IntKind.i64 (four f1 f2 f3 f4) 10 = x := ⟨_, rfl⟩
      have GA : Hid (nx = false → ga = 5) := by
        intro hn
        obtain ⟨rfl, rfl⟩ := TX.out hn
        rw [← ha]; exact four_and5 _ _
      have GB : Hid (ny = false → gb = 10) := by
        intro hn
        obtain ⟨rfl, rfl⟩ := TY.out hn
        rw [← hb]; exact four_and10 _ _
      obtain ⟨kk, ee, hw⟩ : ∃ k e, wholeF (A.getD 0 0) = (k, e) := ⟨_, _, rfl⟩
      have WH := fun V L' hV => hx_whole V q hx hy L' A B hV 0 hl0
      rw [hw] at WH
      have EX : Hid (A.length = 1 → ee = 0 → -16777216 ≤ kk → kk ≤ 16777216 → (∀ W, (FloatKind.f64.format.order (r6 lox W) (floatOfInt .f64 kk) == some .eq) = true) ∧ ∀ W, (FloatKind.f64.format.order (r6 hix W) (floatOfInt .f64 kk) == some .eq) = true) := by
        intro h1 h2 h3 h4
        obtain ⟨q1, q2⟩ := axF_ends hA
        rw [h1] at q1 q2
        subst h2
        have ex := exact_law (A.getD 0 0) kk hw h3 h4
        have key : ∀ x X W, can32 x = X → X = conv32 (A.getD 0 0) → (FloatKind.f64.format.order (r6 x W) (floatOfInt .f64 kk) == some .eq) = true := by
          intro x X W c1 c2
          have o := order_can .f64 (r6 x W) (floatOfInt .f64 kk)
          rw [can_ofInt, show can .f64 (r6 x W) = _ from c6.out _ _, show can .f32 x = X from c1, c2] at o
          rw [o]
          exact ex
        exact ⟨fun W => key lox _ W C0.out q1, fun W => key hix _ W C2.out q2⟩
      clear hf1 hf2 hf3 hf4 hnx hny TX TY hw C0 C1 C2 C3 CV
      cases nx <;> cases ny
      · obtain rfl := GA.out (by simp)
        obtain rfl := GB.out (by simp)
        clear GA GB
        go_wp2_with fail
        refine (WH _ _ sr.two.mod).mono ?_
        rintro e u1 ⟨rfl, p0⟩
        obtain ⟨⟨M1, t1⟩, b0⟩ := sr.step p0
        have br1 := br.trans b0
        clear p0 b0 sr br o1 o2 o3
        by_cases n1 : A.length = 1
        · have n1' : ((A.length : Int) == 1) = true := by rw [n1]; rfl
          by_cases e0 : ee = 0
          · have e0' : (ee == 0) = true := by rw [e0]; rfl
            by_cases k1 : -16777216 ≤ kk
            · by_cases k2 : kk ≤ 16777216
              · obtain ⟨x1, x2⟩ := EX.out n1 e0 k1 k2
                clear EX
                subst e0
                go_wp2
                go_ret
                exact ⟨rfl, (t1.later (b_drew _)).post, br1.trans ((b_drew (w := u1) _).mono t1.two.size)⟩
              · clear EX
                go_wp2
                go_ret
                exact ⟨rfl, t1.post, br1⟩
            · clear EX
              go_wp2
              go_ret
              exact ⟨rfl, t1.post, br1⟩
          · have e0' : (ee == 0) = false := by simpa using e0
            clear EX
            go_wp2
            go_ret
            exact ⟨rfl, t1.post, br1⟩
        · have n1' : ((A.length : Int) == 1) = false := by simp; omega
          clear EX
          go_wp2
          go_ret
          exact ⟨rfl, t1.post, br1⟩
      · obtain rfl := GA.out (by simp)
        clear GA GB
        go_wp2_with fail
        refine (WH _ _ sr.two.mod).mono ?_
        rintro e u1 ⟨rfl, p0⟩
        obtain ⟨⟨M1, t1⟩, b0⟩ := sr.step p0
        have br1 := br.trans b0
        clear p0 b0 sr br o1 o2 o3
        by_cases n1 : A.length = 1
        · have n1' : ((A.length : Int) == 1) = true := by rw [n1]; rfl
          by_cases e0 : ee = 0
          · have e0' : (ee == 0) = true := by rw [e0]; rfl
            by_cases k1 : -16777216 ≤ kk
            · by_cases k2 : kk ≤ 16777216
              · obtain ⟨x1, x2⟩ := EX.out n1 e0 k1 k2
                clear EX
                subst e0
                go_wp2
                go_ret
                exact ⟨rfl, (t1.later (b_drew _)).post, br1.trans ((b_drew (w := u1) _).mono t1.two.size)⟩
              · clear EX
                go_wp2
                go_ret
                exact ⟨rfl, t1.post, br1⟩
            · clear EX
              go_wp2
              go_ret
              exact ⟨rfl, t1.post, br1⟩
          · have e0' : (ee == 0) = false := by simpa using e0
            clear EX
            go_wp2
            go_ret
            exact ⟨rfl, t1.post, br1⟩
        · have n1' : ((A.length : Int) == 1) = false := by simp; omega
          clear EX
          go_wp2
          go_ret
          exact ⟨rfl, t1.post, br1⟩
      · obtain rfl := GB.out (by simp)
        clear GA GB
        go_wp2_with fail
        refine (WH _ _ sr.two.mod).mono ?_
        rintro e u1 ⟨rfl, p0⟩
        obtain ⟨⟨M1, t1⟩, b0⟩ := sr.step p0
        have br1 := br.trans b0
        clear p0 b0 sr br o1 o2 o3
        by_cases n1 : A.length = 1
        · have n1' : ((A.length : Int) == 1) = true := by rw [n1]; rfl
          by_cases e0 : ee = 0
          · have e0' : (ee == 0) = true := by rw [e0]; rfl
            by_cases k1 : -16777216 ≤ kk
            · by_cases k2 : kk ≤ 16777216
              · obtain ⟨x1, x2⟩ := EX.out n1 e0 k1 k2
                clear EX
                subst e0
                go_wp2
                go_ret
                exact ⟨rfl, (t1.later (b_drew _)).post, br1.trans ((b_drew (w := u1) _).mono t1.two.size)⟩
              · clear EX
                go_wp2
                go_ret
                exact ⟨rfl, t1.post, br1⟩
            · clear EX
              go_wp2
              go_ret
              exact ⟨rfl, t1.post, br1⟩
          · have e0' : (ee == 0) = false := by simpa using e0
            clear EX
            go_wp2
            go_ret
            exact ⟨rfl, t1.post, br1⟩
        · have n1' : ((A.length : Int) == 1) = false := by simp; omega
          clear EX
          go_wp2
          go_ret
          exact ⟨rfl, t1.post, br1⟩
      · clear GA GB
        go_wp2_with fail
        refine (WH _ _ sr.two.mod).mono ?_
        rintro e u1 ⟨rfl, p0⟩
        obtain ⟨⟨M1, t1⟩, b0⟩ := sr.step p0
        have br1 := br.trans b0
        clear p0 b0 sr br o1 o2 o3
        by_cases n1 : A.length = 1
        · have n1' : ((A.length : Int) == 1) = true := by rw [n1]; rfl
          by_cases e0 : ee = 0
          · have e0' : (ee == 0) = true := by rw [e0]; rfl
            by_cases k1 : -16777216 ≤ kk
            · by_cases k2 : kk ≤ 16777216
              · obtain ⟨x1, x2⟩ := EX.out n1 e0 k1 k2
                clear EX
                subst e0
                go_wp2
                go_ret
                exact ⟨rfl, (t1.later (b_drew _)).post, br1.trans ((b_drew (w := u1) _).mono t1.two.size)⟩
              · clear EX
                go_wp2
                go_ret
                exact ⟨rfl, t1.post, br1⟩
            · clear EX
              go_wp2
              go_ret
              exact ⟨rfl, t1.post, br1⟩
          · have e0' : (ee == 0) = false := by simpa using e0
            clear EX
            go_wp2
            go_ret
            exact ⟨rfl, t1.post, br1⟩
        · have n1' : ((A.length : Int) == 1) = false := by simp; omega
          clear EX
          go_wp2
          go_ret
          exact ⟨rfl, t1.post, br1⟩

set_option maxRecDepth 100000 in
set_option maxHeartbeats 8000000 in
theorem bounds_zero (N : Nat) (w : World) (g b px bx py bY q hx hy : Nat) (L B : List Nat) (h : TwoK N w g b px bx py bY q hx hy L [] B [] B) :
    Calls Try.prog 23 #[ptr b, .agg #[ptr hx, ptr hy]] w fun e w' => e = .returned (.bool true) ∧ HPost q hx hy L w [] B w' ∧ Below N w w' := by
  have hl := itoa_len (0 : Int) (by omega) (by omega)
  rw [← str_size] at hl
  have LN := fun V L' hV => hx_len V q hx hy L' [] B hV
  have BL := fun V hV => bLen_any V b px bx py bY [] B hV
  rw [show (([] : List Nat).length : Int) = 0 from rfl] at LN BL
  have SH : ∀ V, BoxA V b px bx py bY [] B → Calls Try.prog 40 #[ptr b] V fun e w' => e = .returned (.string (({ data := #[110, 61] } : ByteArray) ++ str (itoa (0 : Int)))) ∧ Below V.heap.size V w' := by
    intro V hV
    refine (bShow_any V b px bx py bY [] B hV).mono ?_
    rintro e w' ⟨rfl, bb⟩
    refine ⟨?_, bb⟩
    show _ = Ending.returned (.string (str [110, 61] ++ str (itoa (0 : Int))))
    unfold showB
    rw [if_pos rfl, str_append, List.append_nil]
    rfl
  obtain ⟨s0, bb0⟩ := BSt.init h
  go_enter Try.func23, Try.ntmps23
  go_wp2_with fail
  refine (LN _ _ s0.two.mod).mono ?_
  rintro e w1 ⟨rfl, p1⟩
  obtain ⟨⟨L1, s1⟩, b1⟩ := s0.step p1
  have bb1 := bb0.trans b1
  clear p1 b1 s0 bb0 LN
  go_wp2_with fail
  refine (BL _ s1.two.real).mono ?_
  rintro e w2 ⟨rfl, rfl⟩
  go_wp2_with fail
  refine (bCornerZ _ b px bx py bY B s1.two.real 0).mono ?_
  rintro e w2 ⟨lox, rfl, c0, rfl⟩
  clear c0
  go_wp2_with fail
  refine (bCornerZ _ b px bx py bY B s1.two.real 1).mono ?_
  rintro e w2 ⟨loy, rfl, c0, rfl⟩
  clear c0
  go_wp2_with fail
  refine (bCornerZ _ b px bx py bY B s1.two.real 2).mono ?_
  rintro e w2 ⟨hix, rfl, c0, rfl⟩
  clear c0
  go_wp2_with fail
  refine (bCornerZ _ b px bx py bY B s1.two.real 3).mono ?_
  rintro e w2 ⟨hiy, rfl, c0, rfl⟩
  clear c0
  go_wp2_with fail
  refine (itoa_any _ (by omega) (by omega) _).mono ?_
  rintro e w2 ⟨rfl, b2⟩
  have s2 := s1.later b2
  have bb2 := bb1.trans (b2.mono s1.two.size)
  clear s1 bb1 b2
  go_wp2_with fail
  refine (SH _ s2.two.real).mono ?_
  rintro e w7 ⟨rfl, b7⟩
  have s7 := s2.later b7
  have bb7 := bb2.trans (b7.mono s2.two.size)
  clear s2 bb2 b7 SH hl
  go_wp2
  go_loopw [27, 28] (fun tt i wr => i = I 0 ∧ tt = I 0 ∧ BSt L w N wr g b px bx py bY q hx hy L1 [] B w.heap.size ∧ Below N w wr) (fun _ _ _ => 0)
  case atStart => exact ⟨rfl, rfl, s7, bb7⟩
  case round =>
    obtain ⟨rfl, rfl, sr, br⟩ := hrel
    obtain ⟨o1, o2, o3⟩ := sr.ow.facts
    go_wp2_with fail
    refine (hx_wholex _ q hx hy _ [] B sr.two.mod 0 (.inr (by simp))).mono ?_
    rintro e u1 ⟨rfl, p0⟩
    obtain ⟨⟨M1, t1⟩, b0⟩ := sr.step p0
    have br1 := br.trans b0
    clear p0 b0 sr br o1 o2 o3
    go_wp2
    go_ret
    exact ⟨rfl, t1.post, br1⟩
theorem bounds_any (N : Nat) (w : World) (g b px bx py bY q hx hy : Nat) (L A B : List Nat) (h : TwoK N w g b px bx py bY q hx hy L A B A B) :
    Calls Try.prog 23 #[ptr b, .agg #[ptr hx, ptr hy]] w fun e w' => e = .returned (.bool true) ∧ HPost q hx hy L w A B w' ∧ Below N w w' := by
  by_cases hA : A = []
  · subst hA
    exact bounds_zero N w g b px bx py bY q hx hy L B h
  · exact bounds_some N w g b px bx py bY q hx hy L A B h hA
end Go.Proofs.Qxb6500472a
