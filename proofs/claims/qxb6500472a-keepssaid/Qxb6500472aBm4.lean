import Derived.Test.Qxb6500472aBm3
namespace Go.Proofs.Qxb6500472a
open Go.RowKit
attribute [local go_sem] run_store_float drewN_alloc drewN_setCell
set_option maxHeartbeats 2000000 in
theorem mPart_any (p lo hi : Nat) (P LO HI : Nat) (hp : can32 p = P) (hlo : can32 lo = LO) (hhi : can32 hi = HI) (w : World) :
    Calls Try.prog 93 #[D32 p, D32 lo, D32 hi] w fun e w' => e = .returned (.tuple #[I (partF (axOf LO HI) P).1, .bool (partF (axOf LO HI) P).2]) ∧ ∃ m, w' = w.drewN m := by
  obtain ⟨ra, na, ha, ca⟩ := arith_ex Try.prog .add 35 .f32 (by simp)
  obtain ⟨rs, ns, hs, cs⟩ := arith_ex Try.prog .sub 35 .f32 (by simp)
  obtain ⟨rq, nq, hq, cq⟩ := arith_ex Try.prog .quo 35 .f32 (by simp)
  obtain ⟨rm, nm, hm, cm⟩ := arith_ex Try.prog .mul 35 .f32 (by simp)
  have hW : ∀ W, can32 (rs hi lo W) = sub32 HI LO := fun W => (cs.out _ _ _).trans (by rw [show can .f32 hi = _ from hhi, show can .f32 lo = _ from hlo])
  have hwd : ∀ W W', (FloatKind.f32.format.order (ra (rs hi lo W) (rs hi lo W) W') (rs hi lo W) == some .eq) = !(axOf LO HI).wide := by
    intro W W'
    have : eq32 (ra (rs hi lo W) (rs hi lo W) W') (rs hi lo W) = eq32 (add32 (sub32 HI LO) (sub32 HI LO)) (sub32 HI LO) := by
      rw [← eq32_can, show can32 (ra (rs hi lo W) (rs hi lo W) W') = _ from ca.out _ _ _, hW W]
      rw [show can .f32 (rs hi lo W) = _ from hW W]
    refine Eq.trans this ?_
    show _ = !!_
    rw [Bool.not_not]
  have hfr : ∀ W W' W'', can32 (rq (rs p lo W) (rs hi lo W') W'') = fracF (axOf LO HI) P := by
    intro W W' W''
    refine (cq.out _ _ _).trans ?_
    rw [show can .f32 (rs hi lo W') = _ from hW W', show can .f32 (rs p lo W) = _ from cs.out _ _ _, show can .f32 p = _ from hp, show can .f32 lo = _ from hlo]
    rfl
  have Hfr : Hid _ := hfr
  clear hfr hW
  have hge : ∀ W W' W'', (FloatKind.f32.format.order (rq (rs p lo W) (rs hi lo W') W'') 0 == some .gt || FloatKind.f32.format.order (rq (rs p lo W) (rs hi lo W') W'') 0 == some .eq) = ge32 (fracF (axOf LO HI) P) 0 := by
    intro W W' W''
    rw [← Hfr.out W W' W'']
    exact (ge32_can _ 0).symm
  have hle : ∀ W W' W'', (FloatKind.f32.format.order (rq (rs p lo W) (rs hi lo W') W'') one32 == some .lt || FloatKind.f32.format.order (rq (rs p lo W) (rs hi lo W') W'') one32 == some .eq) = le32 (fracF (axOf LO HI) P) one32 := by
    intro W W' W''
    rw [← Hfr.out W W' W'']
    exact (le32_can _ one32).symm
  have hcv : ∀ W W' W'' W3, floatToIntVal .f32 (rm four32 (rq (rs p lo W) (rs hi lo W') W'') W3) .i64 = gridI (fracF (axOf LO HI) P) := by
    intro W W' W'' W3
    rw [← floatToIntVal_can, cm.out]
    show floatToIntVal .f32 (fop .mul .f32 (can .f32 four32) (can32 _)) .i64 = _
    rw [Hfr.out W W' W'']
    rfl
  clear Hfr ca cs cq cm hp hlo hhi
  unfold partF
  have hg := grid_law (fracF (axOf LO HI) P)
  generalize fracF (axOf LO HI) P = f at *
  generalize (axOf LO HI).wide = wd at *
  cases wd with
  | false =>
    simp only [Bool.not_false] at hwd
    simp only [Bool.false_eq_true, if_false]
    clear hge hle hcv hg
    go_enter Try.func93, Try.ntmps93
    go_wp2
    go_ret2
    exact ⟨rfl, _, rfl⟩
  | true =>
    simp only [Bool.not_true] at hwd
    simp only [if_true]
    unfold partIn at *
    cases h1 : ge32 f 0 with
    | false =>
      rw [h1] at hge
      simp only [Bool.false_and, Bool.false_eq_true, if_false]
      clear hcv hle hg
      go_enter Try.func93, Try.ntmps93
      go_wp2
      go_ret2
      exact ⟨rfl, _, rfl⟩
    | true =>
      rw [h1] at hge
      cases h2 : le32 f one32 with
      | false =>
        rw [h2] at hle
        simp only [Bool.and_false, Bool.false_eq_true, if_false]
        clear hcv hg
        go_enter Try.func93, Try.ntmps93
        go_wp2
        go_ret2
        exact ⟨rfl, _, rfl⟩
      | true =>
        rw [h2] at hle
        obtain ⟨k, hk, -, -⟩ := hg (by rw [h1, h2]; rfl)
        clear hg
        rw [hk] at hcv ⊢
        simp only [Bool.and_self, if_true, Option.getD_some]
        have hcv2 := fun W W' W'' W3 V => run_convert_float_int (P := Try.prog) V 35 3 .f32 .i64 _ k (by rw [Try.underlying35]; rfl) Try.underlying3 (hcv W W' W'' W3)
        clear hcv
        by_cases h4 : k = 4
        · subst h4
          simp only [if_true]
          go_enter Try.func93, Try.ntmps93
          go_wp2
          go_ret2
          exact ⟨rfl, _, rfl⟩
        · rw [if_neg h4]
          have h4' : (k == 4) = false := by simpa using h4
          go_enter Try.func93, Try.ntmps93
          go_wp2
          go_ret2
          exact ⟨rfl, _, rfl⟩

set_option maxHeartbeats 2000000 in
theorem mbCell_none (w : World) (q : Nat) (L A B : List Nat) (h : BM w q L A B) (hA : A = []) (i j d : Int) :
    Calls Try.prog 86 #[ptr q, I i, I j, I d] w fun e w' => e = .returned (.tuple #[I 0, I 2]) ∧ BPost q L w A B w' := by
  go_enter Try.func86, Try.ntmps86
  go_wp2_with fail
  refine (mbInside_none w q L A B h hA i j d).mono ?_
  rintro e w1 ⟨rfl, P1⟩
  go_wp2
  go_ret2
  exact ⟨rfl, P1⟩
set_option maxHeartbeats 2000000 in
theorem mbCell_some (w : World) (q : Nat) (L A B : List Nat) (h : BM w q L A B) (hA : A ≠ []) (len : B.length = A.length) (fx : Fits A) (fy : Fits B) (i j d : Int) (hi : i64 i) (hj : i64 j) (hd : i64 d) (K E : Int) (HK : Hid (cellF (axF A) (axF B) (coordF i d) (coordF j d) = (K, E))) :
    Calls Try.prog 86 #[ptr q, I i, I j, I d] w fun e w' => e = .returned (.tuple #[I K, I E]) ∧ BPost q L w A B w' := by
  have hB := other_nil len hA
  have F := fun V L' hV => four_any V q L' A B hV hA len fx fy
  have IN := mbInside_some w q L A B h hA len fx fy i j d hi hj hd (holdsF (axF A) (coordF i d) && holdsF (axF B) (coordF j d)) rfl
  have PX := fun p lo hi V h1 h2 h3 => mPart_any p lo hi (coordF i d) (axF A).lo (axF A).hi h1 h2 h3 V
  have PY := fun p lo hi V h1 h2 h3 => mPart_any p lo hi (coordF j d) (axF B).lo (axF B).hi h1 h2 h3 V
  rw [← axF_of hA] at PX
  rw [← axF_of hB] at PY
  have bx := partF_bd grid_law (axF A) (coordF i d)
  have by' := partF_bd grid_law (axF B) (coordF j d)
  have HE := HK.out
  clear HK hB len fx fy hA
  unfold cellF at HE
  generalize partF (axF A) (coordF i d) = rx at *
  generalize partF (axF B) (coordF j d) = ry at *
  generalize holdsF (axF A) (coordF i d) = H1 at *
  generalize holdsF (axF B) (coordF j d) = H2 at *
  have IN' : ∀ b, (H1 && H2) = b → Calls Try.prog 83 #[ptr q, I i, I j, I d] w fun e w' => e = .returned (.tuple #[.bool b, I 0]) ∧ BPost q L w A B w' := by rintro b rfl; exact IN
  clear IN
  cases hin : (H1 && H2) with
  | false =>
    have hKE : (0, 5) = (K, E) := by
      cases H1 <;> cases H2 <;> simp at hin <;> simpa using HE
    simp only [Prod.mk.injEq] at hKE
    obtain ⟨rfl, rfl⟩ := hKE
    have I0 := IN' false hin
    clear IN' hin HE PX PY F bx by'
    go_enter Try.func86, Try.ntmps86
    go_wp2_with fail
    refine I0.mono ?_
    rintro e w1 ⟨rfl, P1⟩
    go_wp2
    go_ret2
    exact ⟨rfl, P1⟩
  | true =>
    have I0 := IN' true hin
    have hH : H1 = true ∧ H2 = true := by simpa using hin
    rw [hH.1, hH.2] at HE
    simp only [if_true] at HE
    have HE' : Hid _ := HE
    clear IN' hin HE hH
    obtain ⟨kx, okx⟩ := rx
    obtain ⟨ky, oky⟩ := ry
    simp only at bx by' PX PY
    obtain ⟨bx0, bx1⟩ := bx
    obtain ⟨by0, by1⟩ := by'
    go_enter Try.func86, Try.ntmps86
    go_wp2_with fail
    refine I0.mono ?_
    rintro e w1 ⟨rfl, L1, h1, n1, u1⟩
    go_wp2_with fail
    refine (F _ _ h1).mono ?_
    rintro e w2 ⟨a, b, c, e, rfl, ca, cb, cc, ce, L2, h2, n2, u2⟩
    have P2 : BPost q L w A B w2 := .trans n1 u1 ⟨L2, h2, n2, u2⟩
    clear F I0 h h1 n1 u1 h2 n2 u2
    go_wp2_with fail
    refine (mCoord_any i d hi hd _).mono ?_
    rintro _ _ ⟨p, m1, rfl, cp, rfl⟩
    go_wp2_with fail
    refine (mCoord_any j d hj hd _).mono ?_
    rintro _ _ ⟨r, m2, rfl, cr, rfl⟩
    go_wp2_with fail
    refine (PX p a c _ cp ca cc).mono ?_
    rintro _ _ ⟨rfl, m3, rfl⟩
    go_wp2_with fail
    refine (PY r b e _ cr cb ce).mono ?_
    rintro _ _ ⟨rfl, m4, rfl⟩
    have HE := HE'.out
    have P3 := P2.drewN (m1 + m2 + m3 + m4)
    clear HE' PX PY P2
    cases okx with
    | false =>
      simp only [Bool.false_and, Bool.false_eq_true, if_false, Prod.mk.injEq] at HE
      obtain ⟨rfl, rfl⟩ := HE
      go_wp2
      go_ret2
      exact ⟨rfl, P3⟩
    | true =>
      cases oky with
      | false =>
        simp only [Bool.and_false, Bool.false_eq_true, if_false, Prod.mk.injEq] at HE
        obtain ⟨rfl, rfl⟩ := HE
        go_wp2
        go_ret2
        exact ⟨rfl, P3⟩
      | true =>
        simp only [Bool.and_self, if_true, Prod.mk.injEq] at HE
        obtain ⟨hK, rfl⟩ := HE
        have HK : Hid _ := hK
        clear hK
        go_wp2
        go_ret2
        exact ⟨by rw [← HK.out]; rfl, P3⟩
theorem mbCell_any (w : World) (q : Nat) (L A B : List Nat) (h : BM w q L A B) (len : B.length = A.length) (fx : Fits A) (fy : Fits B) (i j d : Int) (hi : i64 i) (hj : i64 j) (hd : i64 d) :
    Calls Try.prog 86 #[ptr q, I i, I j, I d] w fun e w' => e = .returned (.tuple #[I (cellA A B i j d).1, I (cellA A B i j d).2]) ∧ BPost q L w A B w' := by
  unfold cellA
  by_cases hA : A = []
  · rw [if_pos hA]; exact mbCell_none w q L A B h hA i j d
  · rw [if_neg hA]; exact mbCell_some w q L A B h hA len fx fy i j d hi hj hd _ _ rfl

/-- Show's text before corner k. -/
def showK (A B : List Nat) (k : Nat) : List UInt8 := [110, 61] ++ itoa (A.length : Nat) ++ ([[32] ++ text32 (axF A).lo, [32] ++ text32 (axF B).lo, [32] ++ text32 (axF A).hi, [32] ++ text32 (axF B).hi].take k).flatten
theorem showK_four (A B : List Nat) (h : A ≠ []) : showK A B 4 = showB A B := by unfold showK showB; rw [if_neg h]; simp
theorem showK_len (A B : List Nat) (k : Nat) (h : A.length ≤ 8) : (str (showK A B k)).size ≤ 230 := by
  rw [str_size]
  unfold showK
  have h1 := itoa_len (A.length : Nat) (by omega) (by omega)
  have t1 := text_len (conv64 (axF A).lo)
  have t2 := text_len (conv64 (axF B).lo)
  have t3 := text_len (conv64 (axF A).hi)
  have t4 := text_len (conv64 (axF B).hi)
  match k with
  | 0 => simp [text32] at *; omega
  | 1 => simp [text32] at *; omega
  | 2 => simp [text32] at *; omega
  | 3 => simp [text32] at *; omega
  | k + 4 => simp [text32] at *; omega
theorem showK_succ (A B : List Nat) (hA : A ≠ []) (k : Nat) (hk : k < 4) : showK A B (k + 1) = showK A B k ++ [32] ++ text32 (cornA A B k).1 := by
  unfold showK cornA
  rw [if_neg hA]
  match k, hk with
  | 0, _ => simp
  | 1, _ => simp
  | 2, _ => simp
  | 3, _ => simp
set_option maxHeartbeats 4000000 in
theorem mbShow_any (w : World) (q : Nat) (L A B : List Nat) (h : BM w q L A B) (len : B.length = A.length) (fx : Fits A) (fy : Fits B) :
    Calls Try.prog 87 #[ptr q] w fun e w' => e = .returned (S (showB A B)) ∧ BPost q L w A B w' := by
  have h8 := h.lt.2.1
  have C := fun V L' hV k => mbCorner_any V q L' A B hV len fx fy k
  obtain ⟨qx, qy, ox, oy, h, rfl⟩ := h
  obtain ⟨c0, c1, lq⟩ := h.at0
  have ML := ma_len w qx ox A h.mx
  have hl := itoa_len (A.length : Nat) (by omega) (by omega)
  rw [← str_size] at hl
  go_enter Try.func87, Try.ntmps87
  go_wp2_with fail
  refine ML.mono ?_
  rintro e w1 ⟨rfl, m1⟩
  obtain ⟨ox1, h1, n1, u1⟩ := h.stepX m1
  clear c0 c1 lq ML m1
  go_wp2_with fail
  refine (itoa_any _ (by omega) (by omega) _).mono ?_
  rintro e w2 ⟨rfl, b2⟩
  have h2 : BM w2 q (mOwn q qx qy ox1 oy) A B := BM.later ⟨qx, qy, ox1, oy, h1, rfl⟩ b2
  have P2 : BPost q (mOwn q qx qy ox oy) w A B w2 := .later ⟨_, ⟨qx, qy, ox1, oy, h1, rfl⟩, n1, u1⟩ b2
  clear h1 n1 u1 h2 b2
  by_cases hA : A = []
  · have hz : ((A.length : Int) == 0) = true := by simp; exact hA
    have HA : Hid _ := hA
    clear hA
    go_wp2
    go_ret
    refine ⟨?_, P2⟩
    show Ending.returned (.string (str [110, 61] ++ str (itoa (A.length : Nat)))) = _
    rw [str_append]
    unfold showB
    rw [if_pos HA.out, List.append_nil]
  · have hz := len_ne hA
    have HA : Hid (0 < A.length) := List.length_pos_iff.2 hA
    clear hA
    go_wp2
    go_loopw [4, 5] (fun o i wr => ∃ k : Nat, k ≤ 4 ∧ o = S (showK A B k) ∧ i = I (k : Int) ∧ BPost q (mOwn q qx qy ox oy) w A B wr) (fun _ i _ => (4 - intOf i).toNat)
    case atStart =>
      refine ⟨0, by omega, ?_, rfl, P2⟩
      show Value.string (str [110, 61] ++ str (itoa (A.length : Nat))) = _
      rw [str_append]
      simp [showK]
    case round =>
      obtain ⟨k, hk, rfl, rfl, Lr, hr, nr, ur⟩ := hrel
      have hpl := showK_len A B k h8
      by_cases hlt : k < 4
      · have hkd : decide ((k : Int) < 4) = true := by simp; omega
        go_wp2_with fail
        refine (C _ _ hr _).mono ?_
        rintro e w3 ⟨v, rfl, cv, L3, h3, n3, u3⟩
        have P3 : BPost q (mOwn q qx qy ox oy) w A B w3 := .trans nr ur ⟨L3, h3, n3, u3⟩
        have htl := text32_len (can32 v)
        have Cv : Hid _ := cv
        clear cv
        generalize (cornA A B (k : Int)).2 = ec
        clear hr nr ur h3 n3 u3
        go_wp2_with fail
        refine (text32_any _ _).mono ?_
        rintro e w4 ⟨rfl, b4⟩
        have P4 := P3.later b4
        clear P3 b4
        go_wp2
        go_roundw
        case rel =>
          refine ⟨k + 1, by omega, ?_, by go_num, P4⟩
          show Value.string (str (showK A B k) ++ str [32] ++ str (text32 (can32 v))) = _
          rw [str_append, str_append, showK_succ A B (List.length_pos_iff.1 HA.out) k hlt, Cv.out]
        case measure => simp [intOf]; omega
      · obtain rfl : k = 4 := by omega
        go_wp2
        go_ret
        exact ⟨by rw [← showK_four A B (List.length_pos_iff.1 HA.out)]; rfl, Lr, hr, nr, ur⟩
end Go.Proofs.Qxb6500472a
