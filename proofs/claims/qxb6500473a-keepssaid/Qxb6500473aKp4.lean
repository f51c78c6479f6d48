import Derived.Test.Qxb6500473aKp3
import Derived.Deep.DeepCutAuto
namespace Go.Proofs.Qxb6500473a
open Go.RowKit
attribute [local go_sem] run_store_float drewN_alloc drewN_setCell run_neg_float

def isum (nu : List Int) : Nat → Int
  | 0 => 0
  | i + 1 => isum nu i + nu.getD i 0
def smallP (nu de : List Int) (j : Nat) : Prop := ∀ i, i < j → de.getD i 0 = 1 ∧ -1125899906842624 ≤ nu.getD i 0 ∧ nu.getD i 0 ≤ 1125899906842624
theorem isum_le (nu de : List Int) : ∀ j, smallP nu de j → -(1125899906842624 * (j : Int)) ≤ isum nu j ∧ isum nu j ≤ 1125899906842624 * (j : Int)
  | 0, _ => by simp [isum]
  | j + 1, h => by
    obtain ⟨a, b⟩ := isum_le nu de j (fun i hi => h i (by omega))
    obtain ⟨-, c, d⟩ := h j (by omega)
    simp only [isum]
    constructor <;> push_cast <;> omega
theorem sum_exact (A : List Nat) (nu de : List Int) (m : Match A nu de) (h8 : A.length ≤ 8) : ∀ j, j ≤ A.length → smallP nu de j → psum A j = int64 (isum nu j)
  | 0, _, _ => by show 0 = int64 0; decide +kernel
  | j + 1, hj, h => by
    have ih := sum_exact A nu de m h8 j (by omega) (fun i hi => h i (by omega))
    obtain ⟨a, b⟩ := isum_le nu de j (fun i hi => h i (by omega))
    obtain ⟨a', b'⟩ := isum_le nu de (j + 1) h
    obtain ⟨e, c, d⟩ := h j (by omega)
    have hj8 : (j : Int) + 1 ≤ 8 := by omega
    push_cast at a' b'
    show add64 (psum A j) (A.getD j 0) = int64 (isum nu j + nu.getD j 0)
    rw [ih, m j (by omega), e, ratio_one _ (by omega) (by omega)]
    refine add_ints _ _ ?_ ?_ ?_ ?_ ?_ ?_
    · omega
    · omega
    · omega
    · omega
    · simp only [isum] at a'; omega
    · simp only [isum] at b'; omega

theorem whole_ok (a : Nat) (N E : Int) (h : wholeF a = (N, E)) : (E = 0 ∧ in53 a = true ∧ floatToIntVal .f64 a .i64 = some N ∧ -9007199254740992 ≤ N ∧ N ≤ 9007199254740992 ∧ (FloatKind.f64.format.order (int64 N) a == some .eq) = true) ∨
    (E = 4 ∧ N = 0 ∧ ∀ k, in53 a = true → floatToIntVal .f64 a .i64 = some k → (FloatKind.f64.format.order (int64 k) a == some .eq) = false) := by
  unfold wholeF at h
  cases h53 : in53 a with
  | false =>
    rw [h53] at h
    simp only [Bool.false_eq_true, if_false, Prod.mk.injEq] at h
    exact .inr ⟨h.2.symm, h.1.symm, fun k hk => by cases hk⟩
  | true =>
    obtain ⟨k, hk, k1, k2⟩ := int53_some a h53
    rw [h53, hk] at h
    simp only [if_true, Option.getD_some] at h
    cases ho : (FloatKind.f64.format.order (int64 k) a == some .eq) with
    | true =>
      rw [ho] at h
      simp only [if_true, Prod.mk.injEq] at h
      obtain ⟨rfl, rfl⟩ := h
      exact .inl ⟨rfl, rfl, hk, k1, k2, ho⟩
    | false =>
      rw [ho] at h
      simp only [Bool.false_eq_true, if_false, Prod.mk.injEq] at h
      refine .inr ⟨h.2.symm, h.1.symm, fun k' _ hk' => ?_⟩
      rw [hk] at hk'
      obtain rfl : k = k' := by simpa using hk'
      exact ho

set_option maxHeartbeats 8000000 in
set_option maxRecDepth 100000 in
theorem holds_some (w : World) (p bl q : Nat) (A : List Nat) (nu de : List Int) (h : SerA w p bl A) (g : GhR w q nu de A.length) (m : Match A nu de) (hA : A ≠ []) :
    Calls Try.prog 14 #[ptr p, ptr q] w fun e w' => e = .returned (.bool true) ∧ Below w.heap.size w w' := by
  obtain ⟨rq, nq, hq, cq⟩ := arith_ex Try.prog .quo 44 .f64 (by simp)
  obtain ⟨ra, na, ha, ca⟩ := arith_ex Try.prog .add 44 .f64 (by simp)
  have h8 := g.le
  have hpos : 0 < A.length := List.length_pos_iff.2 hA
  have hz : ((A.length : Int) == 0) = false := by simp; exact hA
  have c16 := g.cnt
  have HA : Hid _ := hA
  have HM : Hid _ := m
  clear m
  go_enter Try.func14, Try.ntmps14
  go_wp2_with fail
  go_region_held3 (fun W => W.cell? ⟨q, 16, none⟩ = some (I (A.length : Int))) (go_keep) (first | (go_at_call 21; refine (len_all _ p bl A (by first | exact h | exact h.drewN 1)).mono ?_; rintro e w1 ⟨rfl, rfl⟩))
  clear c16
  have h1 : SerA w.drew p bl A := h.drewN 1
  have g1 : GhR w.drew q nu de A.length := g.drewN 1
  have b1 : Below w.heap.size w w.drew := Below.drewN (Below.refl _ _) 1
  generalize w.drew = v1 at *
  have c16 := g1.cnt
  go_wp2_with fail
  refine (min_all v1 p bl A h1).mono ?_
  rintro e w2 ⟨lo, m2, rfl, clo, rfl⟩
  rw [if_neg hA]
  have h2 := h1.drewN m2
  have g2 := g1.drewN m2
  have b2 := Below.drewN b1 m2
  generalize v1.drewN m2 = v2 at *
  clear h1 g1 b1 c16
  go_wp2_with fail
  refine (max_all v2 p bl A h2).mono ?_
  rintro e w3 ⟨hi, m3, rfl, chi, rfl⟩
  rw [if_neg hA]
  have h3 := h2.drewN m3
  have g3 := g2.drewN m3
  have b3 := Below.drewN b2 m3
  generalize v2.drewN m3 = v3 at *
  clear h2 g2 b2 hA
  have c16 := g3.cnt
  go_wp2_with fail
  refine (itoa_any _ (by omega) (by omega) _).mono ?_
  rintro e w4 ⟨rfl, d4⟩
  have h4 := h3.later d4
  have g4 := g3.later d4
  have b4 := b3.trans (d4.mono b3.size)
  clear h3 g3 b3 d4 c16
  have hl := itoa_len (A.length : Nat) (by omega) (by omega)
  rw [← str_size] at hl
  go_wp2_with fail
  refine (text_any _ _).mono ?_
  rintro e w5 ⟨rfl, d5⟩
  have h5 := h4.later d5
  have g5 := g4.later d5
  have b5 := b4.trans (d5.mono b4.size)
  clear h4 g4 b4 d5
  go_wp2_with fail
  refine (text_any _ _).mono ?_
  rintro e w6 ⟨rfl, d6⟩
  have h6 := h5.later d6
  have g6 := g5.later d6
  have b6 := b5.trans (d6.mono b5.size)
  clear h5 g5 b5 d6
  go_wp2
  go_loopw [10, 13, 14, 15, 16, 17, 18] (fun o sm z t l u i wr => ∃ (j tv lv uv : Nat) (smb : Bool) (zv : Int), j ≤ A.length ∧ o = S (showPre A j) ∧ sm = .bool smb ∧ z = I zv ∧ t = D64 tv ∧ l = D64 lv ∧ u = D64 uv ∧ i = I (j : Int) ∧ Hid (smb = true → smallP nu de j ∧ zv = isum nu j) ∧ Hid (can64 tv = psum A j) ∧ Hid (0 < j → can64 lv = pmin A (j - 1)) ∧ Hid (0 < j → can64 uv = pmax A (j - 1)) ∧ SerA wr p bl A ∧ GhR wr q nu de A.length ∧ Below w.heap.size w wr) (fun _ _ _ _ _ _ i _ => (A.length - intOf i).toNat)
  case atStart =>
    refine ⟨0, 0, 0, 0, true, 0, by omega, ?_, rfl, rfl, rfl, rfl, rfl, rfl, fun _ => ⟨fun i hi => by omega, rfl⟩, ?_, fun h => by omega, fun h => by omega, h6, g6, b6⟩
    · show Value.string (str [110, 61] ++ str (itoa (A.length : Nat))) = _
      rw [str_append]
      simp [showPre]
    · show can64 0 = 0
      decide +kernel
  case round =>
    clear h6 g6 b6
    obtain ⟨j, tv, lv, uv, smb, zv, hj, rfl, rfl, rfl, rfl, rfl, rfl, rfl, hsm, htv, hlv, huv, sr, gr, br⟩ := hrel
    have c16 := gr.cnt
    have hpl := showPre_len A j h8 hj
    by_cases hlt : j < A.length
    · have hjl : (j : Int) < (A.length : Int) := by omega
      go_wp2_with fail
      refine (at_all wr p bl A sr j hlt).mono ?_
      rintro e w1 ⟨v, m1, rfl, cv, rfl⟩
      have s1 := sr.drewN m1
      have g1 := gr.drewN m1
      have b1 := Below.drewN br m1
      generalize wr.drewN m1 = v7 at *
      clear sr gr br c16
      go_wp2_with fail
      refine (text_any _ _).mono ?_
      rintro e w2 ⟨rfl, d2⟩
      have s2 := s1.later d2
      have g2 := g1.later d2
      have b2 := b1.trans (d2.mono b1.size)
      clear s1 g1 b1 d2
      have c1 := g2.num j (by omega)
      have c2 := g2.den j (by omega)
      have hj8 : (j : Int) < 8 := by omega
      have hAj := HM.out j hlt
      generalize hx : nu.getD j 0 = x at *
      generalize hy : de.getD j 0 = y at *
      have HX : Hid _ := hx
      have HY : Hid _ := hy
      clear hx hy
      go_wp2_with fail
      go_region
      go_wp2_with fail
      have cr : can64 (rq (floatOfInt .f64 x) (floatOfInt .f64 y) w2.drew) = A.getD j 0 := (cq.out _ _ _).trans (by rw [can_ofInt, can_ofInt, hAj]; rfl)
      have s3 := s2.drewN (1 + nq (floatOfInt .f64 x) (floatOfInt .f64 y))
      have g3 := g2.drewN (1 + nq (floatOfInt .f64 x) (floatOfInt .f64 y))
      have b3 := Below.drewN b2 (1 + nq (floatOfInt .f64 x) (floatOfInt .f64 y))
      generalize rq (floatOfInt .f64 x) (floatOfInt .f64 y) w2.drew = r at *
      generalize w2.drewN (1 + nq (floatOfInt .f64 x) (floatOfInt .f64 y)) = v8 at *
      clear s2 g2 b2 c1 c2 hAj
      have htx : text64 r = text64 v := by rw [← text_can r, ← text_can v, show can .f64 r = _ from cr, show can .f64 v = _ from cv]
      refine (text_any _ _).mono ?_
      rintro e w4 ⟨rfl, d4⟩
      rw [htx]
      have s4 := s3.later d4
      have g4 := g3.later d4
      have b4 := b3.trans (d4.mono b3.size)
      clear s3 g3 b3 d4 htx
      have htl := text_len v
      rw [← str_size] at htl
      have hlo : (FloatKind.f64.format.order v lo == some .lt) = false := by
        have := pmin_le A (A.length - 1) j (by omega)
        rw [← minF_pmin A HA.out, ← clo, ← cv, ltF_can] at this
        exact this
      have hhi : (FloatKind.f64.format.order v hi == some .gt) = false := by
        have := pmax_le A (A.length - 1) j (by omega)
        rw [← maxF_pmax A HA.out, ← chi, ← cv, gtF_can] at this
        exact this
      go_upto_region 24 with fail
      have ct : can64 (ra tv r w4) = psum A (j + 1) := (ca.out _ _ _).trans (by rw [psum, ← htv.out, ← cr])
      have s9 := s4.drewN (na tv r)
      have g9 := g4.drewN (na tv r)
      have b9 := Below.drewN b4 (na tv r)
      generalize ra tv r w4 = t2 at *
      generalize w4.drewN (na tv r) = v9 at *
      clear s4 g4 b4
      go_cut [123] from 71 to 233 (fun s wx => ∃ c : Bool, s = .bool c ∧ Hid (c = (decide (j = 0) || (FloatKind.f64.format.order r lv == some .lt))) ∧ v9 = wx)
      case first =>
        as_aux_lemma =>
        by_cases hj0 : j = 0
        · have hj0b : ((j : Int) == 0) = true := by simp; omega
          have HJ : Hid _ := hj0
          clear hj0
          go_wp2_with fail
          go_meet
          case rel => exact ⟨true, rfl, by show true = _; rw [decide_eq_true HJ.out]; rfl, rfl⟩
        · have hj0b : ((j : Int) == 0) = false := by simp; omega
          have HJ : Hid _ := hj0
          clear hj0
          go_wp2_with fail
          go_meet
          case rel => exact ⟨_, rfl, by show _ = _; rw [decide_eq_false HJ.out]; rfl, rfl⟩
      case rest =>
      as_aux_lemma =>
      obtain ⟨c1, rfl, Hc1, rfl⟩ := hcut
      go_upto_if 123 with fail
      go_cut [16] from 71 to 233 (fun s wx => ∃ l2 : Nat, s = D64 l2 ∧ Hid (can64 l2 = pmin A j) ∧ v9 = wx)
      case first =>
        as_aux_lemma =>
        cases c1 with
        | true =>
          go_wp2_with fail
          go_meet
          case rel =>
            refine ⟨r, rfl, ?_, rfl⟩
            show can64 r = _
            rw [cr]
            rcases Nat.eq_zero_or_pos j with hj0 | hj0
            · subst hj0; rfl
            · obtain ⟨k, rfl⟩ : ∃ k, j = k + 1 := ⟨j - 1, by omega⟩
              have e := Hc1.out
              rw [decide_eq_false (by omega), Bool.false_or] at e
              have e2 : ltF (A.getD (k + 1) 0) (pmin A k) = true := by
                have := hlv.out hj0
                rw [Nat.add_sub_cancel] at this
                rw [← cr, ← this, ltF_can]; exact e.symm
              rw [pmin, loF, if_pos e2]
        | false =>
          go_wp2_with fail
          go_meet
          case rel =>
            refine ⟨lv, rfl, ?_, rfl⟩
            show can64 lv = _
            have e := Hc1.out
            rcases Nat.eq_zero_or_pos j with hj0 | hj0
            · rw [decide_eq_true hj0] at e; cases e
            · obtain ⟨k, rfl⟩ : ∃ k, j = k + 1 := ⟨j - 1, by omega⟩
              rw [decide_eq_false (by omega), Bool.false_or] at e
              have h0 := hlv.out hj0
              rw [Nat.add_sub_cancel] at h0
              have e2 : ltF (A.getD (k + 1) 0) (pmin A k) = false := by
                rw [← cr, ← h0, ltF_can]; exact e.symm
              rw [h0, pmin, loF, if_neg (by rw [e2]; simp)]
      case rest =>
      as_aux_lemma =>
      obtain ⟨l2, rfl, Hl2, rfl⟩ := hcut
      clear Hc1
      go_upto_region 26 with fail
      go_cut [131] from 71 to 233 (fun s wx => ∃ c : Bool, s = .bool c ∧ Hid (c = (decide (j = 0) || (FloatKind.f64.format.order r uv == some .gt))) ∧ v9 = wx)
      case first =>
        as_aux_lemma =>
        by_cases hj0 : j = 0
        · have hj0b : ((j : Int) == 0) = true := by simp; omega
          have HJ : Hid _ := hj0
          clear hj0
          go_wp2_with fail
          go_meet
          case rel => exact ⟨true, rfl, by show true = _; rw [decide_eq_true HJ.out]; rfl, rfl⟩
        · have hj0b : ((j : Int) == 0) = false := by simp; omega
          have HJ : Hid _ := hj0
          clear hj0
          go_wp2_with fail
          go_meet
          case rel => exact ⟨_, rfl, by show _ = _; rw [decide_eq_false HJ.out]; rfl, rfl⟩
      case rest =>
      as_aux_lemma =>
      obtain ⟨c2, rfl, Hc2, rfl⟩ := hcut
      go_upto_if 131 with fail
      go_cut [17] from 71 to 233 (fun s wx => ∃ u2 : Nat, s = D64 u2 ∧ Hid (can64 u2 = pmax A j) ∧ v9 = wx)
      case first =>
        as_aux_lemma =>
        cases c2 with
        | true =>
          go_wp2_with fail
          go_meet
          case rel =>
            refine ⟨r, rfl, ?_, rfl⟩
            show can64 r = _
            rw [cr]
            rcases Nat.eq_zero_or_pos j with hj0 | hj0
            · subst hj0; rfl
            · obtain ⟨k, rfl⟩ : ∃ k, j = k + 1 := ⟨j - 1, by omega⟩
              have e := Hc2.out
              rw [decide_eq_false (by omega), Bool.false_or] at e
              have e2 : gtF (A.getD (k + 1) 0) (pmax A k) = true := by
                have := huv.out hj0
                rw [Nat.add_sub_cancel] at this
                rw [← cr, ← this, gtF_can]; exact e.symm
              rw [pmax, hiF, if_pos e2]
        | false =>
          go_wp2_with fail
          go_meet
          case rel =>
            refine ⟨uv, rfl, ?_, rfl⟩
            show can64 uv = _
            have e := Hc2.out
            rcases Nat.eq_zero_or_pos j with hj0 | hj0
            · rw [decide_eq_true hj0] at e; cases e
            · obtain ⟨k, rfl⟩ : ∃ k, j = k + 1 := ⟨j - 1, by omega⟩
              rw [decide_eq_false (by omega), Bool.false_or] at e
              have h0 := huv.out hj0
              rw [Nat.add_sub_cancel] at h0
              have e2 : gtF (A.getD (k + 1) 0) (pmax A k) = false := by
                rw [← cr, ← h0, gtF_can]; exact e.symm
              rw [h0, pmax, hiF, if_neg (by rw [e2]; simp)]
      case rest =>
      as_aux_lemma =>
      obtain ⟨u2, rfl, Hu2, rfl⟩ := hcut
      clear Hc2
      have c1 := g9.num j (by omega)
      have c2 := g9.den j (by omega)
      rw [HX.out] at c1
      rw [HY.out] at c2
      have hWh := whole_all v9 p bl A s9 j hlt
      obtain ⟨N, E, hNE⟩ : ∃ N E, wholeF (A.getD j 0) = (N, E) := ⟨_, _, rfl⟩
      rw [hNE] at hWh
      have hAj := HM.out j hlt
      rw [HX.out, HY.out] at hAj
      go_wp2_with fail
      refine hWh.mono ?_
      rintro e wA ⟨rfl, mA, rfl⟩
      clear hWh c1 c2
      have sA := s9.drewN mA
      have gA := g9.drewN mA
      have bA := Below.drewN b9 mA
      generalize v9.drewN mA = vA at *
      clear s9 g9 b9
      have c1 := gA.num j (by omega)
      have c2 := gA.den j (by omega)
      rw [HX.out] at c1
      rw [HY.out] at c2
      go_upto_region 32 with fail
      go_cut [167] from 71 to 233 (fun s wx => ∃ c : Bool, s = .bool c ∧ Hid (c = true → y = 1 ∧ -9007199254740992 ≤ x ∧ x ≤ 9007199254740992) ∧ vA = wx)
      case first =>
        as_aux_lemma =>
        by_cases y1 : y = 1
        · have y1b : (y == 1) = true := by simpa using y1
          have HY1 : Hid _ := y1
          clear y1
          by_cases x1 : -9007199254740992 ≤ x
          · by_cases x2 : x ≤ 9007199254740992
            · go_wp2_with fail
              go_meet
              case rel => exact ⟨true, rfl, fun _ => ⟨HY1.out, x1, x2⟩, rfl⟩
            · go_wp2_with fail
              go_meet
              case rel => exact ⟨false, rfl, fun h => (by cases h), rfl⟩
          · go_wp2_with fail
            go_meet
            case rel => exact ⟨false, rfl, fun h => (by cases h), rfl⟩
        · have y1b : (y == 1) = false := by simpa using y1
          clear y1
          go_wp2_with fail
          go_meet
          case rel => exact ⟨false, rfl, fun h => (by cases h), rfl⟩
      case rest =>
      as_aux_lemma =>
      obtain ⟨c3, rfl, Hc3, rfl⟩ := hcut
      go_upto_if 167 with fail
      go_cut [4] from 71 to 233 (fun _ wx => vA = wx)
      case first =>
        as_aux_lemma =>
        cases c3 with
        | true =>
          obtain ⟨q1, q2, q3⟩ := Hc3.out rfl
          have e0 : (N, E) = (x, (0 : Int)) := by rw [← hNE, hAj, q1, ratio_one x q2 q3, whole_int x q2 q3]
          have eE : (E != 0) = false := by simp only [Prod.mk.injEq] at e0; rw [e0.2]; rfl
          have eN : (N != x) = false := by simp only [Prod.mk.injEq] at e0; rw [e0.1]; simp
          clear e0 q1 q2 q3
          go_wp2_with fail
          go_meet
          case rel => rfl
        | false =>
          go_wp2_with fail
          go_meet
          case rel => rfl
      case rest =>
      as_aux_lemma =>
      obtain rfl := hcut
      clear Hc3
      have hOK := whole_ok _ _ _ hNE
      rw [← cv] at hOK
      go_upto_if 176 with fail
      go_cut [4] from 71 to 233 (fun _ wx => vA = wx)
      case first =>
        as_aux_lemma =>
        rcases hOK with ⟨e0, -, -, k1, k2, k3⟩ | ⟨e0, -, -⟩
        · have eE : (E == 0) = true := by rw [e0]; rfl
          have k1' : ¬ N < -9007199254740992 := by omega
          have k2' : ¬ 9007199254740992 < N := by omega
          have k4 : (FloatKind.f64.format.order (int64 N) v != some .eq) = false := by
            have e := order_can .f64 (int64 N) v
            rw [can_ofInt] at e
            rw [e]
            simpa [bne] using k3
          clear e0 k1 k2 k3
          go_wp2_with fail
          go_meet
          case rel => rfl
        · have eE : (E == 0) = false := by rw [e0]; rfl
          clear e0
          go_wp2_with fail
          go_meet
          case rel => rfl
      case rest =>
      as_aux_lemma =>
      obtain rfl := hcut
      go_upto_region 39 with fail
      go_cut [194] from 71 to 233 (fun s wx => s = .bool (in53 r) ∧ vA = wx)
      case first =>
        as_aux_lemma =>
        cases hA1 : (FloatKind.f64.format.order r 14069245235905429504 == some .gt || FloatKind.f64.format.order r 14069245235905429504 == some .eq) with
        | false =>
          go_wp2_with fail
          go_meet
          case rel => exact ⟨congrArg Value.bool (by unfold in53; rw [hA1]; rfl), rfl⟩
        | true =>
          go_wp2_with fail
          go_meet
          case rel => exact ⟨congrArg Value.bool (by unfold in53; rw [hA1]; rfl), rfl⟩
      case rest =>
      as_aux_lemma =>
      obtain ⟨rfl, rfl⟩ := hcut
      go_upto_if 194 with fail
      go_cut [26] from 71 to 233 (fun s wx => s = .bool (E == 0) ∧ vA = wx)
      case first =>
        as_aux_lemma =>
        have i53 : in53 v = in53 r := by rw [← in53_can v, ← in53_can r, show can .f64 v = _ from cv, show can .f64 r = _ from cr]
        have it : floatToIntVal .f64 (can64 v) .i64 = floatToIntVal .f64 r .i64 := by rw [cv, ← cr]; exact floatToIntVal_can _ _ _
        cases hb : in53 r with
        | false =>
          go_wp2_with fail
          go_meet
          case rel =>
            refine ⟨congrArg Value.bool ?_, rfl⟩
            rcases hOK with ⟨e0, a1, -⟩ | ⟨e0, -⟩
            · rw [show in53 (can64 v) = in53 v from in53_can v, i53, hb] at a1; cases a1
            · rw [e0]; rfl
        | true =>
          obtain ⟨z, hk, k1, k2⟩ := int53_some r hb
          have hcv := fun V => run_convert_float_int (P := Try.prog) V 44 3 .f64 .i64 r z (by rw [Try.underlying44]; rfl) Try.underlying3 hk
          have HK : Hid _ := hk
          clear hk
          go_wp2_with fail
          go_meet
          case rel =>
            refine ⟨congrArg Value.bool ?_, rfl⟩
            have oc : (FloatKind.f64.format.order (int64 z) r) = (FloatKind.f64.format.order (int64 z) (can64 v)) := by
              have e := order_can .f64 (int64 z) r
              rw [can_ofInt, show can .f64 r = _ from cr, ← cv] at e
              exact e
            rcases hOK with ⟨e0, a1, a2, -, -, a3⟩ | ⟨e0, -, a4⟩
            · rw [it, HK.out] at a2
              obtain rfl : z = N := by simpa using a2
              show (FloatKind.f64.format.order (int64 z) r == some .eq) = _
              rw [oc, a3, e0]; rfl
            · show (FloatKind.f64.format.order (int64 z) r == some .eq) = _
              rw [oc, a4 z (by rw [show in53 (can64 v) = in53 v from in53_can v, i53, hb]) (by rw [it, HK.out]), e0]; rfl
      case rest =>
      as_aux_lemma =>
      obtain ⟨rfl, rfl⟩ := hcut
      have hself : ((E == 0) != (E == 0)) = false := by simp
      go_upto_if 203 with fail
      go_cut [4] from 71 to 233 (fun _ wx => vA = wx)
      case first =>
        as_aux_lemma =>
        go_wp2_with fail
        go_meet
        case rel => rfl
      case rest =>
      as_aux_lemma =>
      obtain rfl := hcut
      go_upto_if 205 with fail
      go_cut [4] from 71 to 233 (fun _ wx => vA = wx)
      case first =>
        as_aux_lemma =>
        rcases hOK with ⟨e0, -⟩ | ⟨e0, e1, -⟩
        · subst e0
          go_wp2_with fail
          go_meet
          case rel => rfl
        · subst e0
          subst e1
          go_wp2_with fail
          go_meet
          case rel => rfl
      case rest =>
      as_aux_lemma =>
      obtain rfl := hcut
      clear hOK
      go_upto_region 46 with fail
      go_cut [13] from 71 to 233 (fun s wx => ∃ sm2 : Bool, s = .bool sm2 ∧ Hid (sm2 = true → smb = true ∧ y = 1 ∧ -1125899906842624 ≤ x ∧ x ≤ 1125899906842624) ∧ vA = wx)
      case first =>
        as_aux_lemma =>
        cases smb with
        | false =>
          go_wp2_with fail
          go_meet
          case rel => exact ⟨false, rfl, fun h => (by cases h), rfl⟩
        | true =>
          by_cases y1 : y = 1
          · have y1b : (y == 1) = true := by simpa using y1
            have HY1 : Hid _ := y1
            clear y1
            by_cases x1 : -1125899906842624 ≤ x
            · by_cases x2 : x ≤ 1125899906842624
              · go_wp2_with fail
                go_meet
                case rel => exact ⟨true, rfl, fun _ => ⟨(by first | rfl | trivial), HY1.out, x1, x2⟩, rfl⟩
              · go_wp2_with fail
                go_meet
                case rel => exact ⟨false, rfl, fun h => (by cases h), rfl⟩
            · go_wp2_with fail
              go_meet
              case rel => exact ⟨false, rfl, fun h => (by cases h), rfl⟩
          · have y1b : (y == 1) = false := by simpa using y1
            clear y1
            go_wp2_with fail
            go_meet
            case rel => exact ⟨false, rfl, fun h => (by cases h), rfl⟩
      case rest =>
      as_aux_lemma =>
      obtain ⟨sm2, rfl, Hs2, rfl⟩ := hcut
      go_upto_if 230 with fail
      have hfin : ∀ z2 : Int, (sm2 = true → z2 = zv + x) → Hid (sm2 = true → smallP nu de (j + 1) ∧ z2 = isum nu (j + 1)) := by
        intro z2 Hz2 h2
        obtain ⟨q1, q2, q3, q4⟩ := Hs2.out h2
        obtain ⟨q5, q6⟩ := hsm.out q1
        refine ⟨fun i hi => ?_, ?_⟩
        · by_cases e : i < j
          · exact q5 i e
          · obtain rfl : i = j := by omega
            rw [HX.out, HY.out]
            exact ⟨q2, q3, q4⟩
        · rw [Hz2 h2, isum, HX.out, q6]
      have hsh : Value.string (str (showPre A j) ++ str [32] ++ str (text64 v)) = S (showPre A (j + 1)) := by
        rw [str_append, str_append, showPre_succ A j hlt, ← text_can v, show can .f64 v = _ from cv]
      have Hfin : Hid _ := hfin
      have Hsh : Hid _ := hsh
      clear hfin hsh
      cases sm2 with
      | false =>
        as_aux_lemma =>
        go_wp2_with fail
        go_roundw
        case rel => exact ⟨j + 1, t2, l2, u2, false, zv, by omega, Hsh.out, rfl, rfl, rfl, rfl, rfl, by go_num, Hfin.out zv (fun h => by cases h), ct, fun _ => Hl2.out, fun _ => Hu2.out, sA, gA, bA⟩
        case measure => simp [intOf]; omega
      | true =>
        as_aux_lemma =>
        obtain ⟨q1, q2, q3, q4⟩ := Hs2.out rfl
        obtain ⟨q5, q6⟩ := hsm.out q1
        obtain ⟨q7, q8⟩ := isum_le nu de j q5
        have hw := wr64 (zv + x) (by omega) (by omega)
        clear q1 q2 q3 q4 q5 q6 q7 q8
        go_wp2_with fail
        go_roundw
        case rel => exact ⟨j + 1, t2, l2, u2, true, zv + x, by omega, Hsh.out, rfl, rfl, rfl, rfl, rfl, by go_num, Hfin.out _ (fun _ => rfl), ct, fun _ => Hl2.out, fun _ => Hu2.out, sA, gA, bA⟩
        case measure => simp [intOf]; omega
    · as_aux_lemma =>
      obtain rfl : j = A.length := by omega
      clear hlt hj
      have e1 : text64 lv = text64 lo := by rw [← text_can lv, ← text_can lo, show can .f64 lv = _ from hlv.out hpos, show can .f64 lo = _ from clo, minF_pmin A HA.out]
      have e2 : text64 uv = text64 hi := by rw [← text_can uv, ← text_can hi, show can .f64 uv = _ from huv.out hpos, show can .f64 hi = _ from chi, maxF_pmax A HA.out]
      go_wp2_with fail
      refine (text_any _ _).mono ?_
      rintro e w1 ⟨rfl, d1⟩
      rw [e1]
      have s1 := sr.later d1
      have g1 := gr.later d1
      have b1 := br.trans (d1.mono br.size)
      clear sr gr br d1 c16
      go_wp2_with fail
      refine (text_any _ _).mono ?_
      rintro e w2 ⟨rfl, d2⟩
      rw [e2]
      have s2 := s1.later d2
      have g2 := g1.later d2
      have b2 := b1.trans (d2.mono b1.size)
      clear s1 g1 b1 d2 e1 e2
      go_wp2_with fail
      refine (sum_all w2 p bl A s2).mono ?_
      rintro e w3 ⟨al, m3, rfl, cal, rfl⟩
      have s3 := s2.drewN m3
      have g3 := g2.drewN m3
      have b3 := Below.drewN b2 m3
      generalize w2.drewN m3 = v3 at *
      clear s2 g2 b2
      have e3 : text64 al = text64 tv := by rw [← text_can al, ← text_can tv, show can .f64 al = _ from cal, show can .f64 tv = _ from htv.out, sumF_psum]
      go_wp2_with fail
      refine (text_any _ _).mono ?_
      rintro e w4 ⟨rfl, d4⟩
      have s4 := s3.later d4
      have g4 := g3.later d4
      have b4 := b3.trans (d4.mono b3.size)
      clear s3 g3 b3 d4
      go_wp2_with fail
      refine (text_any _ _).mono ?_
      rintro e w5 ⟨rfl, d5⟩
      rw [e3]
      have s5 := s4.later d5
      have g5 := g4.later d5
      have b5 := b4.trans (d5.mono b4.size)
      clear s4 g4 b4 d5 e3
      have tl := text_len tv
      rw [← str_size] at tl
      go_wp2_with fail
      refine (mean_all w5 p bl A s5).mono ?_
      rintro e w6 ⟨me, m6, rfl, cme, rfl⟩
      rw [if_neg HA.out]
      have s6 := s5.drewN m6
      have g6 := g5.drewN m6
      have b6 := Below.drewN b5 m6
      generalize w5.drewN m6 = v6 at *
      clear s5 g5 b5
      have c16 := g6.cnt
      have hpi : (0 : Int) < (A.length : Int) := by omega
      go_wp2_with fail
      have cr : can64 (rq tv (floatOfInt .f64 (A.length : Int)) v6) = meanF A := (cq.out _ _ _).trans (by rw [can_ofInt, show can .f64 tv = _ from htv.out, meanF, if_neg HA.out, sumF_psum])
      have s7 := s6.drewN (nq tv (floatOfInt .f64 (A.length : Int)))
      have g7 := g6.drewN (nq tv (floatOfInt .f64 (A.length : Int)))
      have b7 := Below.drewN b6 (nq tv (floatOfInt .f64 (A.length : Int)))
      generalize rq tv (floatOfInt .f64 (A.length : Int)) v6 = r at *
      generalize v6.drewN (nq tv (floatOfInt .f64 (A.length : Int))) = v7 at *
      clear s6 g6 b6 c16
      have e4 : text64 me = text64 r := by rw [← text_can me, ← text_can r, show can .f64 me = _ from cme, show can .f64 r = _ from cr]
      refine (text_any _ _).mono ?_
      rintro e w8 ⟨rfl, d8⟩
      have s8 := s7.later d8
      have g8 := g7.later d8
      have b8 := b7.trans (d8.mono b7.size)
      clear s7 g7 b7 d8
      have l1 := text_len r
      have l2 := text_len lo
      have l3 := text_len hi
      rw [← str_size] at l1 l2 l3
      go_wp2_with fail
      refine (text_any _ _).mono ?_
      rintro e w9 ⟨rfl, d9⟩
      rw [e4]
      have s9 := s8.later d9
      have g9 := g8.later d9
      have b9 := b8.trans (d9.mono b8.size)
      clear s8 g8 b8 d9 e4
      have hsh : S (showF A) = .string (str (showPre A A.length) ++ ⟨#[32, 115, 61]⟩ ++ str (text64 tv) ++ ⟨#[32, 109, 61]⟩ ++ str (text64 r) ++ ⟨#[32, 108, 61]⟩ ++ str (text64 lo) ++ ⟨#[32, 104, 61]⟩ ++ str (text64 hi)) := by
        show _ = Value.string (str (showPre A A.length) ++ str [32, 115, 61] ++ str (text64 tv) ++ str [32, 109, 61] ++ str (text64 r) ++ str [32, 108, 61] ++ str (text64 lo) ++ str [32, 104, 61] ++ str (text64 hi))
        simp only [str_append]
        unfold showF
        rw [if_neg HA.out, ← text_can tv, show can .f64 tv = _ from htv.out, ← sumF_psum, ← text_can r, show can .f64 r = _ from cr, ← text_can lo, show can .f64 lo = _ from clo, ← text_can hi, show can .f64 hi = _ from chi]
        simp only [List.append_assoc]
      go_wp2_with fail
      refine (show_any _ p bl A s9).mono ?_
      rintro e wA ⟨rfl, dA⟩
      rw [hsh]
      have sA := s9.later dA
      have gA := g9.later dA
      have bA := b9.trans (dA.mono b9.size)
      clear s9 g9 b9 dA hsh
      go_wp2_with fail
      refine (beyond_any _ p bl A sA (-1) (.inl (by omega))).mono ?_
      rintro e wB ⟨rfl, dB⟩
      have sB := sA.later dB
      have gB := gA.later dB
      have bB := bA.trans (dB.mono bA.size)
      clear sA gA bA dB
      have c16 := gB.cnt
      go_wp2_with fail
      refine (beyond_any _ p bl A sB (A.length : Int) (.inr (by omega))).mono ?_
      rintro e wC ⟨rfl, dC⟩
      have bC := bB.trans (dC.mono bB.size)
      clear sB gB bB dC c16
      cases smb with
      | false =>
        go_wp2
        go_ret
        exact ⟨rfl, bC⟩
      | true =>
        have k : (FloatKind.f64.format.order al (floatOfInt .f64 zv) == some .eq) = true := by
          obtain ⟨q5, q6⟩ := hsm.out rfl
          obtain ⟨q7, q8⟩ := isum_le nu de _ q5
          have e := order_can .f64 al (floatOfInt .f64 zv)
          rw [can_ofInt, show can .f64 al = _ from cal, sumF_psum, sum_exact A nu de HM.out h8 _ (Nat.le_refl _) q5, ← q6] at e
          rw [e]
          exact order_int zv (by omega) (by omega)
        go_wp2
        go_ret
        exact ⟨rfl, bC⟩
end Go.Proofs.Qxb6500473a
