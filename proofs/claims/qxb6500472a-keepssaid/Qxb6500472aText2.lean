import Derived.Test.Qxb6500472aText
namespace Go.Proofs.Qxb6500472a
open Go.RowKit
open Ieee (Format Datum double single Toward)
theorem run_neg_float {P : Program} (w : World) (k : FloatKind) (b : Nat) : (Op.unary .neg (.float k b)).run P w = .ok (.float k (Op.negFloat k b)) w := rfl
attribute [local go_sem] run_neg_float

set_option maxHeartbeats 1000000 in
theorem text_inf_true (x : Nat) (hs : sgn double x = true) (h : rung double x = 9218868437227405312) (w : World) : Calls Try.prog 73 #[.float .f64 x] w fun e w' => e = .returned (S (text64 x)) ∧ Below w.heap.size w w' := by
  have h1 := order_self x (by omega)
  obtain ⟨h2, h3⟩ := order_pos x (by omega) (by omega)
  rw [hs] at h3
  have e : text64 x = [45] ++ [73, 110, 102] := by unfold text64; rw [if_neg (by omega), if_neg (by omega), hs, if_pos h]; rfl
  rw [e]
  clear e
  have np := neg_parts x
  have hr : double.read (Op.negFloat .f64 x) = .infinity false := by rw [read_inf double _ (by rw [np.2, inf64]; exact h) le_inf64, np.1, hs]; rfl
  obtain ⟨i1, i2⟩ := inf_twice _ hr
  have h4 := fun W => run_float_arith (P := Try.prog) W .add 80 .f64 _ _ _ i1
  clear i1 hr np
  go_enter Try.func73, Try.ntmps73
  go_wp2
  go_ret
  exact ⟨rfl, Below.refl _ _⟩

set_option maxHeartbeats 1000000 in
theorem text_inf_false (x : Nat) (hs : sgn double x = false) (h : rung double x = 9218868437227405312) (w : World) : Calls Try.prog 73 #[.float .f64 x] w fun e w' => e = .returned (S (text64 x)) ∧ Below w.heap.size w w' := by
  have h1 := order_self x (by omega)
  obtain ⟨h2, h3⟩ := order_pos x (by omega) (by omega)
  rw [hs] at h3
  have e : text64 x = [43] ++ [73, 110, 102] := by unfold text64; rw [if_neg (by omega), if_neg (by omega), hs, if_pos h]; rfl
  rw [e]
  clear e
  have hr : double.read x = .infinity false := by rw [read_inf double _ (by rw [inf64]; exact h) le_inf64, hs]
  obtain ⟨i1, i2⟩ := inf_twice _ hr
  have h4 := fun W => run_float_arith (P := Try.prog) W .add 80 .f64 _ _ _ i1
  clear i1 hr
  go_enter Try.func73, Try.ntmps73
  go_wp2
  go_ret
  exact ⟨rfl, Below.refl _ _⟩

set_option exponentiation.threshold 3000 in
/-- Halving: how often at most. -/
theorem halve_count (r k N : Nat) (h1 : 4611686018427387904 ≤ r) (hN : valR double r * 2 ^ k = N) (hb : N < 2 ^ 2098) : k < 1100 := by
  rcases Nat.lt_or_ge k 1100 with h | h
  · exact h
  · exfalso
    have h2 := valR_le h1
    rw [valR_two] at h2
    have h3 : 2 ^ 1075 * 2 ^ 1100 ≤ valR double r * 2 ^ k := Nat.mul_le_mul h2 (Nat.pow_le_pow_right (by decide) h)
    rw [hN, ← Nat.pow_add] at h3
    have h4 : (2 : Nat) ^ 2098 ≤ 2 ^ (1075 + 1100) := Nat.pow_le_pow_right (by decide) (by decide)
    exact absurd (Nat.lt_of_lt_of_le hb (Nat.le_trans h4 h3)) (Nat.lt_irrefl _)
set_option exponentiation.threshold 3000 in
theorem double_count (r r0 j : Nat) (h0 : 0 < r0) (h1 : r < 4607182418800017408) (hN : valR double r = valR double r0 * 2 ^ j) : j < 1100 := by
  rcases Nat.lt_or_ge j 1100 with h | h
  · exact h
  · exfalso
    have h2 := valR_lt double h1
    rw [valR_one] at h2
    have h3 : 1 * 2 ^ 1100 ≤ valR double r0 * 2 ^ j := Nat.mul_le_mul (valR_pos _ h0) (Nat.pow_le_pow_right (by decide) h)
    rw [← hN, Nat.one_mul] at h3
    have h4 : (2 : Nat) ^ 1074 ≤ 2 ^ 1100 := Nat.pow_le_pow_right (by decide) (by decide)
    exact absurd (Nat.lt_of_lt_of_le h2 (Nat.le_trans h4 h3)) (Nat.lt_irrefl _)

set_option exponentiation.threshold 3000 in
set_option maxRecDepth 100000 in
set_option maxHeartbeats 4000000 in
theorem text_fin_true (x r0 : Nat) (hs : sgn double x = true) (hr0 : rung double x = r0) (g0 : 0 < r0) (g1 : r0 < 9218868437227405312) (w : World) : Calls Try.prog 73 #[.float .f64 x] w fun e w' => e = .returned (S (text64 x)) ∧ Below w.heap.size w w' := by
  have h1 := order_self x (by omega)
  obtain ⟨h2, h3⟩ := order_pos x (by omega) (by omega)
  rw [hs] at h3
  obtain ⟨N, hN⟩ : ∃ N, valR double r0 = N := ⟨_, rfl⟩
  have hNb : N < 2 ^ 2098 := by rw [← hN, ← valR_inf]; exact valR_lt double g1
  have e : text64 x = [45] ++ (itoa (mant N : Nat) ++ [112] ++ itoa (expo N)) := by unfold text64; rw [hr0, if_neg (by omega), if_neg (by omega), hs, hN]; simp only [if_true]; rw [if_neg (by omega)]
  rw [e]
  clear e
  obtain ⟨s1, s2⟩ := own_rung r0 (by omega)
  have np := neg_parts x
  have hrd : double.read (Op.negFloat .f64 x) = double.read r0 := read_eq _ _ (by rw [np.1, hs, s1]; rfl) (by rw [np.2, hr0, s2])
  clear np
  obtain ⟨A, i1, i2⟩ := num_twice _ r0 hrd g0 g1
  have h4 := fun W => run_float_arith (P := Try.prog) W .add 80 .f64 _ _ _ i1
  have HN : Hid _ := hN
  have HR : Hid _ := hrd
  have HB : Hid _ := hNb
  clear i1 hrd hN hNb s1 s2 hr0 hs
  go_enter Try.func73, Try.ntmps73
  go_wp2
  go_loop [0, 4, 5] (fun x e i => ∃ y r k : Nat, x = .float .f64 y ∧ e = I (-52 + (k : Int)) ∧ i = I (k : Int) ∧ Hid (double.read y = double.read r) ∧ 0 < r ∧ r < 9218868437227405312 ∧ Hid (valR double r * 2 ^ k = N) ∧ (k = 0 ∨ 4607182418800017408 ≤ r) ∧ k ≤ 1100) (fun _ _ i => (1100 - intOf i).toNat)
  case atStart => exact ⟨_, r0, 0, rfl, rfl, rfl, HR, g0, g1, by show _ = _; rw [Nat.pow_zero, Nat.mul_one]; exact HN.out, .inl rfl, by omega⟩
  case round =>
    clear h1 h2 h3 h4 i2 HR HN
    obtain ⟨y, r, k, rfl, rfl, rfl, hy, r1, r2, hv, hk0, hk⟩ := hrel
    have Hk0 : Hid _ := hk0
    clear hk0
    have t1 := ge_two y r hy.out r2
    by_cases hge : 4611686018427387904 ≤ r
    · rw [decide_eq_true hge] at t1
      have hkl := halve_count r k N hge hv.out HB.out
      have q1 := fun W => run_float_arith (P := Try.prog) W .quo 80 .f64 _ _ _ ((floatBits_read hy.out rfl).trans (div_two r (by omega) r2))
      have q2 : valR double (r - 4503599627370496) * 2 ^ (k + 1) = N := by
        rw [← hv.out, half_rung r (by omega), Nat.pow_succ]
        rw [Nat.mul_comm 2, Nat.mul_assoc, Nat.mul_comm 2]
      have Q2 : Hid _ := q2
      clear q2
      go_wp2
      go_round
      case rel =>
        refine ⟨r - 4503599627370496, r - 4503599627370496, k + 1, rfl, by go_num, by go_num, by exact rfl, by omega, by omega, Q2, .inr (by omega), by omega⟩
      case measure => simp [intOf]; omega
    · rw [decide_eq_false hge] at t1
      have hkd : decide ((k : Int) < 1100) = true ∨ decide ((k : Int) < 1100) = false := by cases decide ((k : Int) < 1100) <;> simp
      rcases hkd with hkd | hkd
      all_goals
        go_wp2
        go_loop [0, 4, 6] (fun x e i => ∃ y' r' j : Nat, x = .float .f64 y' ∧ e = I (-52 + (k : Int) - (j : Int)) ∧ i = I (j : Int) ∧ Hid (double.read y' = double.read r') ∧ 0 < r' ∧ r' < 4611686018427387904 ∧ Hid (valR double r' = valR double r * 2 ^ j) ∧ (j = 0 ∨ k = 0) ∧ j ≤ 1100) (fun _ _ i => (1100 - intOf i).toNat)
        case atStart => exact ⟨y, r, 0, rfl, by go_num, rfl, hy, r1, by omega, by show _ = _; rw [Nat.pow_zero, Nat.mul_one], .inl rfl, by omega⟩
        case round =>
          clear t1 hkd
          obtain ⟨y', r', j, rfl, rfl, rfl, hy', r1', r2', hv', hj0, hj⟩ := hrel
          have t2 := lt_one y' r' hy'.out (by omega)
          by_cases hlo : r' < 4607182418800017408
          · rw [decide_eq_true hlo] at t2
            have hjl := double_count r' r j r1 hlo hv'.out
            have q1 := fun W => run_float_arith (P := Try.prog) W .mul 80 .f64 _ _ _ ((floatBits_read hy'.out rfl).trans (mul_two r' (by omega)))
            have hk00 : k = 0 := by
              rcases Hk0.out with h | h
              · exact h
              · rcases hj0 with h' | h'
                · exfalso
                  subst h'
                  have e := hv'.out
                  rw [Nat.pow_zero, Nat.mul_one] at e
                  have := valR_inj double e
                  omega
                · exact h'
            have Hk00 : Hid (k = 0) := hk00
            clear hk00 hj0
            have hd1 : 0 < dbl double r' := by unfold dbl; rw [bin64]; split <;> omega
            have hd2 : dbl double r' < 4611686018427387904 := by unfold dbl; rw [bin64]; split <;> omega
            have q2 : valR double (dbl double r') = valR double r * 2 ^ (j + 1) := by
              rw [valR_dbl, hv'.out, Nat.pow_succ, Nat.mul_comm 2, Nat.mul_assoc]
            have Q2 : Hid _ := q2
            clear q2
            go_wp2
            go_round
            case rel =>
              refine ⟨dbl double r', dbl double r', j + 1, rfl, by go_num, by go_num, by exact rfl, hd1, hd2, Q2, .inr Hk00.out, by omega⟩
            case measure => simp [intOf]; omega
          · rw [decide_eq_false hlo] at t2
            have hjd : decide ((j : Int) < 1100) = true ∨ decide ((j : Int) < 1100) = false := by cases decide ((j : Int) < 1100) <;> simp
            have t3 := ge_one y' r' hy'.out (by omega)
            rw [decide_eq_true (by omega)] at t3
            have t4 := lt_two y' r' hy'.out (by omega)
            rw [decide_eq_true r2'] at t4
            have q1 := fun W => run_float_arith (P := Try.prog) W .mul 80 .f64 _ _ _ ((floatBits_read hy'.out rfl).trans (mul_c52 r' (by omega) r2'))
            have q2 := fun W => run_convert_float_int (P := Try.prog) W 80 3 .f64 .i64 _ _ (by rw [Try.underlying80]; rfl) Try.underlying3 (toInt_c52 r' (by omega) r2')
            have hm : mant N = 4503599627370496 + r' % 4503599627370496 ∧ expo N = -52 + (k : Int) - (j : Int) := by
              have e := valR_sig r' (by omega) r2'
              rcases hj0 with h | h
              · subst h
                have e2 := hv'.out
                rw [Nat.pow_zero, Nat.mul_one] at e2
                have e3 := hv.out
                rw [← e2, e, Nat.mul_assoc, ← Nat.pow_add] at e3
                obtain ⟨m1, m2⟩ := mant_up N _ k (by omega) (by omega) e3.symm
                exact ⟨m1, by rw [m2]; omega⟩
              · subst h
                have e3 := hv.out
                rw [Nat.pow_zero, Nat.mul_one] at e3
                have e2 := hv'.out
                rw [e3, e] at e2
                obtain ⟨m1, m2⟩ := mant_down N _ j (by omega) (by omega) e2.symm
                exact ⟨m1, by rw [m2]; omega⟩
            have Hm : Hid _ := hm
            clear hm hj0
            generalize hM : 4503599627370496 + r' % 4503599627370496 = M at *
            have hM1 : M < 9007199254740992 := by omega
            have hl1 := itoa_len (M : Int) (by omega) (by omega)
            have hl2 := itoa_len (-52 + (k : Int) - (j : Int)) (by omega) (by omega)
            rw [← str_size] at hl1 hl2
            clear hM
            rcases hjd with hjd | hjd
            all_goals
              go_wp2_with fail
              refine (itoa_any _ (by omega) (by omega) _).mono ?_
              rintro e w1 ⟨rfl, b1⟩
              go_wp2_with fail
              refine (itoa_any _ (by omega) (by omega) _).mono ?_
              rintro e w2 ⟨rfl, b2⟩
              go_wp2
              go_ret
              refine ⟨?_, b1.trans (b2.mono b1.size)⟩
              obtain ⟨m1, m2⟩ := Hm.out
              rw [m1, m2]
              show Ending.returned (.string (str [45] ++ str (itoa (M : Int)) ++ str [112] ++ str (itoa (-52 + (k : Int) - (j : Int))))) = _
              rw [str_append, str_append, str_append]
              simp only [List.append_assoc, List.cons_append, List.nil_append]
set_option exponentiation.threshold 3000 in
set_option maxRecDepth 100000 in
set_option maxHeartbeats 4000000 in
theorem text_fin_false (x r0 : Nat) (hs : sgn double x = false) (hr0 : rung double x = r0) (g0 : 0 < r0) (g1 : r0 < 9218868437227405312) (w : World) : Calls Try.prog 73 #[.float .f64 x] w fun e w' => e = .returned (S (text64 x)) ∧ Below w.heap.size w w' := by
  have h1 := order_self x (by omega)
  obtain ⟨h2, h3⟩ := order_pos x (by omega) (by omega)
  rw [hs] at h3
  obtain ⟨N, hN⟩ : ∃ N, valR double r0 = N := ⟨_, rfl⟩
  have hNb : N < 2 ^ 2098 := by rw [← hN, ← valR_inf]; exact valR_lt double g1
  have e : text64 x = [43] ++ (itoa (mant N : Nat) ++ [112] ++ itoa (expo N)) := by unfold text64; rw [hr0, if_neg (by omega), if_neg (by omega), hs, hN]; simp only [Bool.false_eq_true, if_false]; rw [if_neg (by omega)]
  rw [e]
  clear e
  obtain ⟨s1, s2⟩ := own_rung r0 (by omega)
  have hrd : double.read x = double.read r0 := read_eq _ _ (by rw [hs, s1]) (by rw [hr0, s2])
  obtain ⟨A, i1, i2⟩ := num_twice _ r0 hrd g0 g1
  have h4 := fun W => run_float_arith (P := Try.prog) W .add 80 .f64 _ _ _ i1
  have HN : Hid _ := hN
  have HR : Hid _ := hrd
  have HB : Hid _ := hNb
  clear i1 hrd hN hNb s1 s2 hr0 hs
  go_enter Try.func73, Try.ntmps73
  go_wp2
  go_loop [0, 4, 5] (fun x e i => ∃ y r k : Nat, x = .float .f64 y ∧ e = I (-52 + (k : Int)) ∧ i = I (k : Int) ∧ Hid (double.read y = double.read r) ∧ 0 < r ∧ r < 9218868437227405312 ∧ Hid (valR double r * 2 ^ k = N) ∧ (k = 0 ∨ 4607182418800017408 ≤ r) ∧ k ≤ 1100) (fun _ _ i => (1100 - intOf i).toNat)
  case atStart => exact ⟨_, r0, 0, rfl, rfl, rfl, HR, g0, g1, by show _ = _; rw [Nat.pow_zero, Nat.mul_one]; exact HN.out, .inl rfl, by omega⟩
  case round =>
    clear h1 h2 h3 h4 i2 HR HN
    obtain ⟨y, r, k, rfl, rfl, rfl, hy, r1, r2, hv, hk0, hk⟩ := hrel
    have Hk0 : Hid _ := hk0
    clear hk0
    have t1 := ge_two y r hy.out r2
    by_cases hge : 4611686018427387904 ≤ r
    · rw [decide_eq_true hge] at t1
      have hkl := halve_count r k N hge hv.out HB.out
      have q1 := fun W => run_float_arith (P := Try.prog) W .quo 80 .f64 _ _ _ ((floatBits_read hy.out rfl).trans (div_two r (by omega) r2))
      have q2 : valR double (r - 4503599627370496) * 2 ^ (k + 1) = N := by
        rw [← hv.out, half_rung r (by omega), Nat.pow_succ]
        rw [Nat.mul_comm 2, Nat.mul_assoc, Nat.mul_comm 2]
      have Q2 : Hid _ := q2
      clear q2
      go_wp2
      go_round
      case rel =>
        refine ⟨r - 4503599627370496, r - 4503599627370496, k + 1, rfl, by go_num, by go_num, by exact rfl, by omega, by omega, Q2, .inr (by omega), by omega⟩
      case measure => simp [intOf]; omega
    · rw [decide_eq_false hge] at t1
      have hkd : decide ((k : Int) < 1100) = true ∨ decide ((k : Int) < 1100) = false := by cases decide ((k : Int) < 1100) <;> simp
      rcases hkd with hkd | hkd
      all_goals
        go_wp2
        go_loop [0, 4, 6] (fun x e i => ∃ y' r' j : Nat, x = .float .f64 y' ∧ e = I (-52 + (k : Int) - (j : Int)) ∧ i = I (j : Int) ∧ Hid (double.read y' = double.read r') ∧ 0 < r' ∧ r' < 4611686018427387904 ∧ Hid (valR double r' = valR double r * 2 ^ j) ∧ (j = 0 ∨ k = 0) ∧ j ≤ 1100) (fun _ _ i => (1100 - intOf i).toNat)
        case atStart => exact ⟨y, r, 0, rfl, by go_num, rfl, hy, r1, by omega, by show _ = _; rw [Nat.pow_zero, Nat.mul_one], .inl rfl, by omega⟩
        case round =>
          clear t1 hkd
          obtain ⟨y', r', j, rfl, rfl, rfl, hy', r1', r2', hv', hj0, hj⟩ := hrel
          have t2 := lt_one y' r' hy'.out (by omega)
          by_cases hlo : r' < 4607182418800017408
          · rw [decide_eq_true hlo] at t2
            have hjl := double_count r' r j r1 hlo hv'.out
            have q1 := fun W => run_float_arith (P := Try.prog) W .mul 80 .f64 _ _ _ ((floatBits_read hy'.out rfl).trans (mul_two r' (by omega)))
            have hk00 : k = 0 := by
              rcases Hk0.out with h | h
              · exact h
              · rcases hj0 with h' | h'
                · exfalso
                  subst h'
                  have e := hv'.out
                  rw [Nat.pow_zero, Nat.mul_one] at e
                  have := valR_inj double e
                  omega
                · exact h'
            have Hk00 : Hid (k = 0) := hk00
            clear hk00 hj0
            have hd1 : 0 < dbl double r' := by unfold dbl; rw [bin64]; split <;> omega
            have hd2 : dbl double r' < 4611686018427387904 := by unfold dbl; rw [bin64]; split <;> omega
            have q2 : valR double (dbl double r') = valR double r * 2 ^ (j + 1) := by
              rw [valR_dbl, hv'.out, Nat.pow_succ, Nat.mul_comm 2, Nat.mul_assoc]
            have Q2 : Hid _ := q2
            clear q2
            go_wp2
            go_round
            case rel =>
              refine ⟨dbl double r', dbl double r', j + 1, rfl, by go_num, by go_num, by exact rfl, hd1, hd2, Q2, .inr Hk00.out, by omega⟩
            case measure => simp [intOf]; omega
          · rw [decide_eq_false hlo] at t2
            have hjd : decide ((j : Int) < 1100) = true ∨ decide ((j : Int) < 1100) = false := by cases decide ((j : Int) < 1100) <;> simp
            have t3 := ge_one y' r' hy'.out (by omega)
            rw [decide_eq_true (by omega)] at t3
            have t4 := lt_two y' r' hy'.out (by omega)
            rw [decide_eq_true r2'] at t4
            have q1 := fun W => run_float_arith (P := Try.prog) W .mul 80 .f64 _ _ _ ((floatBits_read hy'.out rfl).trans (mul_c52 r' (by omega) r2'))
            have q2 := fun W => run_convert_float_int (P := Try.prog) W 80 3 .f64 .i64 _ _ (by rw [Try.underlying80]; rfl) Try.underlying3 (toInt_c52 r' (by omega) r2')
            have hm : mant N = 4503599627370496 + r' % 4503599627370496 ∧ expo N = -52 + (k : Int) - (j : Int) := by
              have e := valR_sig r' (by omega) r2'
              rcases hj0 with h | h
              · subst h
                have e2 := hv'.out
                rw [Nat.pow_zero, Nat.mul_one] at e2
                have e3 := hv.out
                rw [← e2, e, Nat.mul_assoc, ← Nat.pow_add] at e3
                obtain ⟨m1, m2⟩ := mant_up N _ k (by omega) (by omega) e3.symm
                exact ⟨m1, by rw [m2]; omega⟩
              · subst h
                have e3 := hv.out
                rw [Nat.pow_zero, Nat.mul_one] at e3
                have e2 := hv'.out
                rw [e3, e] at e2
                obtain ⟨m1, m2⟩ := mant_down N _ j (by omega) (by omega) e2.symm
                exact ⟨m1, by rw [m2]; omega⟩
            have Hm : Hid _ := hm
            clear hm hj0
            generalize hM : 4503599627370496 + r' % 4503599627370496 = M at *
            have hM1 : M < 9007199254740992 := by omega
            have hl1 := itoa_len (M : Int) (by omega) (by omega)
            have hl2 := itoa_len (-52 + (k : Int) - (j : Int)) (by omega) (by omega)
            rw [← str_size] at hl1 hl2
            clear hM
            rcases hjd with hjd | hjd
            all_goals
              go_wp2_with fail
              refine (itoa_any _ (by omega) (by omega) _).mono ?_
              rintro e w1 ⟨rfl, b1⟩
              go_wp2_with fail
              refine (itoa_any _ (by omega) (by omega) _).mono ?_
              rintro e w2 ⟨rfl, b2⟩
              go_wp2
              go_ret
              refine ⟨?_, b1.trans (b2.mono b1.size)⟩
              obtain ⟨m1, m2⟩ := Hm.out
              rw [m1, m2]
              show Ending.returned (.string (str [43] ++ str (itoa (M : Int)) ++ str [112] ++ str (itoa (-52 + (k : Int) - (j : Int))))) = _
              rw [str_append, str_append, str_append]
              simp only [List.append_assoc, List.cons_append, List.nil_append]

/-- Text64: the canonical text. -/
theorem text_any (x : Nat) (w : World) : Calls Try.prog 73 #[.float .f64 x] w fun e w' => e = .returned (S (text64 x)) ∧ Below w.heap.size w w' := by
  rcases Nat.lt_or_ge 9218868437227405312 (rung double x) with h | h
  · exact text_nan x h w
  · rcases Nat.eq_zero_or_pos (rung double x) with h0 | h0
    · exact text_zero x h0 w
    · rcases Nat.lt_or_ge (rung double x) 9218868437227405312 with h1 | h1
      · cases hs : sgn double x
        · exact text_fin_false x _ hs rfl h0 h1 w
        · exact text_fin_true x _ hs rfl h0 h1 w
      · cases hs : sgn double x
        · exact text_inf_false x hs (by omega) w
        · exact text_inf_true x hs (by omega) w
end Go.Proofs.Qxb6500472a
