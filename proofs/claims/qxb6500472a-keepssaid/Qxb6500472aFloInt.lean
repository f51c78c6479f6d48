import Derived.Test.Qxb6500472aFloText2
namespace Go.Proofs.Qxb6500472a
open Ieee (Format Datum double single Toward)

theorem cut_zero (neg : Bool) (n drop : Nat) : Toward.zero.cut neg n drop = n / 2 ^ drop := by
  unfold Toward.cut
  simp only [Bool.toNat, cond_false, Nat.add_zero]
  rw [shl_eq, Nat.one_mul]
  rcases Nat.le_total drop (n.log2 + 2) with h | h
  · rw [Nat.min_eq_left h]
  · rw [Nat.min_eq_right h]
    have h1 : n < 2 ^ (n.log2 + 2) := by
      have h8 := @Nat.lt_log2_self n
      have h9 : 2 ^ (n.log2 + 1) ≤ 2 ^ (n.log2 + 2) := Nat.pow_le_pow_right (by decide) (by omega)
      omega
    have h2 : 2 ^ (n.log2 + 2) ≤ 2 ^ drop := Nat.pow_le_pow_right (by decide) h
    rw [Nat.div_eq_of_lt h1, Nat.div_eq_of_lt (by omega)]

set_option exponentiation.threshold 3000 in
/-- A finite float64, cut towards zero: its units over 2^1074. -/
theorem toInt_fin (x : Nat) (h : fin double x) : (double.read x).toInt .zero = some (if sgn double x then -((valR double (rung double x) / 2 ^ 1074 : Nat) : Int) else ((valR double (rung double x) / 2 ^ 1074 : Nat) : Int)) := by
  obtain ⟨m, e, hr, he, hv⟩ := read_fin double x h
  rw [least64] at he hv
  rw [hr]
  simp only [Datum.toInt, Datum.integral]
  rw [cut_zero, shl_eq]
  have hq : m * 2 ^ e.toNat / 2 ^ (-e).toNat = valR double (rung double x) / 2 ^ 1074 := by
    rw [← hv]
    rcases Int.le_total 0 e with hp | hp
    · have e1 : (-e).toNat = 0 := by omega
      have e2 : (e - -1074).toNat = e.toNat + 1074 := by omega
      rw [e1, e2, Nat.pow_zero, Nat.div_one, Nat.pow_add, ← Nat.mul_assoc, Nat.mul_div_cancel _ (pow_pos' _)]
    · have e1 : e.toNat = 0 := by omega
      have e2 : 1074 = (e - -1074).toNat + (-e).toNat := by omega
      rw [e1, Nat.pow_zero, Nat.mul_one]
      have e3 : (2 : Nat) ^ 1074 = 2 ^ (e - -1074).toNat * 2 ^ (-e).toNat := by rw [← Nat.pow_add, ← e2]
      rw [e3, Nat.mul_comm m, Nat.mul_div_mul_left _ _ (pow_pos' _)]
  rw [hq]
  unfold Ieee.signed
  rw [shl_eq, Nat.pow_zero, Nat.mul_one]

set_option exponentiation.threshold 3000 in
theorem trunc_le (N K : Nat) (h : N ≤ 2 ^ (K + 1074)) : N / 2 ^ 1074 ≤ 2 ^ K := by
  rw [Nat.pow_add] at h
  exact Nat.div_le_of_le_mul (by rw [Nat.mul_comm]; exact h)

theorem val_m53 : val double 14069245235905429504 = -(2 ^ 1127) ∧ val double 4845873199050653696 = 2 ^ 1127 := by decide +kernel
theorem fin_m53 : fin double 14069245235905429504 ∧ fin double 4845873199050653696 := by unfold fin; decide +kernel
theorem read_m53 : (∃ m e, double.read 14069245235905429504 = .number true m e) ∧ (∃ m e, double.read 4845873199050653696 = .number false m e) := ⟨⟨4503599627370496, 1, by decide +kernel⟩, ⟨4503599627370496, 1, by decide +kernel⟩⟩
/-- 'x >= -2^53 && x <= 2^53' -/
def in53 (x : Nat) : Bool := (FloatKind.f64.format.order x 14069245235905429504 == some .gt || FloatKind.f64.format.order x 14069245235905429504 == some .eq) && (FloatKind.f64.format.order x 4845873199050653696 == some .lt || FloatKind.f64.format.order x 4845873199050653696 == some .eq)
set_option exponentiation.threshold 3000 in
theorem in53_fin (x : Nat) (h : in53 x = true) : fin double x ∧ valR double (rung double x) ≤ 2 ^ 1127 := by
  unfold in53 at h
  have h' : (double.order x 14069245235905429504 == some .gt || double.order x 14069245235905429504 == some .eq) = true ∧ (double.order x 4845873199050653696 == some .lt || double.order x 4845873199050653696 == some .eq) = true := by
    rw [Bool.and_eq_true] at h; exact h
  have hf : fin double x := by
    rcases Nat.lt_or_ge (rung double x) double.infRung with h1 | h1
    · exact h1
    · exfalso
      obtain ⟨⟨m1, e1, r1⟩, ⟨m2, e2, r2⟩⟩ := read_m53
      unfold Format.order at h'
      rw [r1, r2] at h'
      rcases Nat.lt_or_ge double.infRung (rung double x) with h2 | h2
      · obtain ⟨t, e⟩ := read_nan double x h2 le_inf64
        rw [e] at h'
        simp [Datum.order] at h'
      · have e := read_inf double x (by omega) le_inf64
        generalize sgn double x = s at e
        rw [e] at h'
        cases s <;> simp [Datum.order] at h'
  refine ⟨hf, ?_⟩
  rw [order_fin double x _ hf fin_m53.1, order_fin double x _ hf fin_m53.2, val_m53.1, val_m53.2] at h'
  obtain ⟨h1, h2⟩ := h'
  have l1 : -(2 ^ 1127) ≤ val double x := by
    rcases Int.lt_or_le (val double x) (-(2 ^ 1127)) with hlt | hle
    · rw [Int.compare_eq_lt.2 hlt] at h1; simp at h1
    · exact hle
  have l2 : val double x ≤ 2 ^ 1127 := by
    rcases Int.lt_or_le (2 ^ 1127) (val double x) with hlt | hle
    · rw [Int.compare_eq_gt.2 hlt] at h2; simp at h2
    · exact hle
  unfold val at l1 l2
  have cst : ((2 ^ 1127 : Nat) : Int) = 2 ^ 1127 := by exact Int.natCast_pow 2 1127
  rw [← cst] at l1 l2
  generalize (2 ^ 1127 : Nat) = G at *
  split at l1
  · rename_i hs; rw [if_pos hs] at l2; omega
  · rename_i hs; rw [if_neg hs] at l2; omega
set_option exponentiation.threshold 3000 in
theorem int53_some (x : Nat) (h : in53 x = true) : ∃ k, floatToIntVal .f64 x .i64 = some k ∧ -9007199254740992 ≤ k ∧ k ≤ 9007199254740992 := by
  obtain ⟨hf, hN⟩ := in53_fin x h
  have ht := toInt_fin x hf
  have hb := trunc_le (valR double (rung double x)) 53 hN
  have p53 : (2 : Nat) ^ 53 = 9007199254740992 := by decide
  rw [p53] at hb
  generalize valR double (rung double x) / 2 ^ 1074 = q at *
  have hd : FloatKind.f64.decode x = double.read x := rfl
  unfold floatToIntVal
  rw [hd, ht]
  refine ⟨if sgn double x then -(q : Int) else (q : Int), ?_, ?_, ?_⟩
  · simp only
    rw [if_pos]
    constructor
    · show (-9223372036854775808 : Int) ≤ _; split <;> omega
    · show _ ≤ (9223372036854775807 : Int); split <;> omega
  · split <;> omega
  · split <;> omega
theorem in53_can (x : Nat) : in53 (can .f64 x) = in53 x := by
  unfold in53
  have c1 : can .f64 14069245235905429504 = 14069245235905429504 := by decide +kernel
  have c2 : can .f64 4845873199050653696 = 4845873199050653696 := by decide +kernel
  have e1 := order_can .f64 x 14069245235905429504
  have e2 := order_can .f64 x 4845873199050653696
  rw [c1] at e1
  rw [c2] at e2
  rw [e1, e2]
theorem text_can (x : Nat) : text64 (can .f64 x) = text64 x := by
  cases h : isNan .f64 x with
  | false => rw [can_num h]
  | true =>
    have key : ∀ y, isNan .f64 y = true → text64 y = [78, 97, 78] := by
      intro y hy
      have : 9218868437227405312 < rung double y := by
        rcases Nat.lt_or_ge 9218868437227405312 (rung double y) with h1 | h1
        · exact h1
        · exfalso
          have hy' : (double.read y).isNaN = true := hy
          rcases Nat.lt_or_ge (rung double y) 9218868437227405312 with h2 | h2
          · obtain ⟨m, e, hr, _⟩ := read_fin double y h2
            rw [hr] at hy'; cases hy'
          · rw [read_inf double y (by rw [inf64]; omega) le_inf64] at hy'; cases hy'
      unfold text64; rw [if_pos this]
    rw [key x h, key _ ((isNan_can .f64 x).trans h)]
theorem text_len (x : Nat) : (text64 x).length ≤ 50 := by
  unfold text64
  split
  · decide
  · split
    · split <;> decide
    · rename_i h1 h2
      rw [List.length_append]
      have a : (if sgn double x then [45] else [43] : List UInt8).length = 1 := by split <;> rfl
      rw [a]
      split
      · decide
      · rename_i h3
        have hN : valR double (rung double x) ≠ 0 := Nat.ne_of_gt (valR_pos _ (by omega))
        have hlt : valR double (rung double x) < 2 ^ 2098 := by rw [← valR_inf]; exact valR_lt double (by omega)
        generalize valR double (rung double x) = N at *
        have hL : N.log2 < 2098 := (Nat.log2_lt hN).2 hlt
        have hm : mant N < 2 ^ 53 := by
          unfold mant
          have h8 := @Nat.lt_log2_self N
          split
          · rename_i hc
            refine Nat.div_lt_of_lt_mul ?_
            rw [← Nat.pow_add, show N.log2 - 52 + 53 = N.log2 + 1 from by omega]; exact h8
          · rename_i hc
            have e : (2 : Nat) ^ 53 = 2 ^ (N.log2 + 1) * 2 ^ (52 - N.log2) := by rw [← Nat.pow_add]; congr 1; omega
            rw [e]; exact Nat.mul_lt_mul_of_pos_right h8 (pow_pos' _)
        have p53 : (2 : Nat) ^ 53 = 9007199254740992 := by decide
        have l1 := itoa_len (mant N : Int) (by omega) (by omega)
        have l2 := itoa_len (expo N) (by unfold expo; omega) (by unfold expo; omega)
        simp only [List.length_append, List.length_cons, List.length_nil]
        omega
end Go.Proofs.Qxb6500472a
