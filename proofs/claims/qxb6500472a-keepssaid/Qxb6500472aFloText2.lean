import Derived.Test.Qxb6500472aFloText
namespace Go.Proofs.Qxb6500472a
open Ieee (Format Datum double single Toward)

theorem valR_pos (r : Nat) (h : 0 < r) : 0 < valR double r := by
  have := valR_lt double h
  omega
theorem valR_one : valR double 4607182418800017408 = 2 ^ 1074 := by decide +kernel
theorem valR_two : valR double 4611686018427387904 = 2 ^ 1075 := by decide +kernel
theorem valR_inf : valR double 9218868437227405312 = 2 ^ 2098 := by decide +kernel
theorem valR_le {r s : Nat} (h : r ≤ s) : valR double r ≤ valR double s := by
  rcases Nat.lt_or_ge r s with h1 | h1
  · exact Nat.le_of_lt (valR_lt double h1)
  · have : r = s := by omega
    subst this; exact Nat.le_refl _
theorem valR_lt_iff {r s : Nat} : valR double r < valR double s ↔ r < s := by
  constructor
  · intro h
    rcases Nat.lt_or_ge r s with h1 | h1
    · exact h1
    · have := valR_le h1; omega
  · exact fun h => valR_lt double h

/-- Between 1 and 2: the significand. -/
theorem valR_sig (r : Nat) (h1 : 4607182418800017408 ≤ r) (h2 : r < 4611686018427387904) : valR double r = (4503599627370496 + r % 4503599627370496) * 2 ^ 1022 := by
  unfold valR
  rw [bin64, if_neg (by omega)]
  have e : r / 4503599627370496 - 1 = 1022 := by omega
  rw [e]

theorem read_int (y m : Nat) (h1 : y % 9223372036854775808 = y) (h2 : y / 9223372036854775808 = 0) (h3 : ¬ y < 4503599627370496) (h4 : y < 9218868437227405312) (h5 : 4503599627370496 + y % 4503599627370496 = m) (h6 : y / 4503599627370496 = 1075) : double.read y = .number false m 0 := by
  unfold Format.read
  simp only
  have e2 : (y / double.signWeight % 2 == 1) = false := by rw [sgw64, h2]; rfl
  rw [e2, bin64, inf64, least64, sgw64, h1, if_neg h3, if_pos h4, h5, h6]
  rfl
theorem toInt_whole (m : Nat) (hm1 : m < 9007199254740992) : (match (Datum.number false m 0).toInt .zero with | some n => if IntKind.i64.min ≤ n ∧ n ≤ IntKind.i64.max then some n else none | none => none) = some (m : Int) := by
  have hc : Toward.zero.cut false (m <<< (0 : Int).toNat) (-(0 : Int)).toNat = m := cut_exact _ _ _ _ _ (by simp)
  simp only [Datum.toInt, Datum.integral, hc]
  have hs : Ieee.signed false m 0 = (m : Int) := by simp [Ieee.signed]
  rw [hs, if_pos]
  constructor
  · show (-9223372036854775808 : Int) ≤ _; omega
  · show _ ≤ (9223372036854775807 : Int); omega
/-- 'int(x * 2^52)' of a number between 1 and 2. -/
theorem toInt_c52 (r : Nat) (h1 : 4607182418800017408 ≤ r) (h2 : r < 4611686018427387904) : floatToIntVal .f64 (r + 52 * 4503599627370496) .i64 = some ((4503599627370496 + r % 4503599627370496 : Nat) : Int) := by
  obtain ⟨y, hy⟩ : ∃ y, r + 52 * 4503599627370496 = y := ⟨_, rfl⟩
  obtain ⟨m, hm⟩ : ∃ m, 4503599627370496 + r % 4503599627370496 = m := ⟨_, rfl⟩
  rw [hy, hm]
  have hr := read_int y m (by omega) (by omega) (by omega) (by omega) (by omega) (by omega)
  have hd : FloatKind.f64.decode y = .number false m 0 := hr
  unfold floatToIntVal
  rw [hd]
  exact toInt_whole m (by omega)

/-- A number, doubled: 'x + x'. -/
theorem add_self (r : Nat) (h : r < 9218868437227405312) : floatBits .add .f64 r r = some (min (dbl double r) 9218868437227405312) := by
  obtain ⟨m, e, hr, he, hv, _⟩ := read_rung r h
  have hq : (double.read r).sum (double.read r) = some (.number false (2 * m) e) := by
    rw [hr]
    simp only [Datum.sum]
    have e1 : min e e = e := by omega
    have e2 : (e - min e e).toNat = 0 := by omega
    rw [e2, e1]
    have e3 : Ieee.signed false m 0 = (m : Int) := by simp [Ieee.signed]
    rw [e3]
    have e4 : ((m : Int) + m).natAbs = 2 * m := by omega
    rw [e4]
    have e5 : (if (m : Int) + m = 0 then false && false else decide ((m : Int) + m < 0)) = false := by
      split
      · rfl
      · simp; omega
    rw [e5]
  have hw : floatBits .add .f64 r r = ((double.read r).sum (double.read r)).map double.write := rfl
  rw [hw, hq, Option.map_some, write_number]
  rw [nearest_units double false (2 * m) e (dbl double r) (e + 1074).toNat 0 (by rw [least64]; omega) (by rw [valR_dbl, ← hv, Nat.pow_zero, Nat.mul_one, Nat.mul_assoc])]
  rw [inf64, word_pos]

/-! ### the text -/
/-- The digits in front of the point: m * 2^e with 2^52 ≤ m < 2^53. -/
def mant (N : Nat) : Nat := if 52 ≤ N.log2 then N / 2 ^ (N.log2 - 52) else N * 2 ^ (52 - N.log2)
def expo (N : Nat) : Int := (N.log2 : Int) - 52 - 1074
theorem log2_mul (m k : Nat) (h : m ≠ 0) : (m * 2 ^ k).log2 = m.log2 + k := by
  rw [Nat.log2_eq_iff (Nat.ne_of_gt (Nat.mul_pos (Nat.pos_of_ne_zero h) (pow_pos' _)))]
  have h1 := Nat.log2_self_le h
  have h2 := @Nat.lt_log2_self m
  constructor
  · rw [Nat.pow_add]; exact Nat.mul_le_mul_right _ h1
  · rw [show m.log2 + k + 1 = (m.log2 + 1) + k from by omega, Nat.pow_add]
    exact Nat.mul_lt_mul_of_pos_right h2 (pow_pos' _)
theorem mant_up (N m k : Nat) (h1 : 4503599627370496 ≤ m) (h2 : m < 9007199254740992) (h : N = m * 2 ^ (1022 + k)) : mant N = m ∧ expo N = (k : Int) - 52 := by
  have hl : m.log2 = 52 := by rw [Nat.log2_eq_iff (by omega)]; constructor <;> omega
  have hN : N.log2 = 1074 + k := by rw [h, log2_mul m _ (by omega), hl]; omega
  unfold mant expo
  rw [hN]
  constructor
  · rw [if_pos (by omega), h, show 1074 + k - 52 = 1022 + k from by omega]
    exact Nat.mul_div_cancel _ (pow_pos' _)
  · omega
set_option exponentiation.threshold 3000 in
theorem mant_down (N m k : Nat) (h1 : 4503599627370496 ≤ m) (h2 : m < 9007199254740992) (h : N * 2 ^ k = m * 2 ^ 1022) : mant N = m ∧ expo N = -52 - (k : Int) := by
  have hl : m.log2 = 52 := by rw [Nat.log2_eq_iff (by omega)]; constructor <;> omega
  have hN0 : N ≠ 0 := by
    intro e
    rw [e, Nat.zero_mul] at h
    exact absurd h (Nat.ne_of_lt (Nat.mul_pos (show 0 < m by omega) (pow_pos' 1022)))
  have hN : N.log2 + k = 1074 := by
    have h3 := congrArg Nat.log2 h
    rw [log2_mul N _ hN0, log2_mul m _ (by omega), hl] at h3
    exact h3
  unfold mant expo
  constructor
  · by_cases hk : 52 ≤ N.log2
    · rw [if_pos hk]
      have e : N = m * 2 ^ (N.log2 - 52) := by
        have e1 : (2 : Nat) ^ 1022 = 2 ^ (N.log2 - 52) * 2 ^ k := by rw [← Nat.pow_add, show N.log2 - 52 + k = 1022 from by omega]
        rw [e1, ← Nat.mul_assoc] at h
        exact Nat.eq_of_mul_eq_mul_right (pow_pos' k) h
      have e2 : N / 2 ^ (N.log2 - 52) = m * 2 ^ (N.log2 - 52) / 2 ^ (N.log2 - 52) := congrArg (fun z => z / 2 ^ (N.log2 - 52)) e
      rw [e2]
      exact Nat.mul_div_cancel _ (pow_pos' _)
    · rw [if_neg hk]
      have e1 : (2 : Nat) ^ k = 2 ^ (52 - N.log2) * 2 ^ 1022 := by rw [← Nat.pow_add, show 52 - N.log2 + 1022 = k from by omega]
      rw [e1, ← Nat.mul_assoc] at h
      exact Nat.eq_of_mul_eq_mul_right (pow_pos' 1022) h
  · omega

/-- The canonical text of a float64. -/
def text64 (x : Nat) : List UInt8 :=
  if 9218868437227405312 < rung double x then [78, 97, 78]
  else if rung double x = 0 then (if sgn double x then [45, 48] else [43, 48])
  else (if sgn double x then [45] else [43]) ++
    (if rung double x = 9218868437227405312 then [73, 110, 102]
     else itoa (mant (valR double (rung double x)) : Nat) ++ [112] ++ itoa (expo (valR double (rung double x))))

theorem neg_parts (x : Nat) : sgn double (Op.negFloat .f64 x) = !(sgn double x) ∧ rung double (Op.negFloat .f64 x) = rung double x := by
  have e : Op.negFloat .f64 x = x ^^^ 9223372036854775808 := rfl
  rw [e]
  have hx : x = 9223372036854775808 * (x / 9223372036854775808) + x % 9223372036854775808 := (Nat.div_add_mod x _).symm
  have hb : (9223372036854775808 : Nat) = 2 ^ 63 := rfl
  constructor
  · unfold sgn
    rw [sgw64]
    have h1 : (x ^^^ 9223372036854775808) / 9223372036854775808 = (x / 9223372036854775808) ^^^ 1 := by
      rw [hb, Nat.xor_div_two_pow]
    rw [h1]
    have h2 : (x / 9223372036854775808 ^^^ 1) % 2 = (x / 9223372036854775808 % 2) ^^^ 1 := by
      rw [show (2 : Nat) = 2 ^ 1 from rfl, Nat.xor_mod_two_pow]
    rw [h2]
    rcases Nat.mod_two_eq_zero_or_one (x / 9223372036854775808) with h | h <;> rw [h] <;> rfl
  · unfold rung
    rw [sgw64, hb, Nat.xor_mod_two_pow]
    simp
end Go.Proofs.Qxb6500472a
