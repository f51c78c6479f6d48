import Derived.Test.Qxb6500472aFloK2
import Derived.Test.Qxb6500472aSer1
namespace Go.Proofs.Qxb6500472a
open Go.RowKit
open Ieee (Format Datum double single Toward)

/-! ### whole numbers go through exactly -/
set_option exponentiation.threshold 3000 in
theorem whole_rung (N : Nat) (h : N ≤ 9007199254740992) : ∃ r, r < 9218868437227405312 ∧ valR double r = N * 2 ^ 1074 ∧ (0 < N → 4503599627370496 ≤ r) := by
  by_cases h0 : N = 0
  · subst h0; exact ⟨0, by omega, by rw [valR_zero, Nat.zero_mul], by omega⟩
  by_cases h1 : N = 9007199254740992
  · subst h1; exact ⟨1076 * 4503599627370496, by omega, by decide +kernel, by omega⟩
  have hL : N.log2 ≤ 52 := by
    have e53 : (2 : Nat) ^ 53 = 9007199254740992 := rfl
    have := (Nat.log2_lt (n := N) (k := 53) h0).2 (by omega)
    omega
  obtain ⟨L, hLL⟩ : ∃ L, N.log2 = L := ⟨_, rfl⟩
  rw [hLL] at hL
  have lo : 2 ^ L ≤ N := by rw [← hLL]; exact Nat.log2_self_le h0
  have hi : N < 2 ^ (L + 1) := by rw [← hLL]; exact Nat.lt_log2_self
  have e52 : (2 : Nat) ^ 52 = 4503599627370496 := rfl
  have m1 : 4503599627370496 ≤ N * 2 ^ (52 - L) := by
    have := Nat.mul_le_mul_right (2 ^ (52 - L)) lo
    rw [← Nat.pow_add, show L + (52 - L) = 52 from by omega, e52] at this
    exact this
  have m2 : N * 2 ^ (52 - L) < 9007199254740992 := by
    have := Nat.mul_lt_mul_of_pos_right hi (pow_pos' (52 - L))
    rw [← Nat.pow_add, show L + 1 + (52 - L) = 53 from by omega] at this
    exact this
  obtain ⟨m, hm⟩ : ∃ m, N * 2 ^ (52 - L) = m := ⟨_, rfl⟩
  rw [hm] at m1 m2
  refine ⟨(L + 1023) * 4503599627370496 + (m - 4503599627370496), by omega, ?_, by omega⟩
  have d1 : ((L + 1023) * 4503599627370496 + (m - 4503599627370496)) / 4503599627370496 = L + 1023 := by omega
  have d2 : ((L + 1023) * 4503599627370496 + (m - 4503599627370496)) % 4503599627370496 = m - 4503599627370496 := by omega
  unfold valR
  rw [bin64, if_neg (by omega), d1, d2, show 4503599627370496 + (m - 4503599627370496) = m from by omega, ← hm, Nat.mul_assoc, ← Nat.pow_add, show 52 - L + (L + 1023 - 1) = 1074 from by omega]
theorem int_word (n : Int) (h1 : -9007199254740992 ≤ n) (h2 : n ≤ 9007199254740992) : ∃ r, r < 9218868437227405312 ∧ valR double r = n.natAbs * 2 ^ 1074 ∧ (n ≠ 0 → 4503599627370496 ≤ r) ∧ int64 n = double.word (decide (n < 0)) r := by
  obtain ⟨r, h, hv, hp⟩ := whole_rung n.natAbs (by omega)
  refine ⟨r, h, hv, fun hn => hp (by omega), ?_⟩
  show double.write (.number (decide (n < 0)) n.natAbs 0) = _
  rw [write_number]
  refine nearest_exact double _ _ 0 r (by rw [inf64]; omega) ?_
  rw [least64, hv, show ((0 : Int) - -1074).toNat = 1074 from rfl, show ((-1074 : Int) - 0).toNat = 0 from rfl, Nat.pow_zero, Nat.mul_one]
theorem int_parts (n : Int) (h1 : -9007199254740992 ≤ n) (h2 : n ≤ 9007199254740992) : sgn double (int64 n) = decide (n < 0) ∧ rung double (int64 n) < 9218868437227405312 ∧ valR double (rung double (int64 n)) = n.natAbs * 2 ^ 1074 ∧ (n ≠ 0 → 4503599627370496 ≤ rung double (int64 n)) ∧ int64 n = double.word (decide (n < 0)) (rung double (int64 n)) := by
  obtain ⟨r, h, hv, hp, e⟩ := int_word n h1 h2
  obtain ⟨w1, w2⟩ := word64 (decide (n < 0)) r (by omega)
  rw [← e] at w1 w2
  rw [w2]
  exact ⟨w1, h, hv, hp, e⟩
theorem int_val (n : Int) (h1 : -9007199254740992 ≤ n) (h2 : n ≤ 9007199254740992) : fin double (int64 n) ∧ val double (int64 n) = n * 2 ^ 1074 := by
  obtain ⟨a, b, c, -, -⟩ := int_parts n h1 h2
  refine ⟨by unfold fin; rw [inf64]; exact b, ?_⟩
  unfold val
  rw [a, c]
  by_cases hn : n < 0
  · rw [if_pos (by simpa using hn)]
    have : ((n.natAbs : Nat) : Int) = -n := by omega
    rw [Int.natCast_mul, this, Int.neg_mul, Int.neg_neg]
    norm_cast
  · rw [if_neg (by simpa using hn)]
    have : ((n.natAbs : Nat) : Int) = n := by omega
    rw [Int.natCast_mul, this]
    norm_cast
theorem scale_lt (a : Int) (k : Nat) : a * 2 ^ k < 0 ↔ a < 0 := by
  have hp : (0 : Int) < 2 ^ k := Int.pow_pos (by decide)
  constructor
  · intro h
    rcases Int.lt_or_le a 0 with h1 | h1
    · exact h1
    · have := Int.mul_nonneg h1 (Int.le_of_lt hp); omega
  · intro h
    have := Int.mul_neg_of_neg_of_pos h hp
    exact this
theorem scale_zero (a : Int) (k : Nat) : a * 2 ^ k = 0 ↔ a = 0 := by
  have hp : (2 : Int) ^ k ≠ 0 := Int.ne_of_gt (Int.pow_pos (by decide))
  rw [Int.mul_eq_zero]
  exact ⟨fun h => h.resolve_right hp, Or.inl⟩
theorem add_ints (a b : Int) (ha1 : -9007199254740992 ≤ a) (ha2 : a ≤ 9007199254740992) (hb1 : -9007199254740992 ≤ b) (hb2 : b ≤ 9007199254740992) (hs1 : -9007199254740992 ≤ a + b) (hs2 : a + b ≤ 9007199254740992) :
    add64 (int64 a) (int64 b) = int64 (a + b) := by
  obtain ⟨f1, v1⟩ := int_val a ha1 ha2
  obtain ⟨f2, v2⟩ := int_val b hb1 hb2
  obtain ⟨p1, -, -, -, -⟩ := int_parts a ha1 ha2
  obtain ⟨p2, -, -, -, -⟩ := int_parts b hb1 hb2
  obtain ⟨r, hr, hv, -, hw⟩ := int_word (a + b) hs1 hs2
  obtain ⟨m, i, ex, hi, vx⟩ := read_fin double (int64 a) f1
  obtain ⟨n, j, ey, hj, vy⟩ := read_fin double (int64 b) f2
  have hbs : double.leastPlace ≤ min i j := by omega
  have u1 := signed_units (s := sgn double (int64 a)) (m := m) (e := i) (base := min i j) (least := double.leastPlace) (by omega) hbs
  have u2 := signed_units (s := sgn double (int64 b)) (m := n) (e := j) (base := min i j) (least := double.leastPlace) (by omega) hbs
  rw [vx] at u1
  rw [vy] at u2
  have w1 : (if sgn double (int64 a) = true then -(valR double (rung double (int64 a)) : Int) else (valR double (rung double (int64 a)) : Int)) = a * 2 ^ 1074 := v1
  have w2 : (if sgn double (int64 b) = true then -(valR double (rung double (int64 b)) : Int) else (valR double (rung double (int64 b)) : Int)) = b * 2 ^ 1074 := v2
  rw [w1] at u1
  rw [w2] at u2
  have hq : floatBits .add .f64 (int64 a) (int64 b) = ((double.read (int64 a)).sum (double.read (int64 b))).map double.write := rfl
  show (floatBits .add .f64 (int64 a) (int64 b)).getD _ = _
  rw [hq, ex, ey, p1, p2]
  rw [p1] at u1
  rw [p2] at u2
  simp only [Datum.sum, Option.map_some, Option.getD_some]
  generalize Ieee.signed (decide (a < 0)) m (i - min i j).toNat = A at *
  generalize Ieee.signed (decide (b < 0)) n (j - min i j).toNat = B at *
  have ut : (A + B) * 2 ^ (min i j - double.leastPlace).toNat = (a + b) * 2 ^ 1074 := by rw [Int.add_mul, Int.add_mul, u1, u2]
  generalize A + B = T at *
  generalize hk : (min i j - double.leastPlace).toNat = k at *
  have z1 : T = 0 ↔ a + b = 0 := by rw [← scale_zero T k, ut, scale_zero]
  have z2 : T < 0 ↔ a + b < 0 := by rw [← scale_lt T k, ut, scale_lt]
  have sg : (if T = 0 then decide (a < 0) && decide (b < 0) else decide (T < 0)) = decide (a + b < 0) := by
    by_cases t0 : T = 0
    · rw [if_pos t0]
      have := z1.1 t0
      by_cases q1 : a < 0 <;> by_cases q2 : b < 0 <;> simp [q1, q2] <;> omega
    · rw [if_neg t0]
      exact decide_eq_decide.2 z2
  rw [sg, write_number, hw]
  refine nearest_exact double _ _ _ r (by rw [inf64]; omega) ?_
  rw [hk, hv, show (double.leastPlace - min i j).toNat = 0 from by omega, Nat.pow_zero, Nat.mul_one]
  have := congrArg Int.natAbs ut
  rw [Int.natAbs_mul, Int.natAbs_mul] at this
  have e1 : ((2 : Int) ^ k).natAbs = 2 ^ k := by rw [Int.natAbs_pow, show (2 : Int).natAbs = 2 from rfl]
  have e2 : ((2 : Int) ^ 1074).natAbs = 2 ^ 1074 := by rw [Int.natAbs_pow, show (2 : Int).natAbs = 2 from rfl]
  rw [e1, e2] at this
  exact this
end Go.Proofs.Qxb6500472a
