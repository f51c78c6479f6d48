import Derived.Test.Qxb6500473aFloK3
import Derived.Test.Qxb6500473aMod3
namespace Go.Proofs.Qxb6500473a
open Go.RowKit
open Ieee (Format Datum double single Toward)

theorem read_normal (x : Nat) (h1 : 4503599627370496 ≤ rung double x) (h2 : rung double x < 9218868437227405312) :
    double.read x = .number (sgn double x) (4503599627370496 + rung double x % 4503599627370496) (-1074 + ((rung double x / 4503599627370496 - 1 : Nat) : Int)) := by
  unfold Format.read
  simp only
  rw [show x % double.signWeight = rung double x from rfl, if_neg (by rw [bin64]; omega), if_pos (by rw [inf64]; exact h2)]
  rfl
theorem quot_one (s : Bool) (m : Nat) (e : Int) (m1 : 4503599627370496 ≤ m) (m2 : m < 2 * 4503599627370496) : (Datum.number s m e).quotient 54 (.number false 4503599627370496 (-52)) = some (.number s (8 * m) (e - 3)) := by
  have hl : m.log2 = 52 := by rw [Nat.log2_eq_iff (by omega)]; constructor <;> omega
  have hl2 : Nat.log2 4503599627370496 = 52 := by decide +kernel
  simp only [Datum.quotient]
  rw [if_neg (by omega), hl, hl2, show (54 + 52 - 52 : Nat) = 54 from rfl, shl_eq]
  have e0 : m * 2 ^ 54 = 4503599627370496 * (4 * m) := by omega
  have hp : 0 < 4503599627370496 := by omega
  generalize (4503599627370496 : Nat) = n at e0 hp ⊢
  have e1 : m * 2 ^ 54 / n = 4 * m := by rw [e0]; exact Nat.mul_div_cancel_left _ hp
  have e2 : (m * 2 ^ 54 % n != 0) = false := by rw [e0, Nat.mul_mod_right]; rfl
  rw [e1, e2]
  have e3 : 2 * (4 * m) + Bool.toNat false = 8 * m := by simp only [Bool.toNat, cond_false]; omega
  have e4 : e - -52 - ((54 : Nat) : Int) - 1 = e - 3 := by omega
  rw [e3, e4]
  cases s <;> rfl
/-- n/1 is n. -/
theorem ratio_one (n : Int) (h1 : -9007199254740992 ≤ n) (h2 : n ≤ 9007199254740992) : ratioF n 1 = int64 n := by
  by_cases hn : n = 0
  · subst hn; decide +kernel
  obtain ⟨p1, p2, p3, p4, p5⟩ := int_parts n h1 h2
  have hr := read_normal (int64 n) (p4 hn) p2
  have h1' : int64 1 = 4607182418800017408 := by decide +kernel
  unfold ratioF
  have hw : floatBits .quo .f64 (int64 n) (int64 1) = ((double.read (int64 n)).quotient 54 (double.read (int64 1))).map double.write := rfl
  show (floatBits .quo .f64 (int64 n) (int64 1)).getD _ = _
  rw [hw, h1', read_one, hr, p1]
  have hR := p4 hn
  generalize hrr : rung double (int64 n) = r at *
  rw [quot_one _ _ _ (by omega) (by omega), Option.map_some, Option.getD_some, write_number]
  have hv : valR double r = (4503599627370496 + r % 4503599627370496) * 2 ^ (r / 4503599627370496 - 1) := by
    unfold valR; rw [bin64, if_neg (by omega)]
  rw [nearest_units double _ (8 * (4503599627370496 + r % 4503599627370496)) (-1074 + ((r / 4503599627370496 - 1 : Nat) : Int) - 3) r (r / 4503599627370496 - 1) 3 (by rw [least64]; omega) (by rw [hv, Nat.mul_assoc, Nat.mul_comm 8])]
  rw [inf64, Nat.min_eq_left (by omega), p5]
theorem e53 : (2 : Int) ^ 1127 = 9007199254740992 * 2 ^ 1074 := by
  rw [show (1127 : Nat) = 53 + 1074 from rfl, Int.pow_add, show (2 : Int) ^ 53 = 9007199254740992 from rfl]
theorem in53_int (n : Int) (h1 : -9007199254740992 ≤ n) (h2 : n ≤ 9007199254740992) : in53 (int64 n) = true := by
  obtain ⟨f, v⟩ := int_val n h1 h2
  have o1 : FloatKind.f64.format.order (int64 n) 14069245235905429504 = some (compare (n * 2 ^ 1074) (-9007199254740992 * 2 ^ 1074)) := by
    show double.order _ _ = _
    rw [order_fin double _ _ f fin_m53.1, v, val_m53.1, e53, Int.neg_mul]
  have o2 : FloatKind.f64.format.order (int64 n) 4845873199050653696 = some (compare (n * 2 ^ 1074) (9007199254740992 * 2 ^ 1074)) := by
    show double.order _ _ = _
    rw [order_fin double _ _ f fin_m53.2, v, val_m53.2, e53]
  rw [compare_scale] at o1 o2
  unfold in53
  rw [o1, o2]
  rcases Int.lt_trichotomy n (-9007199254740992) with c1 | c1 | c1
  · omega
  · rw [Int.compare_eq_eq.2 c1, Int.compare_eq_lt.2 (show n < 9007199254740992 by omega)]; rfl
  · rw [Int.compare_eq_gt.2 c1]
    rcases Int.lt_trichotomy n 9007199254740992 with c2 | c2 | c2
    · rw [Int.compare_eq_lt.2 c2]; rfl
    · rw [Int.compare_eq_eq.2 c2]; rfl
    · omega
theorem toInt_int (n : Int) (h1 : -9007199254740992 ≤ n) (h2 : n ≤ 9007199254740992) : floatToIntVal .f64 (int64 n) .i64 = some n := by
  obtain ⟨f, -⟩ := int_val n h1 h2
  obtain ⟨p1, p2, p3, -, -⟩ := int_parts n h1 h2
  have ht := toInt_fin (int64 n) f
  rw [p1, p3, Nat.mul_div_cancel _ (pow_pos' 1074)] at ht
  have hs : (double.read (int64 n)).toInt .zero = some n := by
    rw [ht]
    congr 1
    by_cases hn : n < 0
    · rw [if_pos (by simpa using hn)]; omega
    · rw [if_neg (by simpa using hn)]; omega
  unfold floatToIntVal
  have hd : (FloatKind.f64.decode (int64 n)).toInt .zero = some n := hs
  rw [hd]
  have b1 : IntKind.i64.min = -9223372036854775808 := rfl
  have b2 : IntKind.i64.max = 9223372036854775807 := rfl
  simp only
  rw [if_pos (by rw [b1, b2]; omega)]
theorem order_int (n : Int) (h1 : -9007199254740992 ≤ n) (h2 : n ≤ 9007199254740992) : (FloatKind.f64.format.order (int64 n) (int64 n) == some .eq) = true := by
  obtain ⟨f, -⟩ := int_val n h1 h2
  have : FloatKind.f64.format.order (int64 n) (int64 n) = some .eq := by
    show double.order _ _ = _
    rw [order_fin double _ _ f f]
    simp
  rw [this]; rfl
theorem whole_int (n : Int) (h1 : -9007199254740992 ≤ n) (h2 : n ≤ 9007199254740992) : wholeF (int64 n) = (n, 0) := by
  unfold wholeF
  rw [in53_int n h1 h2, toInt_int n h1 h2]
  simp only [if_true, Option.getD_some]
  rw [if_pos (order_int n h1 h2)]

/-! ### no sample is below the least, none above the greatest -/
theorem ltF_iff (x y : Nat) : ltF x y = true ↔ rung double x ≤ 9218868437227405312 ∧ rung double y ≤ 9218868437227405312 ∧ key x < key y := by
  unfold ltF
  constructor
  · intro h
    have h' : FloatKind.f64.format.order x y = some .lt := by simpa using h
    obtain ⟨a, b⟩ := order_nan_some h'
    refine ⟨a, b, ?_⟩
    rw [order_key x y a b] at h'
    exact Int.compare_eq_lt.1 (by simpa using h')
  · rintro ⟨a, b, c⟩
    rw [order_key x y a b, Int.compare_eq_lt.2 c]; rfl
theorem gtF_iff (x y : Nat) : gtF x y = true ↔ rung double x ≤ 9218868437227405312 ∧ rung double y ≤ 9218868437227405312 ∧ key y < key x := by
  unfold gtF
  constructor
  · intro h
    have h' : FloatKind.f64.format.order x y = some .gt := by simpa using h
    obtain ⟨a, b⟩ := order_nan_some h'
    refine ⟨a, b, ?_⟩
    rw [order_key x y a b] at h'
    exact Int.compare_eq_gt.1 (by simpa using h')
  · rintro ⟨a, b, c⟩
    rw [order_key x y a b, Int.compare_eq_gt.2 c]; rfl
theorem bool_false {b : Bool} (h : ¬ b = true) : b = false := by simpa using h
theorem pmin_le (A : List Nat) : ∀ k i, i ≤ k → ltF (A.getD i 0) (pmin A k) = false
  | 0, i, hi => by
    obtain rfl : i = 0 := by omega
    refine bool_false fun h => ?_
    have := (ltF_iff _ _).1 h
    simp only [pmin] at this
    omega
  | k + 1, i, hi => by
    refine bool_false fun h => ?_
    simp only [pmin, loF] at h
    by_cases c : ltF (A.getD (k + 1) 0) (pmin A k) = true
    · rw [if_pos c] at h
      rcases Nat.lt_or_ge i (k + 1) with h1 | h1
      · have ih := pmin_le A k i (by omega)
        obtain ⟨a1, a2, a3⟩ := (ltF_iff _ _).1 h
        obtain ⟨b1, b2, b3⟩ := (ltF_iff _ _).1 c
        have : ltF (A.getD i 0) (pmin A k) = true := (ltF_iff _ _).2 ⟨a1, b2, by omega⟩
        rw [ih] at this; cases this
      · obtain rfl : i = k + 1 := by omega
        have := (ltF_iff _ _).1 h
        omega
    · rw [if_neg c] at h
      rcases Nat.lt_or_ge i (k + 1) with h1 | h1
      · rw [pmin_le A k i (by omega)] at h; cases h
      · obtain rfl : i = k + 1 := by omega
        exact c h
theorem pmax_le (A : List Nat) : ∀ k i, i ≤ k → gtF (A.getD i 0) (pmax A k) = false
  | 0, i, hi => by
    obtain rfl : i = 0 := by omega
    refine bool_false fun h => ?_
    have := (gtF_iff _ _).1 h
    simp only [pmax] at this
    omega
  | k + 1, i, hi => by
    refine bool_false fun h => ?_
    simp only [pmax, hiF] at h
    by_cases c : gtF (A.getD (k + 1) 0) (pmax A k) = true
    · rw [if_pos c] at h
      rcases Nat.lt_or_ge i (k + 1) with h1 | h1
      · have ih := pmax_le A k i (by omega)
        obtain ⟨a1, a2, a3⟩ := (gtF_iff _ _).1 h
        obtain ⟨b1, b2, b3⟩ := (gtF_iff _ _).1 c
        have : gtF (A.getD i 0) (pmax A k) = true := (gtF_iff _ _).2 ⟨a1, b2, by omega⟩
        rw [ih] at this; cases this
      · obtain rfl : i = k + 1 := by omega
        have := (gtF_iff _ _).1 h
        omega
    · rw [if_neg c] at h
      rcases Nat.lt_or_ge i (k + 1) with h1 | h1
      · rw [pmax_le A k i (by omega)] at h; cases h
      · obtain rfl : i = k + 1 := by omega
        exact c h
end Go.Proofs.Qxb6500473a
