import Derived.Test.Qxb6500472aFloOrd
import Derived.Test.Qxb6500472aStr
namespace Go.Proofs.Qxb6500472a
open Ieee (Format Datum double single Toward)

theorem bin64 : double.binade = 4503599627370496 := rfl
theorem inf64 : double.infRung = 9218868437227405312 := rfl
theorem sgw64 : double.signWeight = 9223372036854775808 := rfl
theorem least64 : double.leastPlace = -1074 := rfl
theorem le_inf64 : double.binade ≤ double.infRung := by decide

/-- A word below the sign's weight is its own rung. -/
theorem own_rung (r : Nat) (h : r < 9223372036854775808) : sgn double r = false ∧ rung double r = r := by
  unfold sgn rung
  rw [sgw64]
  have e : r / 9223372036854775808 = 0 := by omega
  rw [e]
  exact ⟨rfl, by omega⟩
theorem read_eq (x y : Nat) (hs : sgn double x = sgn double y) (hr : rung double x = rung double y) : double.read x = double.read y := by
  unfold Format.read
  simp only
  unfold sgn at hs
  unfold rung at hr
  rw [hs, hr]
theorem word64 (s : Bool) (r : Nat) (h : r < 9223372036854775808) : sgn double (double.word s r) = s ∧ rung double (double.word s r) = r := by
  unfold sgn rung Format.word
  rw [sgw64]
  cases s
  · simp only [Bool.false_eq_true, if_false]
    have e1 : r / 9223372036854775808 = 0 := by omega
    rw [e1]
    exact ⟨rfl, by omega⟩
  · simp only [if_true]
    have e1 : (9223372036854775808 + r) / 9223372036854775808 = 1 := by omega
    rw [e1]
    exact ⟨rfl, by omega⟩
theorem floatBits_read {op : BinOp} {x x' y y' : Nat} (hx : double.read x = double.read x') (hy : double.read y = double.read y') : floatBits op .f64 x y = floatBits op .f64 x' y' := by
  have hx1 : FloatKind.f64.format.read x = FloatKind.f64.format.read x' := hx
  have hy1 : FloatKind.f64.format.read y = FloatKind.f64.format.read y' := hy
  cases op <;> simp only [floatBits, Format.add, Format.sub, Format.mul, Format.div, hx1, hy1]
theorem order_read {x x' y y' : Nat} (hx : double.read x = double.read x') (hy : double.read y = double.read y') : FloatKind.f64.format.order x y = FloatKind.f64.format.order x' y' := by
  show double.order x y = double.order x' y'
  unfold Format.order; rw [hx, hy]

/-- Two words that are no negative numbers stand as their rungs do. -/
theorem order_rung (r s : Nat) (hr : r < 9218868437227405312) (hs : s < 9218868437227405312) : FloatKind.f64.format.order r s = some (compare r s) := by
  obtain ⟨s1, r1⟩ := own_rung r (by omega)
  obtain ⟨s2, r2⟩ := own_rung s (by omega)
  show double.order r s = _
  rw [order_fin double r s (by unfold fin; rw [r1, inf64]; exact hr) (by unfold fin; rw [r2, inf64]; exact hs)]
  unfold val
  rw [s1, s2, r1, r2]
  simp only [Bool.false_eq_true, if_false]
  congr 1
  rcases Nat.lt_trichotomy r s with h | h | h
  · rw [Int.compare_eq_lt.2 (by exact_mod_cast valR_lt double h), Nat.compare_eq_lt.2 h]
  · subst h; simp
  · rw [Int.compare_eq_gt.2 (by exact_mod_cast valR_lt double h), Nat.compare_eq_gt.2 h]

theorem read_rung (r : Nat) (h : r < 9218868437227405312) : ∃ m e, double.read r = .number false m e ∧ -1074 ≤ e ∧ m * 2 ^ (e + 1074).toNat = valR double r ∧ (4503599627370496 ≤ r → 4503599627370496 ≤ m ∧ m < 2 * 4503599627370496) := by
  obtain ⟨s1, r1⟩ := own_rung r (by omega)
  by_cases hb : r < 4503599627370496
  · obtain ⟨m, e, hr, he, hv⟩ := read_fin double r (by unfold fin; rw [r1, inf64]; exact h)
    rw [s1] at hr
    rw [r1] at hv
    rw [least64] at he hv
    exact ⟨m, e, hr, he, by rw [← hv]; congr 2, fun h' => absurd h' (by omega)⟩
  · refine ⟨4503599627370496 + r % 4503599627370496, -1074 + ((r / 4503599627370496 - 1 : Nat) : Int), ?_, by omega, ?_, fun _ => ⟨by omega, by omega⟩⟩
    · unfold Format.read
      simp only
      have e1 : r % double.signWeight = r := by rw [sgw64]; omega
      have e2 : (r / double.signWeight % 2 == 1) = false := by rw [sgw64]; have : r / 9223372036854775808 = 0 := by omega
                                                               rw [this]; rfl
      rw [e1, e2, if_neg (by rw [bin64]; exact hb), if_pos (by rw [inf64]; exact h)]
      rfl
    · unfold valR
      rw [bin64, if_neg hb]
      congr 2
      omega

theorem read_two : double.read 4611686018427387904 = .number false 4503599627370496 (-51) := by decide +kernel
theorem read_one : double.read 4607182418800017408 = .number false 4503599627370496 (-52) := by decide +kernel
theorem read_c52 : double.read 4841369599423283200 = .number false 4503599627370496 0 := by decide +kernel

theorem quot_two (m : Nat) (e : Int) (m1 : 4503599627370496 ≤ m) (m2 : m < 2 * 4503599627370496) : (Datum.number false m e).quotient 54 (.number false 4503599627370496 (-51)) = some (.number false (8 * m) (e - 4)) := by
  have hl : m.log2 = 52 := by rw [Nat.log2_eq_iff (by omega)]; constructor <;> omega
  have hl2 : Nat.log2 4503599627370496 = 52 := by decide +kernel
  simp only [Datum.quotient]
  rw [if_neg (by omega), hl, hl2, show (54 + 52 - 52 : Nat) = 54 from rfl, shl_eq]
  have e0 : m * 2 ^ 54 = 4503599627370496 * (4 * m) := by omega
  have hp : 0 < 4503599627370496 := by omega
  generalize (4503599627370496 : Nat) = n at e0 hp ⊢
  have e1 : m * 2 ^ 54 / n = 4 * m := by rw [e0]; exact Nat.mul_div_cancel_left _ hp
  have e2 : (m * 2 ^ 54 % n != 0) = false := by rw [e0, Nat.mul_mod_right]; rfl
  rw [e1, e2]
  have e3 : 2 * (4 * m) + Bool.toNat false = 8 * m := by simp only [Bool.toNat, cond_false]; omega
  have e4 : e - -51 - ((54 : Nat) : Int) - 1 = e - 4 := by omega
  rw [e3, e4]
  rfl
theorem half_rung (r : Nat) (h1 : 2 * 4503599627370496 ≤ r) : valR double r = 2 * valR double (r - 4503599627370496) := by
  have h3 := valR_dbl double (r - 4503599627370496)
  unfold dbl at h3
  rw [bin64, if_neg (by omega)] at h3
  have e5 : r - 4503599627370496 + 4503599627370496 = r := by omega
  rw [e5] at h3
  exact h3
theorem word_pos (r : Nat) : double.word false r = r := rfl
/-- Half of a number of at least two binades. -/
theorem div_two (r : Nat) (h1 : 2 * 4503599627370496 ≤ r) (h2 : r < 9218868437227405312) : floatBits .quo .f64 r 4611686018427387904 = some (r - 4503599627370496) := by
  obtain ⟨m, e, hr, he, hv, hm⟩ := read_rung r h2
  obtain ⟨m1, m2⟩ := hm (by omega)
  have hw : floatBits .quo .f64 r 4611686018427387904 = ((double.read r).quotient 54 (double.read 4611686018427387904)).map double.write := rfl
  rw [hw, hr, read_two, quot_two m e m1 m2, Option.map_some, write_number]
  have hh := half_rung r h1
  have hu : 8 * m * 2 ^ (e + 1074).toNat = valR double (r - 4503599627370496) * 2 ^ 4 := by rw [Nat.mul_assoc, hv, hh]; omega
  rw [nearest_units double false (8 * m) (e - 4) (r - 4503599627370496) (e + 1074).toNat 4 (by rw [least64]; omega) hu]
  rw [inf64, Nat.min_eq_left (by omega), word_pos]
/-- Twice a number below the last binade. -/
theorem mul_two (r : Nat) (h2 : r < 9214364837600034816) : floatBits .mul .f64 r 4611686018427387904 = some (dbl double r) := by
  obtain ⟨m, e, hr, he, hv, hm⟩ := read_rung r (by omega)
  have hq : (double.read r).product (double.read 4611686018427387904) = some (.number false (m * 4503599627370496) (e + -51)) := by rw [hr, read_two]; rfl
  have hw : floatBits .mul .f64 r 4611686018427387904 = some (double.write (.number false (m * 4503599627370496) (e + -51))) := by
    show ((double.read r).product (double.read 4611686018427387904)).map double.write = _
    rw [hq]; rfl
  rw [hw, write_number]
  rw [nearest_units double false (m * 4503599627370496) (e + -51) (dbl double r) (e + 1074).toNat 51 (by rw [least64]; omega) (by rw [valR_dbl, ← hv, Nat.mul_right_comm]; generalize m * 2 ^ (e + 1074).toNat = g; omega)]
  have hd : dbl double r ≤ 9218868437227405312 := by unfold dbl; rw [bin64]; split <;> omega
  rw [inf64, Nat.min_eq_left hd]
  rfl
/-- 2^52 times a number between 1 and 2: a whole number. -/
theorem mul_c52 (r : Nat) (h1 : 4607182418800017408 ≤ r) (h2 : r < 4611686018427387904) : floatBits .mul .f64 r 4841369599423283200 = some (r + 52 * 4503599627370496) := by
  obtain ⟨m, e, hr, he, hv, hm⟩ := read_rung r (by omega)
  have hq : (double.read r).product (double.read 4841369599423283200) = some (.number false (m * 4503599627370496) (e + 0)) := by rw [hr, read_c52]; rfl
  have hw : floatBits .mul .f64 r 4841369599423283200 = some (double.write (.number false (m * 4503599627370496) (e + 0))) := by
    show ((double.read r).product (double.read 4841369599423283200)).map double.write = _
    rw [hq]; rfl
  have hk : ∀ k : Nat, valR double (r + k * 4503599627370496) = valR double r * 2 ^ k := by
    intro k
    induction k with
    | zero => simp
    | succ k ih =>
      have h3 := valR_dbl double (r + k * 4503599627370496)
      unfold dbl at h3
      rw [bin64, if_neg (by omega)] at h3
      rw [show r + (k + 1) * 4503599627370496 = r + k * 4503599627370496 + 4503599627370496 from by omega, h3, ih, Nat.pow_succ]
      generalize 2 ^ k = g
      rw [Nat.mul_comm 2, Nat.mul_assoc]
  rw [hw, write_number]
  rw [nearest_units double false (m * 4503599627370496) (e + 0) (r + 52 * 4503599627370496) (e + 1074).toNat 0 (by rw [least64]; omega) (by rw [hk, ← hv, Nat.mul_right_comm]; generalize m * 2 ^ (e + 1074).toNat = g; omega)]
  rw [inf64, Nat.min_eq_left (by omega)]
  rfl
end Go.Proofs.Qxb6500472a
