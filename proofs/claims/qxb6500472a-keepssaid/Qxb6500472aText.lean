import Derived.Test.Qxb6500472aFloText2
import Derived.Test.Qxb6500472aItoa
namespace Go.Proofs.Qxb6500472a
open Go.RowKit
open Ieee (Format Datum double single Toward)

theorem order_self (x : Nat) (h : rung double x ≤ 9218868437227405312) : (FloatKind.f64.format.order x x != some .eq) = false := by
  show (double.order x x != some .eq) = false
  rcases Nat.lt_or_ge (rung double x) 9218868437227405312 with h1 | h1
  · rw [order_fin double x x h1 h1]; simp
  · have e := read_inf double x (by rw [inf64]; omega) le_inf64
    unfold Format.order
    rw [e]
    cases sgn double x <;> rfl
theorem order_self_nan (x : Nat) (h : 9218868437227405312 < rung double x) : (FloatKind.f64.format.order x x != some .eq) = true := by
  show (double.order x x != some .eq) = true
  obtain ⟨t, e⟩ := read_nan double x (by rw [inf64]; exact h) le_inf64
  unfold Format.order
  rw [e]; rfl
theorem val_zero : val double 0 = 0 := by decide +kernel
theorem fin_zero : fin double 0 := by show _ < _; decide +kernel
theorem order_zero (x : Nat) (h : rung double x = 0) : (FloatKind.f64.format.order x 0 == some .eq) = true := by
  show (double.order x 0 == some .eq) = true
  have hf : fin double x := by unfold fin; rw [h, inf64]; decide
  rw [order_fin double x 0 hf fin_zero, val_zero]
  have : val double x = 0 := by
    unfold val; rw [h]
    have : valR double 0 = 0 := by decide +kernel
    rw [this]; simp
  rw [this]; rfl
/-- A number (or an infinity) that is not 0: it is not equal to 0; below it just if its sign says so. -/
theorem order_pos (x : Nat) (h0 : 0 < rung double x) (h1 : rung double x ≤ 9218868437227405312) :
    (FloatKind.f64.format.order x 0 == some .eq) = false ∧ (FloatKind.f64.format.order x 0 == some .lt) = sgn double x := by
  show (double.order x 0 == some .eq) = false ∧ (double.order x 0 == some .lt) = sgn double x
  rcases Nat.lt_or_ge (rung double x) 9218868437227405312 with h2 | h2
  · rw [order_fin double x 0 h2 fin_zero, val_zero]
    have hp := valR_pos _ h0
    unfold val
    cases sgn double x
    · simp only [Bool.false_eq_true, if_false]
      rw [Int.compare_eq_gt.2 (by omega)]
      exact ⟨rfl, rfl⟩
    · simp only [if_true]
      rw [Int.compare_eq_lt.2 (by omega)]
      exact ⟨rfl, rfl⟩
  · have e := read_inf double x (by rw [inf64]; omega) le_inf64
    have e0 : double.read 0 = .number false 0 (-1074) := by decide +kernel
    unfold Format.order
    rw [e, e0]
    cases sgn double x <;> exact ⟨rfl, rfl⟩
theorem one_over (x : Nat) (h : rung double x = 0) : floatBits .quo .f64 4607182418800017408 x = some (double.word (sgn double x) 9218868437227405312) := by
  have e : double.read x = .number (sgn double x) 0 (-1074) := by
    unfold Format.read
    simp only
    have e1 : x % double.signWeight = 0 := h
    rw [e1, if_pos (by decide)]
    rfl
  have hw : floatBits .quo .f64 4607182418800017408 x = ((double.read 4607182418800017408).quotient 54 (double.read x)).map double.write := rfl
  rw [hw, e, read_one]
  cases sgn double x <;> rfl
theorem inf_lt (s : Bool) : (FloatKind.f64.format.order (double.word s 9218868437227405312) 0 == some .lt) = s := by
  cases s <;> decide +kernel
/-- 'x + x == x' of an infinity. -/
theorem inf_twice (y : Nat) (hy : double.read y = .infinity false) : floatBits .add .f64 y y = some 9218868437227405312 ∧ (FloatKind.f64.format.order 9218868437227405312 y == some .eq) = true := by
  have hw : floatBits .add .f64 y y = ((double.read y).sum (double.read y)).map double.write := rfl
  constructor
  · rw [hw, hy]; rfl
  · show (double.order 9218868437227405312 y == some .eq) = true
    have e : double.read 9218868437227405312 = .infinity false := by decide +kernel
    unfold Format.order
    rw [e, hy]; rfl
/-- 'x + x == x' of a number. -/
theorem num_twice (y r : Nat) (hy : double.read y = double.read r) (h0 : 0 < r) (h1 : r < 9218868437227405312) : ∃ A, floatBits .add .f64 y y = some A ∧ (FloatKind.f64.format.order A y == some .eq) = false := by
  refine ⟨_, (floatBits_read hy hy).trans (add_self r h1), ?_⟩
  rw [order_read rfl hy]
  have hd : r < dbl double r := by unfold dbl; rw [bin64]; split <;> omega
  rcases Nat.lt_or_ge (dbl double r) 9218868437227405312 with h2 | h2
  · rw [Nat.min_eq_left (by omega), order_rung _ _ h2 h1, Nat.compare_eq_gt.2 hd]; rfl
  · rw [Nat.min_eq_right h2]
    obtain ⟨m, e, hr, _⟩ := read_rung r h1
    have e1 : double.read 9218868437227405312 = .infinity false := by decide +kernel
    show (double.order 9218868437227405312 r == some .eq) = false
    unfold Format.order
    rw [e1, hr]; rfl
theorem ge_two (y r : Nat) (hy : double.read y = double.read r) (h1 : r < 9218868437227405312) : (FloatKind.f64.format.order y 4611686018427387904 == some .gt || FloatKind.f64.format.order y 4611686018427387904 == some .eq) = decide (4611686018427387904 ≤ r) := by
  rw [order_read hy rfl, order_rung _ _ h1 (by decide)]
  rcases Nat.lt_trichotomy r 4611686018427387904 with h | h | h
  · rw [Nat.compare_eq_lt.2 h]; simp; exact h
  · rw [Nat.compare_eq_eq.2 h]; simp; omega
  · rw [Nat.compare_eq_gt.2 h]; simp; omega
theorem lt_two (y r : Nat) (hy : double.read y = double.read r) (h1 : r < 9218868437227405312) : (FloatKind.f64.format.order y 4611686018427387904 == some .lt) = decide (r < 4611686018427387904) := by
  rw [order_read hy rfl, order_rung _ _ h1 (by decide)]
  rcases Nat.lt_trichotomy r 4611686018427387904 with h | h | h
  · rw [Nat.compare_eq_lt.2 h]; simp; exact h
  · rw [Nat.compare_eq_eq.2 h]; simp; omega
  · rw [Nat.compare_eq_gt.2 h]; simp; omega
theorem lt_one (y r : Nat) (hy : double.read y = double.read r) (h1 : r < 9218868437227405312) : (FloatKind.f64.format.order y 4607182418800017408 == some .lt) = decide (r < 4607182418800017408) := by
  rw [order_read hy rfl, order_rung _ _ h1 (by decide)]
  rcases Nat.lt_trichotomy r 4607182418800017408 with h | h | h
  · rw [Nat.compare_eq_lt.2 h]; simp; exact h
  · rw [Nat.compare_eq_eq.2 h]; simp; omega
  · rw [Nat.compare_eq_gt.2 h]; simp; omega
theorem ge_one (y r : Nat) (hy : double.read y = double.read r) (h1 : r < 9218868437227405312) : (FloatKind.f64.format.order y 4607182418800017408 == some .gt || FloatKind.f64.format.order y 4607182418800017408 == some .eq) = decide (4607182418800017408 ≤ r) := by
  rw [order_read hy rfl, order_rung _ _ h1 (by decide)]
  rcases Nat.lt_trichotomy r 4607182418800017408 with h | h | h
  · rw [Nat.compare_eq_lt.2 h]; simp; exact h
  · rw [Nat.compare_eq_eq.2 h]; simp; omega
  · rw [Nat.compare_eq_gt.2 h]; simp; omega

set_option maxHeartbeats 1000000 in
theorem text_nan (x : Nat) (h : 9218868437227405312 < rung double x) (w : World) : Calls Try.prog 73 #[.float .f64 x] w fun e w' => e = .returned (S (text64 x)) ∧ Below w.heap.size w w' := by
  have h1 := order_self_nan x h
  have e : text64 x = [78, 97, 78] := by unfold text64; rw [if_pos h]
  rw [e]
  clear e
  go_enter Try.func73, Try.ntmps73
  go_wp2
  go_ret
  exact ⟨rfl, Below.refl _ _⟩
set_option maxHeartbeats 1000000 in
theorem text_zero (x : Nat) (h : rung double x = 0) (w : World) : Calls Try.prog 73 #[.float .f64 x] w fun e w' => e = .returned (S (text64 x)) ∧ Below w.heap.size w w' := by
  have h1 := order_self x (by omega)
  have h2 := order_zero x h
  have h3 := fun W => run_float_arith (P := Try.prog) W .quo 80 .f64 _ _ _ (one_over x h)
  have h4 := inf_lt (sgn double x)
  have e : text64 x = if sgn double x then [45, 48] else [43, 48] := by unfold text64; rw [if_neg (by omega), if_pos h]
  rw [e]
  clear e
  cases hs : sgn double x with
  | true =>
    rw [hs] at h3 h4
    go_enter Try.func73, Try.ntmps73
    go_wp2
    go_ret
    exact ⟨rfl, Below.refl _ _⟩
  | false =>
    rw [hs] at h3 h4
    go_enter Try.func73, Try.ntmps73
    go_wp2
    go_ret
    exact ⟨rfl, Below.refl _ _⟩
end Go.Proofs.Qxb6500472a
