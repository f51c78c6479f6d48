import Derived.Test.Qxb6500472aFloInt
import Derived.Test.Qxb6500472aText
namespace Go.Proofs.Qxb6500472a
open Go.RowKit
open Ieee (Format Datum double single Toward)

/-! ### the order of floats by their rungs -/
/-- The rung with its sign. -/
def key (x : Nat) : Int := if sgn double x then -(rung double x : Int) else (rung double x : Int)
theorem cmp_nat (a b : Nat) : compare (a : Int) (b : Int) = compare a b := by
  rcases Nat.lt_trichotomy a b with h | h | h
  · rw [Int.compare_eq_lt.2 (by omega), Nat.compare_eq_lt.2 h]
  · subst h; rw [Int.compare_eq_eq.2 rfl, Nat.compare_eq_eq.2 rfl]
  · rw [Int.compare_eq_gt.2 (by omega), Nat.compare_eq_gt.2 h]
theorem cmp_of {a b c d : Int} (h1 : a < b ↔ c < d) (h2 : b < a ↔ d < c) : compare a b = compare c d := by
  rcases Int.lt_trichotomy a b with h | h | h
  · rw [Int.compare_eq_lt.2 h, Int.compare_eq_lt.2 (h1.1 h)]
  · have e : c = d := by
      have n1 : ¬ c < d := fun q => by have := h1.2 q; omega
      have n2 : ¬ d < c := fun q => by have := h2.2 q; omega
      omega
    rw [Int.compare_eq_eq.2 h, Int.compare_eq_eq.2 e]
  · rw [Int.compare_eq_gt.2 h, Int.compare_eq_gt.2 (h2.1 h)]
theorem valR_zero : valR double 0 = 0 := by decide +kernel
theorem val_lt_key (x y : Nat) : val double x < val double y ↔ key x < key y := by
  unfold val key
  have l1 := @valR_lt_iff (rung double x) (rung double y)
  have l2 := @valR_lt_iff (rung double y) (rung double x)
  have p1 : valR double (rung double x) = 0 ↔ rung double x = 0 := by
    constructor
    · intro h
      rcases Nat.eq_zero_or_pos (rung double x) with e | e
      · exact e
      · have := valR_pos _ e; omega
    · intro h; rw [h]; exact valR_zero
  have p2 : valR double (rung double y) = 0 ↔ rung double y = 0 := by
    constructor
    · intro h
      rcases Nat.eq_zero_or_pos (rung double y) with e | e
      · exact e
      · have := valR_pos _ e; omega
    · intro h; rw [h]; exact valR_zero
  generalize valR double (rung double x) = A at *
  generalize valR double (rung double y) = B at *
  generalize rung double x = a at *
  generalize rung double y = b at *
  cases sgn double x <;> cases sgn double y <;> simp <;> omega
theorem order_key (x y : Nat) (hx : rung double x ≤ 9218868437227405312) (hy : rung double y ≤ 9218868437227405312) : FloatKind.f64.format.order x y = some (compare (key x) (key y)) := by
  show double.order x y = _
  rcases Nat.lt_or_ge (rung double x) 9218868437227405312 with h1 | h1
  · rcases Nat.lt_or_ge (rung double y) 9218868437227405312 with h2 | h2
    · rw [order_fin double x y h1 h2]
      congr 1
      exact cmp_of (val_lt_key x y) (val_lt_key y x)
    · obtain ⟨m, e, hr, -⟩ := read_fin double x h1
      have e2 := read_inf double y (by rw [inf64]; omega) le_inf64
      unfold Format.order
      rw [hr, e2]
      simp only [Datum.order]
      congr 1
      unfold key
      have hb : rung double y = 9218868437227405312 := by omega
      rw [hb]
      generalize rung double x = a at *
      cases sgn double x <;> cases sgn double y <;> simp
      · rw [Int.compare_eq_lt.2 (by omega)]
      · rw [Int.compare_eq_gt.2 (by omega)]
      · rw [Int.compare_eq_lt.2 (by omega)]
      · rw [Int.compare_eq_gt.2 (by omega)]
  · have e1 := read_inf double x (by rw [inf64]; omega) le_inf64
    have ha : rung double x = 9218868437227405312 := by omega
    rcases Nat.lt_or_ge (rung double y) 9218868437227405312 with h2 | h2
    · obtain ⟨m, e, hr, -⟩ := read_fin double y h2
      unfold Format.order
      rw [hr, e1]
      simp only [Datum.order]
      congr 1
      unfold key
      rw [ha]
      generalize rung double y = b at *
      cases sgn double x <;> cases sgn double y <;> simp
      · rw [Int.compare_eq_gt.2 (by omega)]
      · rw [Int.compare_eq_gt.2 (by omega)]
      · rw [Int.compare_eq_lt.2 (by omega)]
      · rw [Int.compare_eq_lt.2 (by omega)]
    · have e2 := read_inf double y (by rw [inf64]; omega) le_inf64
      have hb : rung double y = 9218868437227405312 := by omega
      unfold Format.order
      rw [e1, e2]
      simp only [Datum.order]
      congr 1
      unfold key
      rw [ha, hb]
      cases sgn double x <;> cases sgn double y <;> rfl
theorem order_nan_some {x y : Nat} {o : Ordering} (h : FloatKind.f64.format.order x y = some o) : rung double x ≤ 9218868437227405312 ∧ rung double y ≤ 9218868437227405312 := by
  have h' : (double.read x).order (double.read y) = some o := h
  constructor
  · rcases Nat.lt_or_ge 9218868437227405312 (rung double x) with h1 | h1
    · obtain ⟨t, e⟩ := read_nan double x (by rw [inf64]; exact h1) le_inf64
      rw [e] at h'
      cases e2 : double.read y <;> rw [e2] at h' <;> simp [Datum.order] at h'
    · exact h1
  · rcases Nat.lt_or_ge 9218868437227405312 (rung double y) with h1 | h1
    · obtain ⟨t, e⟩ := read_nan double y (by rw [inf64]; exact h1) le_inf64
      rw [e] at h'
      cases e2 : double.read x <;> rw [e2] at h' <;> simp [Datum.order] at h'
    · exact h1
end Go.Proofs.Qxb6500472a
