import Derived.Test.Qxb6500472aSer4
import Derived.Test.Qxb6500472aFloInt
import Derived.Test.Qxb6500472aText2
namespace Go.Proofs.Qxb6500472a
open Go.RowKit
open Ieee (Format Datum double)
attribute [local go_sem] run_store_float drewN_alloc drewN_setCell

theorem nan_rung (x : Nat) : isNan .f64 x = decide (9218868437227405312 < rung double x) := by
  show (double.read x).isNaN = _
  rcases Nat.lt_or_ge 9218868437227405312 (rung double x) with h1 | h1
  · obtain ⟨t, e⟩ := read_nan double x h1 le_inf64
    rw [e, decide_eq_true h1]; rfl
  · rw [decide_eq_false (by omega)]
    rcases Nat.lt_or_ge (rung double x) 9218868437227405312 with h2 | h2
    · obtain ⟨m, e, hr, _⟩ := read_fin double x h2
      rw [hr]; rfl
    · rw [read_inf double x (by rw [inf64]; omega) le_inf64]; rfl
theorem ne_self (x : Nat) : (FloatKind.f64.format.order x x != some .eq) = isNan .f64 x := by
  rw [nan_rung]
  rcases Nat.lt_or_ge 9218868437227405312 (rung double x) with h1 | h1
  · rw [order_self_nan x h1, decide_eq_true h1]
  · rw [order_self x h1, decide_eq_false (by omega)]
theorem eq_self (x : Nat) (h : isNan .f64 x = false) : (FloatKind.f64.format.order x x == some .eq) = true := by
  have := ne_self x
  rw [h] at this
  simpa [bne] using this
theorem inv_some (x : Nat) (h : isNan .f64 x = false) : ∃ r, floatBits .quo .f64 4607182418800017408 x = some r ∧ isNan .f64 r = false := by
  have hs : ∃ r, floatBits .quo .f64 4607182418800017408 x = some r := by
    have hw : floatBits .quo .f64 4607182418800017408 x = ((double.read 4607182418800017408).quotient 54 (double.read x)).map double.write := rfl
    rw [hw, read_one]
    have hx : (double.read x).isNaN = false := h
    cases e : double.read x with
    | nan s t => rw [e] at hx; cases hx
    | infinity s => exact ⟨_, rfl⟩
    | number s m i =>
      simp only [Datum.quotient]
      by_cases hm : m = 0
      · rw [if_pos hm, if_neg (by decide)]; exact ⟨_, rfl⟩
      · rw [if_neg hm]; exact ⟨_, rfl⟩
  obtain ⟨r, hr⟩ := hs
  exact ⟨r, hr, floatBits_num hr⟩

set_option maxHeartbeats 1000000 in
theorem same_true (a b : Nat) (h : can64 a = can64 b) (w : World) :
    Calls Try.prog 95 #[D64 a, D64 b] w fun e w' => e = .returned (.bool true) ∧ w' = w := by
  have na := ne_self a
  have nb := ne_self b
  rcases can_eq_iff h with rfl | ⟨h1, h2⟩
  · cases hn : isNan .f64 a with
    | true =>
      rw [hn] at na
      go_enter Try.func95, Try.ntmps95
      go_wp2
      go_ret
      exact ⟨rfl, rfl⟩
    | false =>
      rw [hn] at na
      have ea := eq_self a hn
      obtain ⟨r, hr, hrn⟩ := inv_some a hn
      have q := fun W => run_float_arith (P := Try.prog) W .quo 80 .f64 _ _ _ hr
      have er := eq_self r hrn
      clear hr
      go_enter Try.func95, Try.ntmps95
      go_wp2
      go_ret
      exact ⟨rfl, rfl⟩
  · rw [h1] at na
    rw [h2] at nb
    clear h1 h2 h
    go_enter Try.func95, Try.ntmps95
    go_wp2
    go_ret
    exact ⟨rfl, rfl⟩

/-- Whole's answer for a sample. -/
def wholeF (x : Nat) : Int × Int :=
  if in53 x then (if FloatKind.f64.format.order (int64 ((floatToIntVal .f64 x .i64).getD 0)) x == some .eq then ((floatToIntVal .f64 x .i64).getD 0, 0) else (0, 4)) else (0, 4)
theorem wholeF_can (x : Nat) : wholeF (can64 x) = wholeF x := by
  unfold wholeF
  rw [in53_can, floatToIntVal_can]
  have e := order_can .f64 (int64 ((floatToIntVal .f64 x .i64).getD 0)) x
  rw [can_ofInt] at e
  rw [e]
end Go.Proofs.Qxb6500472a
