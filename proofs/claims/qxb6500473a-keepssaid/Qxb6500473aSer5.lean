import Derived.Test.Qxb6500473aSer4
import Derived.Test.Qxb6500473aFloInt
import Derived.Test.Qxb6500473aText2
namespace Go.Proofs.Qxb6500473a
open Go.RowKit
open Ieee (Format Datum double)
attribute [local go_sem] run_store_float drewN_alloc drewN_setCell

theorem nan_rung (x : Nat) : isNan .f64 x = decide (9218868437227405312 < rung double x) := by
  show (double.read x).isNaN = _
  rcases Nat.lt_or_ge 9218868437227405312 (rung double x) with h1 | h1
  · obtain ⟨t, e⟩ := read_nan double x h1 le_inf64
    rw [e, decide_eq_true h1]; rfl
  · rw [decide_eq_false (by omega)]
    rcases Nat.lt_or_ge (rung double x) 9218868437227405312 with h2 | h2
    · obtain ⟨m, e, hr, _⟩ := read_fin double x h2
      rw [hr]; rfl
    · rw [read_inf double x (by rw [inf64]; omega) le_inf64]; rfl
theorem ne_self (x : Nat) : (FloatKind.f64.format.order x x != some .eq) = isNan .f64 x := by
  rw [nan_rung]
  rcases Nat.lt_or_ge 9218868437227405312 (rung double x) with h1 | h1
  · rw [order_self_nan x h1, decide_eq_true h1]
  · rw [order_self x h1, decide_eq_false (by omega)]
theorem eq_self (x : Nat) (h : isNan .f64 x = false) : (FloatKind.f64.format.order x x == some .eq) = true := by
  have := ne_self x
  rw [h] at this
  simpa [bne] using this
theorem inv_some (x : Nat) (h : isNan .f64 x = false) : ∃ r, floatBits .quo .f64 4607182418800017408 x = some r ∧ isNan .f64 r = false := by
  have hs : ∃ r, floatBits .quo .f64 4607182418800017408 x = some r := by
    have hw : floatBits .quo .f64 4607182418800017408 x = ((double.read 4607182418800017408).quotient 54 (double.read x)).map double.write := rfl
    rw [hw, read_one]
    have hx : (double.read x).isNaN = false := h
    cases e : double.read x with
    | nan s t => rw [e] at hx; cases hx
    | infinity s => exact ⟨_, rfl⟩
    | number s m i =>
      simp only [Datum.quotient]
      by_cases hm : m = 0
      · rw [if_pos hm, if_neg (by decide)]; exact ⟨_, rfl⟩
      · rw [if_neg hm]; exact ⟨_, rfl⟩
  obtain ⟨r, hr⟩ := hs
  exact ⟨r, hr, floatBits_num hr⟩

set_option maxHeartbeats 1000000 in
theorem same_true (a b : Nat) (h : can64 a = can64 b) (w : World) :
    Calls Try.prog 39 #[D64 a, D64 b] w fun e w' => e = .returned (.bool true) ∧ w' = w := by
  have na := ne_self a
  have nb := ne_self b
  rcases can_eq_iff h with rfl | ⟨h1, h2⟩
  · cases hn : isNan .f64 a with
    | true =>
      rw [hn] at na
      go_enter Try.func39, Try.ntmps39
      go_wp2
      go_ret
      exact ⟨rfl, rfl⟩
    | false =>
      rw [hn] at na
      have ea := eq_self a hn
      obtain ⟨r, hr, hrn⟩ := inv_some a hn
      have q := fun W => run_float_arith (P := Try.prog) W .quo 44 .f64 _ _ _ hr
      have er := eq_self r hrn
      clear hr
      go_enter Try.func39, Try.ntmps39
      go_wp2
      go_ret
      exact ⟨rfl, rfl⟩
  · rw [h1] at na
    rw [h2] at nb
    clear h1 h2 h
    go_enter Try.func39, Try.ntmps39
    go_wp2
    go_ret
    exact ⟨rfl, rfl⟩

set_option maxHeartbeats 1000000 in
theorem at_in (w : World) (p bl : Nat) (lv : List Lvl) (n i : Nat) (h : SerR w p bl lv n) (hi : i < n) :
    Calls Try.prog 22 #[ptr p, I i] w fun e w' => e = .returned (.tuple #[D64 (lvAt lv i).x, I 0]) ∧ ∃ m, w' = w.drewN m := by
  obtain ⟨ch0, ch1, fh, fb⟩ := h.at0
  have hn := h.le
  obtain ⟨r0, r1, r2, r3⟩ := h.row i (by omega)
  have hlt : (i : Int) < 8 := by omega
  have hlt2 : ¬ (n : Int) ≤ (i : Int) := by omega
  go_enter Try.func22, Try.ntmps22
  go_wp2
  go_ret2
  exact ⟨rfl, 0, rfl⟩
set_option maxHeartbeats 1000000 in
theorem at_out (w : World) (p bl : Nat) (lv : List Lvl) (n : Nat) (i : Int) (h : SerR w p bl lv n) (hi : i < 0 ∨ (n : Int) ≤ i) :
    Calls Try.prog 22 #[ptr p, I i] w fun e w' => e = .returned (.tuple #[D64 0, I 3]) ∧ ∃ m, w' = w.drewN m := by
  obtain ⟨ch0, ch1, fh, fb⟩ := h.at0
  by_cases h0 : i < 0
  · go_enter Try.func22, Try.ntmps22
    go_wp2
    go_ret2
    exact ⟨rfl, 0, rfl⟩
  · have h1 : (n : Int) ≤ i := by omega
    go_enter Try.func22, Try.ntmps22
    go_wp2
    go_ret2
    exact ⟨rfl, 0, rfl⟩
/-- Whole's answer for a sample. -/
def wholeF (x : Nat) : Int × Int :=
  if in53 x then (if FloatKind.f64.format.order (int64 ((floatToIntVal .f64 x .i64).getD 0)) x == some .eq then ((floatToIntVal .f64 x .i64).getD 0, 0) else (0, 4)) else (0, 4)
theorem wholeF_can (x : Nat) : wholeF (can64 x) = wholeF x := by
  unfold wholeF
  rw [in53_can, floatToIntVal_can]
  have e := order_can .f64 (int64 ((floatToIntVal .f64 x .i64).getD 0)) x
  rw [can_ofInt] at e
  rw [e]
set_option maxHeartbeats 1000000 in
theorem whole_key (w : World) (p bl : Nat) (lv : List Lvl) (n i : Nat) (h : SerR w p bl lv n) (hi : i < n) (K E : Int) (HK : Hid (wholeF (lvAt lv i).x = (K, E))) :
    Calls Try.prog 24 #[ptr p, I i] w fun e w' => e = .returned (.tuple #[I K, I E]) ∧ ∃ m, w' = w.drewN m := by
  go_enter Try.func24, Try.ntmps24
  go_wp2_with fail
  refine (at_in w p bl lv n i h hi).mono ?_
  rintro e w1 ⟨rfl, m, rfl⟩
  generalize (lvAt lv i).x = x at *
  have HE := HK.out
  clear HK
  unfold wholeF at HE
  cases h53 : in53 x with
  | false =>
    rw [h53] at HE
    simp only [Bool.false_eq_true, if_false, Prod.mk.injEq] at HE
    obtain ⟨rfl, rfl⟩ := HE
    unfold in53 at h53
    cases hA : (FloatKind.f64.format.order x 14069245235905429504 == some .gt || FloatKind.f64.format.order x 14069245235905429504 == some .eq) with
    | false =>
      clear h53
      go_wp2
      go_ret2
      exact ⟨rfl, m, rfl⟩
    | true =>
      rw [hA, Bool.true_and] at h53
      go_wp2
      go_ret2
      exact ⟨rfl, m, rfl⟩
  | true =>
    rw [h53] at HE
    obtain ⟨k, hk, k1, k2⟩ := int53_some x h53
    rw [hk] at HE
    simp only [if_true, Option.getD_some] at HE
    have hcv := fun V => run_convert_float_int (P := Try.prog) V 44 3 .f64 .i64 x k (by rw [Try.underlying44]; rfl) Try.underlying3 hk
    unfold in53 at h53
    rw [Bool.and_eq_true] at h53
    obtain ⟨hA, hB⟩ := h53
    clear hk
    cases hq : (FloatKind.f64.format.order (int64 k) x == some .eq) with
    | true =>
      rw [hq] at HE
      simp only [if_true, Prod.mk.injEq] at HE
      obtain ⟨rfl, rfl⟩ := HE
      go_wp2
      go_ret2
      exact ⟨rfl, m, rfl⟩
    | false =>
      rw [hq] at HE
      simp only [Bool.false_eq_true, if_false, Prod.mk.injEq] at HE
      obtain ⟨rfl, rfl⟩ := HE
      go_wp2
      go_ret2
      exact ⟨rfl, m, rfl⟩
theorem whole_in (w : World) (p bl : Nat) (lv : List Lvl) (n i : Nat) (h : SerR w p bl lv n) (hi : i < n) :
    Calls Try.prog 24 #[ptr p, I i] w fun e w' => e = .returned (.tuple #[I (wholeF (lvAt lv i).x).1, I (wholeF (lvAt lv i).x).2]) ∧ ∃ m, w' = w.drewN m := whole_key w p bl lv n i h hi _ _ rfl
set_option maxHeartbeats 1000000 in
theorem whole_out (w : World) (p bl : Nat) (lv : List Lvl) (n : Nat) (i : Int) (h : SerR w p bl lv n) (hi : i < 0 ∨ (n : Int) ≤ i) :
    Calls Try.prog 24 #[ptr p, I i] w fun e w' => e = .returned (.tuple #[I 0, I 3]) ∧ ∃ m, w' = w.drewN m := by
  go_enter Try.func24, Try.ntmps24
  go_wp2_with fail
  refine (at_out w p bl lv n i h hi).mono ?_
  rintro e w1 ⟨rfl, m, rfl⟩
  go_wp2
  go_ret2
  exact ⟨rfl, m, rfl⟩
end Go.Proofs.Qxb6500473a
