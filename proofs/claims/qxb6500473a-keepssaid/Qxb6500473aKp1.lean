import Derived.Test.Qxb6500473aFloK4
import Derived.Test.Qxb6500473aLaw5
namespace Go.Proofs.Qxb6500473a
open Go.RowKit
open Ieee (Format Datum double single Toward)
attribute [local go_sem] run_store_float drewN_alloc drewN_setCell run_neg_float

/-! ### Same -/
theorem key_eq (a b : Nat) (h : ¬ (rung double a = 0 ∧ rung double b = 0)) : key a = key b ↔ sgn double a = sgn double b ∧ rung double a = rung double b := by
  unfold key
  cases sgn double a <;> cases sgn double b <;> simp <;> omega
theorem eq_key (a b : Nat) (ha : rung double a ≤ 9218868437227405312) (hb : rung double b ≤ 9218868437227405312) : (FloatKind.f64.format.order a b == some .eq) = decide (key a = key b) := by
  rw [order_key a b ha hb]
  rcases Int.lt_trichotomy (key a) (key b) with c | c | c
  · rw [Int.compare_eq_lt.2 c, decide_eq_false (by omega)]; rfl
  · rw [Int.compare_eq_eq.2 c, decide_eq_true c]; rfl
  · rw [Int.compare_eq_gt.2 c, decide_eq_false (by omega)]; rfl
theorem key_zero (a : Nat) : key a = 0 ↔ rung double a = 0 := by unfold key; split <;> omega
theorem eq_zero (a : Nat) (ha : rung double a ≤ 9218868437227405312) : (FloatKind.f64.format.order a 0 == some .eq) = decide (rung double a = 0) := by
  rw [eq_key a 0 ha (by decide +kernel)]
  have : key 0 = 0 := by decide +kernel
  rw [this]
  exact decide_eq_decide.2 (key_zero a)
theorem inv_zero (a : Nat) (h : rung double a = 0) : floatBits .quo .f64 4607182418800017408 a = some (double.word (sgn double a) 9218868437227405312) := by
  have hw : floatBits .quo .f64 4607182418800017408 a = ((double.read 4607182418800017408).quotient 54 (double.read a)).map double.write := rfl
  have hf : fin double a := by unfold fin; rw [h, inf64]; decide
  obtain ⟨m, e, hr, he, hv⟩ := read_fin double a hf
  rw [h, valR_zero] at hv
  have hm : m = 0 := by
    rcases Nat.eq_zero_or_pos m with h0 | h0
    · exact h0
    · have := Nat.mul_pos h0 (pow_pos' (e - double.leastPlace).toNat); omega
  subst hm
  rw [hw, read_one, hr]
  simp only [Datum.quotient]
  rw [if_pos trivial, if_neg (by decide)]
  cases sgn double a <;> rfl
theorem same_inf (s t : Bool) : (FloatKind.f64.format.order (double.word s 9218868437227405312) (double.word t 9218868437227405312) == some .eq) = (s == t) := by
  cases s <;> cases t <;> decide +kernel

set_option maxHeartbeats 1000000 in
theorem lawSame_any (a b : Nat) (w : World) :
    Calls Try.prog 31 #[D64 a, D64 b] w fun e w' => ∃ r : Bool, e = .returned (.bool r) ∧ (r = true ↔ sameP a b) ∧ w' = w := by
  have na := ne_self a
  have nb := ne_self b
  have ra := nan_rung a
  have rb := nan_rung b
  cases hna : isNan .f64 a with
  | true =>
    rw [hna] at na ra
    have ra' : 9218868437227405312 < rung double a := by simpa using ra.symm
    cases hnb : isNan .f64 b with
    | true =>
      rw [hnb] at nb rb
      have rb' : 9218868437227405312 < rung double b := by simpa using rb.symm
      clear ra rb hna hnb
      have HS : sameP a b := .inl ⟨ra', rb'⟩
      clear ra' rb'
      go_enter Try.func31, Try.ntmps31
      go_wp2
      go_ret
      exact ⟨true, rfl, by simp [HS], rfl⟩
    | false =>
      rw [hnb] at nb rb
      have rb' : rung double b ≤ 9218868437227405312 := by have : ¬ 9218868437227405312 < rung double b := by simpa using rb.symm
                                                           omega
      clear ra rb hna hnb
      have HS : ¬ sameP a b := by rintro (⟨h1, h2⟩ | ⟨h1, h2, -⟩) <;> omega
      clear ra' rb'
      go_enter Try.func31, Try.ntmps31
      go_wp2
      go_ret
      exact ⟨false, rfl, by simp [HS], rfl⟩
  | false =>
    rw [hna] at na ra
    have ra' : rung double a ≤ 9218868437227405312 := by have : ¬ 9218868437227405312 < rung double a := by simpa using ra.symm
                                                         omega
    cases hnb : isNan .f64 b with
    | true =>
      rw [hnb] at nb rb
      have rb' : 9218868437227405312 < rung double b := by simpa using rb.symm
      clear ra rb hna hnb
      have HS : ¬ sameP a b := by rintro (⟨h1, h2⟩ | ⟨h1, h2, -⟩) <;> omega
      clear ra' rb'
      go_enter Try.func31, Try.ntmps31
      go_wp2
      go_ret
      exact ⟨false, rfl, by simp [HS], rfl⟩
    | false =>
      rw [hnb] at nb rb
      have rb' : rung double b ≤ 9218868437227405312 := by have : ¬ 9218868437227405312 < rung double b := by simpa using rb.symm
                                                           omega
      clear ra rb hna hnb
      have za := eq_zero a ra'
      have zb := eq_zero b rb'
      have e0 := eq_key a b ra' rb'
      by_cases ha : rung double a = 0
      · rw [decide_eq_true ha] at za
        by_cases hb : rung double b = 0
        · rw [decide_eq_true hb] at zb
          have q1 := fun W => run_float_arith (P := Try.prog) W .quo 44 .f64 _ _ _ (inv_zero a ha)
          have q2 := fun W => run_float_arith (P := Try.prog) W .quo 44 .f64 _ _ _ (inv_zero b hb)
          have q3 := same_inf (sgn double a) (sgn double b)
          have HS : (sgn double a == sgn double b) = true ↔ sameP a b := by
            unfold sameP
            rw [beq_iff_eq]
            constructor
            · intro h; exact .inr ⟨ra', rb', h, by omega⟩
            · rintro (⟨h1, h2⟩ | ⟨h1, h2, h3, h4⟩)
              · omega
              · exact h3
          generalize (sgn double a == sgn double b) = r at *
          generalize double.word (sgn double a) 9218868437227405312 = A at *
          generalize double.word (sgn double b) 9218868437227405312 = B at *
          clear e0 ra' rb' ha hb
          go_enter Try.func31, Try.ntmps31
          go_wp2
          go_ret
          exact ⟨r, rfl, HS, rfl⟩
        · rw [decide_eq_false hb] at zb
          have HS : decide (key a = key b) = true ↔ sameP a b := by
            rw [decide_eq_true_iff, key_eq a b (by omega)]
            unfold sameP
            constructor
            · rintro ⟨h1, h2⟩; exact .inr ⟨ra', rb', h1, h2⟩
            · rintro (⟨h1, h2⟩ | ⟨h1, h2, h3, h4⟩)
              · omega
              · exact ⟨h3, h4⟩
          generalize decide (key a = key b) = r at *
          clear ra' rb' ha hb
          go_enter Try.func31, Try.ntmps31
          go_wp2
          go_ret
          exact ⟨r, rfl, HS, rfl⟩
      · rw [decide_eq_false ha] at za
        have HS : decide (key a = key b) = true ↔ sameP a b := by
          rw [decide_eq_true_iff, key_eq a b (by omega)]
          unfold sameP
          constructor
          · rintro ⟨h1, h2⟩; exact .inr ⟨ra', rb', h1, h2⟩
          · rintro (⟨h1, h2⟩ | ⟨h1, h2, h3, h4⟩)
            · omega
            · exact ⟨h3, h4⟩
        generalize decide (key a = key b) = r at *
        clear zb ra' rb' ha
        go_enter Try.func31, Try.ntmps31
        go_wp2
        go_ret
        exact ⟨r, rfl, HS, rfl⟩

/-! ### Texts -/
theorem tx_one : str (text64 4607182418800017408) = ⟨#[43, 52, 53, 48, 51, 53, 57, 57, 54, 50, 55, 51, 55, 48, 52, 57, 54, 112, 45, 53, 50]⟩ := by decide +kernel
theorem tx_zero : str (text64 0) = ⟨#[43, 48]⟩ := by decide +kernel
theorem tx_minus : str (text64 (Op.negFloat .f64 0)) = ⟨#[45, 48]⟩ := by decide +kernel
theorem tx_up {x : Nat} (h : can64 x = quo64 4607182418800017408 0) : str (text64 x) = ⟨#[43, 73, 110, 102]⟩ := by rw [← text_can, show can .f64 x = _ from h]; decide +kernel
theorem tx_down {x : Nat} (h : can64 x = quo64 13830554455654793216 0) : str (text64 x) = ⟨#[45, 73, 110, 102]⟩ := by rw [← text_can, show can .f64 x = _ from h]; decide +kernel
theorem tx_none {x : Nat} (h : can64 x = quo64 0 0) : str (text64 x) = ⟨#[78, 97, 78]⟩ := by rw [← text_can, show can .f64 x = _ from h]; decide +kernel
end Go.Proofs.Qxb6500473a
