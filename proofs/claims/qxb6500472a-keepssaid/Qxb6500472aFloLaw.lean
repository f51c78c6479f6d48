import Derived.Test.Qxb6500472aFlo
namespace Go.Proofs.Qxb6500472a
open Ieee (Format Datum double single Toward)

/-! ### numbers in units of the least place -/

/-- The magnitude that a rung stands for, in units of '2 ^ leastPlace'. -/
def valR (f : Format) (r : Nat) : Nat := if r < f.binade then r else (f.binade + r % f.binade) * 2 ^ (r / f.binade - 1)

theorem pow_pos' (n : Nat) : 0 < 2 ^ n := Nat.pow_pos (by decide)
theorem shl_eq (m k : Nat) : m <<< k = m * 2 ^ k := Nat.shiftLeft_eq m k

/-- Nothing is left over. -/
theorem cut_exact (way : Toward) (neg : Bool) (n drop q : Nat) (h : n = q * 2 ^ drop) : way.cut neg n drop = q := by
  subst h
  by_cases hq : q = 0
  · subst hq
    unfold Toward.cut
    simp only [Nat.zero_mul, shl_eq, Nat.one_mul, Nat.zero_div, Nat.zero_mod, Nat.zero_add]
    have hp : 0 < 2 ^ min drop (Nat.log2 0 + 2) := pow_pos' _
    cases way <;> simp [Bool.toNat] <;> omega
  · have hpos : 0 < q * 2 ^ drop := Nat.mul_pos (Nat.pos_of_ne_zero hq) (pow_pos' _)
    have hle : drop ≤ (q * 2 ^ drop).log2 := by
      rw [Nat.le_log2 (by omega)]
      exact Nat.le_mul_of_pos_left _ (Nat.pos_of_ne_zero hq)
    unfold Toward.cut
    have hm : min drop ((q * 2 ^ drop).log2 + 2) = drop := by omega
    simp only [hm, shl_eq, Nat.one_mul]
    have hd : (q * 2 ^ drop) / 2 ^ drop = q := Nat.mul_div_cancel _ (pow_pos' _)
    have hr : (q * 2 ^ drop) % 2 ^ drop = 0 := Nat.mul_mod_left _ _
    rw [hd, hr]
    have hp : (2 ^ drop == 0) = false := by have := pow_pos' drop; simp
    have hlt : ¬ 2 ^ drop < 2 * 0 := by omega
    cases way <;> simp [Bool.toNat, hp]

theorem valR_log2 (f : Format) (r : Nat) (h : f.binade ≤ r) : (valR f r).log2 = f.fractionBits + (r / f.binade - 1) ∧ 0 < valR f r := by
  have hB : 0 < f.binade := pow_pos' _
  unfold valR
  rw [if_neg (by omega)]
  have hmod : r % f.binade < f.binade := Nat.mod_lt _ hB
  have hpos : 0 < (f.binade + r % f.binade) * 2 ^ (r / f.binade - 1) := Nat.mul_pos (by omega) (pow_pos' _)
  refine ⟨?_, hpos⟩
  have hb : f.binade = 2 ^ f.fractionBits := rfl
  rw [Nat.log2_eq_iff (by omega)]
  constructor
  · rw [Nat.pow_add, ← hb]
    exact Nat.mul_le_mul_right _ (by omega)
  · have : 2 ^ (f.fractionBits + (r / f.binade - 1) + 1) = (f.binade + f.binade) * 2 ^ (r / f.binade - 1) := by
      rw [Nat.pow_succ, Nat.pow_add, ← hb, Nat.mul_assoc, Nat.mul_comm (2 ^ _) 2, ← Nat.mul_assoc, Nat.mul_two]
    rw [this]
    exact Nat.mul_lt_mul_of_pos_right (by omega) (pow_pos' _)
theorem valR_small (f : Format) (r : Nat) (h : r < f.binade) : valR f r = r := by unfold valR; rw [if_pos h]

/-- A number that the format has is written as it is. -/
theorem nearest_min (f : Format) (neg : Bool) (mag : Nat) (place : Int) (r : Nat)
    (h : mag * 2 ^ (place - f.leastPlace).toNat = valR f r * 2 ^ (f.leastPlace - place).toNat) : f.nearest neg mag place = f.word neg (min r f.infRung) := by
  have hB : 0 < f.binade := pow_pos' _
  have hb : f.binade = 2 ^ f.fractionBits := rfl
  unfold Format.nearest
  by_cases hm : mag = 0
  · rw [if_pos hm]
    subst hm
    rw [Nat.zero_mul] at h
    have hv : valR f r = 0 := by
      rcases Nat.mul_eq_zero.1 h.symm with h | h
      · exact h
      · have := pow_pos' (f.leastPlace - place).toNat; omega
    by_cases hrb : r < f.binade
    · rw [valR_small f r hrb] at hv; rw [hv, Nat.zero_min]
    · have := (valR_log2 f r (by omega)).2; omega
  · rw [if_neg hm]
    -- the number of digits
    have hlogm : ∀ k, (mag * 2 ^ k).log2 = mag.log2 + k := by
      intro k
      rw [Nat.log2_eq_iff (Nat.ne_of_gt (Nat.mul_pos (Nat.pos_of_ne_zero hm) (pow_pos' _)))]
      have h1 := Nat.log2_self_le hm
      have h2 := @Nat.lt_log2_self mag
      constructor
      · rw [Nat.pow_add]; exact Nat.mul_le_mul_right _ h1
      · rw [show mag.log2 + k + 1 = (mag.log2 + 1) + k from by omega, Nat.pow_add]
        exact Nat.mul_lt_mul_of_pos_right h2 (pow_pos' _)
    have hvpos : 0 < valR f r := by
      rcases Nat.eq_zero_or_pos (valR f r) with h0 | h0
      · rw [h0, Nat.zero_mul] at h
        have := Nat.mul_pos (Nat.pos_of_ne_zero hm) (pow_pos' (place - f.leastPlace).toNat)
        omega
      · exact h0
    have hlogv : ∀ k, (valR f r * 2 ^ k).log2 = (valR f r).log2 + k := by
      intro k
      have hv0 : valR f r ≠ 0 := by omega
      rw [Nat.log2_eq_iff (Nat.ne_of_gt (Nat.mul_pos hvpos (pow_pos' _)))]
      have h1 := Nat.log2_self_le hv0
      have h2 := @Nat.lt_log2_self (valR f r)
      constructor
      · rw [Nat.pow_add]; exact Nat.mul_le_mul_right _ h1
      · rw [show (valR f r).log2 + k + 1 = ((valR f r).log2 + 1) + k from by omega, Nat.pow_add]
        exact Nat.mul_lt_mul_of_pos_right h2 (pow_pos' _)
    have hl := congrArg Nat.log2 h
    rw [hlogm, hlogv] at hl
    -- where the last digit lies, in units
    have hlast : ∀ q : Nat, (valR f r).log2 - f.fractionBits = q → max (place + mag.log2 - f.fractionBits) f.leastPlace = f.leastPlace + q := by
      intro q hq; omega
    -- what is kept
    have key : ∀ q s : Nat, valR f r = s * 2 ^ q → max (place + mag.log2 - f.fractionBits) f.leastPlace = f.leastPlace + q →
        Toward.even.cut neg (mag <<< (place - (f.leastPlace + q)).toNat) ((f.leastPlace + q) - place).toNat = s := by
      intro q s hs _
      refine cut_exact _ _ _ _ _ ?_
      rw [shl_eq]
      rw [hs] at h
      -- mag * 2^(place - least) = s * 2^q * 2^(least - place)
      rcases Int.le_total f.leastPlace place with hp | hp
      · have e1 : (f.leastPlace - place).toNat = 0 := by omega
        rw [e1, Nat.pow_zero, Nat.mul_one] at h
        rcases Nat.le_total q (place - f.leastPlace).toNat with hq | hq
        · have e2 : (f.leastPlace + q - place).toNat = 0 := by omega
          have e3 : (place - (f.leastPlace + q)).toNat = (place - f.leastPlace).toNat - q := by omega
          rw [e2, e3, Nat.pow_zero, Nat.mul_one]
          have e4 : 2 ^ (place - f.leastPlace).toNat = 2 ^ ((place - f.leastPlace).toNat - q) * 2 ^ q := by rw [← Nat.pow_add]; congr 1; omega
          rw [e4, ← Nat.mul_assoc] at h
          exact Nat.eq_of_mul_eq_mul_right (pow_pos' q) h
        · have e2 : (place - (f.leastPlace + q)).toNat = 0 := by omega
          have e3 : (f.leastPlace + q - place).toNat = q - (place - f.leastPlace).toNat := by omega
          rw [e2, e3, Nat.pow_zero, Nat.mul_one]
          have e4 : 2 ^ q = 2 ^ (q - (place - f.leastPlace).toNat) * 2 ^ (place - f.leastPlace).toNat := by rw [← Nat.pow_add]; congr 1; omega
          rw [e4, ← Nat.mul_assoc] at h
          exact Nat.eq_of_mul_eq_mul_right (pow_pos' _) h
      · have e1 : (place - f.leastPlace).toNat = 0 := by omega
        have e2 : (place - (f.leastPlace + q)).toNat = 0 := by omega
        have e3 : (f.leastPlace + q - place).toNat = q + (f.leastPlace - place).toNat := by omega
        rw [e1, Nat.pow_zero, Nat.mul_one] at h
        rw [e2, e3, Nat.pow_zero, Nat.mul_one, Nat.pow_add, ← Nat.mul_assoc]
        exact h
    by_cases hrb : r < f.binade
    · have hv := valR_small f r hrb
      have hlog : (valR f r).log2 - f.fractionBits = 0 := by
        have hlt : (valR f r).log2 < f.fractionBits := by
          rw [Nat.log2_lt (by omega), ← hb, hv]; exact hrb
        exact Nat.sub_eq_zero_of_le (Nat.le_of_lt hlt)
      have hL := hlast 0 hlog
      have hk := key 0 r (by rw [hv]; simp) hL
      simp only [hL]
      rw [hk]
      have e0 : (f.leastPlace + ((0 : Nat) : Int) - f.leastPlace).toNat = 0 := by omega
      rw [e0, Nat.zero_mul, Nat.zero_add]
    · obtain ⟨hlog, _⟩ := valR_log2 f r (by omega)
      have hL := hlast (r / f.binade - 1) (by omega)
      have hv : valR f r = (f.binade + r % f.binade) * 2 ^ (r / f.binade - 1) := by unfold valR; rw [if_neg hrb]
      have hk := key _ _ hv hL
      simp only [hL]
      rw [hk]
      have e0 : (f.leastPlace + ((r / f.binade - 1 : Nat) : Int) - f.leastPlace).toNat = r / f.binade - 1 := by omega
      have hq : 1 ≤ r / f.binade := (Nat.one_le_div_iff hB).2 (by omega)
      have e1 : (r / f.binade - 1) * f.binade + (f.binade + r % f.binade) = r := by
        have := Nat.div_add_mod r f.binade
        have e2 : (r / f.binade - 1) * f.binade + f.binade = f.binade * (r / f.binade) := by
          rw [← Nat.succ_mul, Nat.mul_comm]; congr 1; omega
        omega
      rw [e0, e1]
theorem nearest_exact (f : Format) (neg : Bool) (mag : Nat) (place : Int) (r : Nat) (hr : r ≤ f.infRung)
    (h : mag * 2 ^ (place - f.leastPlace).toNat = valR f r * 2 ^ (f.leastPlace - place).toNat) : f.nearest neg mag place = f.word neg r := by
  rw [nearest_min f neg mag place r h, Nat.min_eq_left hr]

/-- The same, with whatever common scale. -/
theorem nearest_units (f : Format) (neg : Bool) (mag : Nat) (place : Int) (r a b : Nat) (hab : (a : Int) - b = place - f.leastPlace) (h : mag * 2 ^ a = valR f r * 2 ^ b) : f.nearest neg mag place = f.word neg (min r f.infRung) := by
  refine nearest_min f neg mag place r ?_
  rcases Int.le_total f.leastPlace place with hp | hp
  · have e1 : (f.leastPlace - place).toNat = 0 := by omega
    have e2 : a = (place - f.leastPlace).toNat + b := by omega
    rw [e2, Nat.pow_add, ← Nat.mul_assoc] at h
    rw [e1, Nat.pow_zero, Nat.mul_one]
    exact Nat.eq_of_mul_eq_mul_right (pow_pos' b) h
  · have e1 : (place - f.leastPlace).toNat = 0 := by omega
    have e2 : b = (f.leastPlace - place).toNat + a := by omega
    rw [e2, Nat.pow_add, ← Nat.mul_assoc] at h
    rw [e1, Nat.pow_zero, Nat.mul_one]
    exact Nat.eq_of_mul_eq_mul_right (pow_pos' a) h
theorem write_number (f : Format) (s : Bool) (m : Nat) (e : Int) : f.write (.number s m e) = f.nearest s m e := rfl

/-- A higher rung is a greater number. -/
theorem valR_lt (f : Format) {r s : Nat} (h : r < s) : valR f r < valR f s := by
  have hB : 0 < f.binade := pow_pos' _
  by_cases h1 : s < f.binade
  · rw [valR_small f s h1, valR_small f r (by omega)]; exact h
  · have hs : valR f s = (f.binade + s % f.binade) * 2 ^ (s / f.binade - 1) := by unfold valR; rw [if_neg h1]
    have hs1 : f.binade ≤ valR f s := by
      rw [hs]
      exact Nat.le_trans (Nat.le_add_right _ _) (Nat.le_mul_of_pos_right _ (pow_pos' _))
    by_cases h2 : r < f.binade
    · rw [valR_small f r h2]; omega
    · have hr : valR f r = (f.binade + r % f.binade) * 2 ^ (r / f.binade - 1) := by unfold valR; rw [if_neg h2]
      have hq : r / f.binade ≤ s / f.binade := Nat.div_le_div_right (Nat.le_of_lt h)
      have hr1 : 1 ≤ r / f.binade := (Nat.one_le_div_iff hB).2 (by omega)
      have hmr : r % f.binade < f.binade := Nat.mod_lt _ hB
      rw [hr, hs]
      by_cases h3 : r / f.binade = s / f.binade
      · rw [h3]
        refine Nat.mul_lt_mul_of_pos_right ?_ (pow_pos' _)
        have e1 := Nat.div_add_mod r f.binade
        have e2 := Nat.div_add_mod s f.binade
        rw [h3] at e1
        omega
      · have h4 : (f.binade + r % f.binade) * 2 ^ (r / f.binade - 1) < (f.binade + f.binade) * 2 ^ (r / f.binade - 1) := Nat.mul_lt_mul_of_pos_right (by omega) (pow_pos' _)
        have h5 : (f.binade + f.binade) * 2 ^ (r / f.binade - 1) = f.binade * 2 ^ (r / f.binade) := by
          have e3 : 2 ^ (r / f.binade) = 2 * 2 ^ (r / f.binade - 1) := by
            rw [← Nat.pow_succ']; congr 1; omega
          rw [e3, ← Nat.mul_assoc, Nat.mul_two]
        have h6 : f.binade * 2 ^ (r / f.binade) ≤ (f.binade + s % f.binade) * 2 ^ (s / f.binade - 1) := Nat.mul_le_mul (by omega) (Nat.pow_le_pow_right (by decide) (by omega))
        omega
theorem valR_inj (f : Format) {r s : Nat} (h : valR f r = valR f s) : r = s := by
  rcases Nat.lt_trichotomy r s with h1 | h1 | h1
  · have := valR_lt f h1; omega
  · exact h1
  · have := valR_lt f h1; omega
/-- The rung twice as high. -/
def dbl (f : Format) (r : Nat) : Nat := if r < f.binade then 2 * r else r + f.binade
theorem valR_dbl (f : Format) (r : Nat) : valR f (dbl f r) = 2 * valR f r := by
  have hB : 0 < f.binade := pow_pos' _
  unfold dbl
  by_cases h : r < f.binade
  · rw [if_pos h, valR_small f r h]
    by_cases h2 : 2 * r < f.binade
    · rw [valR_small f _ h2]
    · unfold valR
      rw [if_neg h2]
      have e1 : 2 * r / f.binade = 1 := Nat.div_eq_of_lt_le (by omega) (by omega)
      have e2 := Nat.div_add_mod (2 * r) f.binade
      rw [e1] at e2 ⊢
      simp only [Nat.sub_self, Nat.pow_zero, Nat.mul_one] at *
      exact e2
  · rw [if_neg h]
    unfold valR
    rw [if_neg (by omega), if_neg h]
    have e1 : (r + f.binade) / f.binade = r / f.binade + 1 := Nat.add_div_right r hB
    have e2 : (r + f.binade) % f.binade = r % f.binade := Nat.add_mod_right r f.binade
    have h1 : 1 ≤ r / f.binade := (Nat.one_le_div_iff hB).2 (by omega)
    rw [e1, e2]
    have e3 : 2 ^ (r / f.binade + 1 - 1) = 2 * 2 ^ (r / f.binade - 1) := by rw [← Nat.pow_succ']; congr 1; omega
    rw [e3, Nat.mul_left_comm]
end Go.Proofs.Qxb6500472a
