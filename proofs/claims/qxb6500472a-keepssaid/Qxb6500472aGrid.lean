import Derived.Test.Qxb6500472aFloOrd
import Derived.Test.Qxb6500472aBox3
namespace Go.Proofs.Qxb6500472a
open Ieee (Format Datum double single Toward)

abbrev S32 : Format := single
theorem bin32 : single.binade = 8388608 := rfl
theorem inf32 : single.infRung = 2139095040 := rfl
theorem least32 : single.leastPlace = -149 := rfl
theorem le_inf32 : single.binade ≤ single.infRung := by decide

/-- What lies between 0 and 1 is a number, not negative, of at most 2^149 units. -/
theorem partIn_fin (f : Nat) (h : partIn f = true) : fin single f ∧ 0 ≤ val single f ∧ val single f ≤ 2 ^ 149 := by
  unfold partIn ge32 le32 ord32 at h
  have hz : fin single 0 := by show _ < _; decide +kernel
  have ho : fin single one32 := by show _ < _; decide +kernel
  have vz : val single 0 = 0 := by decide +kernel
  have vo : val single one32 = 2 ^ 149 := by decide +kernel
  have hf : fin single f := by
    rcases Nat.lt_or_ge (rung single f) single.infRung with h1 | h1
    · exact h1
    · exfalso
      have hr0 : single.read 0 = .number false 0 (-149) := by decide +kernel
      have hr1 : single.read one32 = .number false 8388608 (-23) := by decide +kernel
      have h' : (single.order f 0 == some .gt || single.order f 0 == some .eq) = true ∧ (single.order f one32 == some .lt || single.order f one32 == some .eq) = true := by
        rw [Bool.and_eq_true] at h; exact h
      unfold Format.order at h'
      rw [hr0, hr1] at h'
      rcases Nat.lt_or_ge single.infRung (rung single f) with h2 | h2
      · obtain ⟨t, e⟩ := read_nan single f h2 le_inf32
        rw [e] at h'
        simp [Datum.order] at h'
      · have e := read_inf single f (by omega) le_inf32
        generalize sgn single f = s at e
        rw [e] at h'
        cases s <;> simp [Datum.order] at h'
  have h' : (single.order f 0 == some .gt || single.order f 0 == some .eq) = true ∧ (single.order f one32 == some .lt || single.order f one32 == some .eq) = true := by
    rw [Bool.and_eq_true] at h; exact h
  rw [order_fin single f 0 hf hz, order_fin single f one32 hf ho, vz, vo] at h'
  obtain ⟨h1, h2⟩ := h'
  refine ⟨hf, ?_, ?_⟩
  · rcases Int.lt_or_le (val single f) 0 with hlt | hle
    · rw [Int.compare_eq_lt.2 hlt] at h1; simp at h1
    · exact hle
  · rcases Int.lt_or_le (2 ^ 149) (val single f) with hlt | hle
    · rw [Int.compare_eq_gt.2 hlt] at h2; simp at h2
    · exact hle

/-- The rung four times as high. -/
def r4 (r : Nat) : Nat := if r < 4194304 then 4 * r else if r < 8388608 then 8388608 + 2 * r else r + 16777216
theorem valR_r4 (r : Nat) : valR single (r4 r) = 4 * valR single r := by
  unfold valR r4
  rw [bin32]
  by_cases h1 : r < 4194304
  · rw [if_pos h1, if_pos (show r < 8388608 by omega)]
    by_cases h2 : 4 * r < 8388608
    · rw [if_pos h2]
    · rw [if_neg h2]
      have e1 : 4 * r / 8388608 = 1 := by omega
      rw [e1]; omega
  · rw [if_neg h1]
    by_cases h2 : r < 8388608
    · rw [if_pos h2, if_neg (by omega), if_pos h2]
      have e1 : (8388608 + 2 * r) / 8388608 = 2 := by omega
      rw [e1]
      show (8388608 + (8388608 + 2 * r) % 8388608) * 2 = 4 * r
      omega
    · rw [if_neg h2, if_neg (by omega), if_neg h2]
      have e1 : (r + 16777216) / 8388608 - 1 = (r / 8388608 - 1) + 2 := by omega
      have e2 : (r + 16777216) % 8388608 = r % 8388608 := by omega
      rw [e1, e2, Nat.pow_add]
      generalize 2 ^ (r / 8388608 - 1) = g
      generalize 8388608 + r % 8388608 = c
      rw [← Nat.mul_assoc, Nat.mul_comm]

theorem rung_bd (r : Nat) (h : valR single r ≤ 2 ^ 149) : r ≤ 1065353216 := by
  rcases Nat.lt_or_ge 1065353216 r with hlt | hle
  · exfalso
    unfold valR at h
    rw [bin32, if_neg (by omega)] at h
    have hq : 127 ≤ r / 8388608 := by omega
    by_cases hq2 : r / 8388608 = 127
    · rw [hq2] at h
      have : 8388608 < 8388608 + r % 8388608 := by omega
      have h2 : 8388608 * 2 ^ (127 - 1) < (8388608 + r % 8388608) * 2 ^ (127 - 1) := Nat.mul_lt_mul_of_pos_right this (pow_pos' _)
      have e : 8388608 * 2 ^ (127 - 1) = 2 ^ 149 := by decide
      omega
    · have h2 : 8388608 * 2 ^ 127 ≤ (8388608 + r % 8388608) * 2 ^ (r / 8388608 - 1) := Nat.mul_le_mul (by omega) (Nat.pow_le_pow_right (by decide) (by omega))
      have e : 2 ^ 149 < 8388608 * 2 ^ 127 := by decide
      omega
  · exact hle

theorem word_parts (s : Bool) (r : Nat) (h : r < single.signWeight) : sgn single (single.word s r) = s ∧ rung single (single.word s r) = r := by
  have hw : single.signWeight = 2147483648 := rfl
  unfold sgn rung Format.word
  rw [hw] at h ⊢
  cases s
  · simp only [Bool.false_eq_true, if_false]
    have e1 : r / 2147483648 = 0 := by omega
    rw [e1]
    exact ⟨rfl, by omega⟩
  · simp only [if_true]
    have e1 : (2147483648 + r) / 2147483648 = 1 := by omega
    rw [e1]
    exact ⟨rfl, by omega⟩

theorem grid_law : GridLaw := by
  intro f h
  obtain ⟨hf, h0, h1⟩ := partIn_fin f h
  obtain ⟨m, e, er, he, hv⟩ := read_fin single f hf
  rw [least32] at he hv
  -- its magnitude
  have hN : valR single (rung single f) ≤ 2 ^ 149 := by
    unfold val at h0 h1
    split at h1
    · have : (valR single (rung single f) : Int) = 0 := by rename_i hs; rw [if_pos hs] at h0; omega
      have h3 : valR single (rung single f) = 0 := by omega
      rw [h3]; decide
    · exact_mod_cast h1
  have hs0 : sgn single f = true → valR single (rung single f) = 0 := by
    intro hs
    unfold val at h0
    rw [if_pos hs] at h0
    omega
  have hr := rung_bd _ hN
  have hr4 : r4 (rung single f) ≤ 1082130432 := by unfold r4; split; omega; split <;> omega
  -- the product
  have r4r : single.read four32 = .number false 8388608 (-21) := by decide +kernel
  have hmul : mul32 four32 f = single.word (sgn single f) (r4 (rung single f)) := by
    show (floatBits .mul .f32 four32 f).getD _ = _
    have e1 : floatBits .mul .f32 four32 f = some (single.nearest (sgn single f) (8388608 * m) (-21 + e)) := by
      show (((single.read four32).product (single.read f)).map single.write) = _
      rw [r4r, er]
      simp only [Datum.product, Option.map_some, Format.write]
      cases sgn single f <;> rfl
    rw [e1, Option.getD_some]
    refine nearest_exact single _ _ _ _ (by rw [inf32]; omega) ?_
    rw [least32, valR_r4, ← hv]
    rcases Int.le_total (-128) e with hc | hc
    · have e2 : (-149 - (-21 + e)).toNat = 0 := by omega
      have e3 : (-21 + e - -149).toNat + 21 = (e - -149).toNat := by omega
      rw [e2, ← e3, Nat.pow_add, Nat.pow_zero, Nat.mul_one]
      generalize 2 ^ (-21 + e - -149).toNat = g
      have : (2 : Nat) ^ 21 = 2097152 := rfl
      rw [this, ← Nat.mul_assoc m, Nat.mul_comm 8388608 m, Nat.mul_assoc m 8388608 g, Nat.mul_comm 8388608 g, ← Nat.mul_assoc, Nat.mul_comm 4, Nat.mul_assoc (m * g)]
    · have e2 : (-21 + e - -149).toNat = 0 := by omega
      have e3 : (e - -149).toNat + (-149 - (-21 + e)).toNat = 21 := by omega
      rw [e2, Nat.pow_zero, Nat.mul_one, Nat.mul_assoc, Nat.mul_assoc, ← Nat.pow_add, e3]
      have : (2 : Nat) ^ 21 = 2097152 := rfl
      rw [this, Nat.mul_comm m, ← Nat.mul_assoc]
  -- back to an integer
  have hw : r4 (rung single f) < single.signWeight := by show _ < 2147483648; omega
  obtain ⟨ws, wr⟩ := word_parts (sgn single f) _ hw
  have hf' : fin single (mul32 four32 f) := by unfold fin; rw [hmul, wr, inf32]; omega
  obtain ⟨m', e', er', he', hv'⟩ := read_fin single _ hf'
  rw [hmul, ws] at er'
  rw [hmul, wr, valR_r4, least32] at hv'
  rw [least32] at he'
  rw [← hmul] at er'
  have p151 : (2 : Nat) ^ 151 = 4 * 2 ^ 149 := by decide
  have hb : m' * 2 ^ (e' - -149).toNat ≤ 2 ^ 151 := by rw [hv', p151]; exact Nat.mul_le_mul_left 4 hN
  -- the cut
  obtain ⟨q, hq, hq4, hq0⟩ : ∃ q, Toward.zero.cut (sgn single f) (m' <<< e'.toNat) (-e').toNat = q ∧ q ≤ 4 ∧ (m' = 0 → q = 0) := by
    refine ⟨_, rfl, ?_, ?_⟩
    · unfold Toward.cut
      simp only [Bool.toNat, cond_false, Nat.add_zero]
      rw [shl_eq, shl_eq, Nat.one_mul]
      by_cases hm : m' = 0
      · subst hm; simp
      · have hneg : e' < 3 := by
          rcases Int.lt_or_le e' 3 with hlt | hle
          · exact hlt
          · exfalso
            have h3 : 2 ^ 152 ≤ 2 ^ (e' - -149).toNat := Nat.pow_le_pow_right (by decide) (by omega)
            have h4 : 2 ^ (e' - -149).toNat ≤ m' * 2 ^ (e' - -149).toNat := Nat.le_mul_of_pos_left _ (Nat.pos_of_ne_zero hm)
            have h5 : (2 : Nat) ^ 151 < 2 ^ 152 := by decide
            omega
        rcases Int.le_total 0 e' with hp | hp
        · have e1 : (-e').toNat = 0 := by omega
          rw [e1, Nat.zero_min, Nat.pow_zero, Nat.div_one]
          have e2 : (e' - -149).toNat = e'.toNat + 149 := by omega
          rw [e2, Nat.pow_add, ← Nat.mul_assoc] at hb
          have h6 : m' * 2 ^ e'.toNat * 2 ^ 149 ≤ 4 * 2 ^ 149 := by rw [← p151]; exact hb
          exact Nat.le_of_mul_le_mul_right h6 (by decide)
        · have e1 : e'.toNat = 0 := by omega
          rw [e1, Nat.pow_zero, Nat.mul_one]
          rcases Nat.le_total (-e').toNat (m'.log2 + 2) with hc | hc
          · rw [Nat.min_eq_left hc]
            refine Nat.div_le_of_le_mul ?_
            have e2 : (e' - -149).toNat + (-e').toNat = 149 := by omega
            have h6 : m' * 2 ^ (e' - -149).toNat ≤ (2 ^ (-e').toNat * 4) * 2 ^ (e' - -149).toNat := by
              rw [Nat.mul_assoc, Nat.mul_comm 4, ← Nat.mul_assoc, ← Nat.pow_add, Nat.add_comm, e2]
              exact hb
            exact Nat.le_of_mul_le_mul_right h6 (pow_pos' _)
          · rw [Nat.min_eq_right hc]
            have h7 : m' < 2 ^ (m'.log2 + 2) := by
              have h8 := @Nat.lt_log2_self m'
              have h9 : 2 ^ (m'.log2 + 1) ≤ 2 ^ (m'.log2 + 2) := Nat.pow_le_pow_right (by decide) (by omega)
              omega
            rw [Nat.div_eq_of_lt h7]; omega
    · intro hm
      subst hm
      rw [shl_eq, Nat.zero_mul]
      exact cut_exact _ _ _ _ 0 (by simp)
  refine ⟨q, ?_, by omega, by omega⟩
  unfold gridI floatToIntVal
  have hd : FloatKind.f32.decode (mul32 four32 f) = .number (sgn single f) m' e' := er'
  rw [hd]
  simp only [Datum.toInt, Datum.integral]
  rw [hq]
  have hsg : Ieee.signed (sgn single f) q 0 = (q : Int) := by
    unfold Ieee.signed
    rw [shl_eq, Nat.pow_zero, Nat.mul_one]
    split
    · rename_i hs
      have hm0 : m' = 0 := by
        have := hs0 hs
        rw [this] at hv'
        rcases Nat.mul_eq_zero.1 hv' with h | h
        · exact h
        · have := pow_pos' (e' - -149).toNat; omega
      rw [hq0 hm0]; rfl
    · rfl
  rw [hsg]
  rw [if_pos]
  constructor
  · show (-9223372036854775808 : Int) ≤ _; omega
  · show _ ≤ (9223372036854775807 : Int); omega
end Go.Proofs.Qxb6500472a
