import Derived.Test.Qxb6500472aFloOrd
namespace Go.Proofs.Qxb6500472a
open Ieee (Format Datum double single Toward)

/-! ### rounding never reverses an order -/

/-- 'n / g' to the nearest whole number, ties to the even one. -/
def cutG (n g : Nat) : Nat := n / g + (g < 2 * (n % g) || (g == 2 * (n % g) && n / g % 2 == 1) : Bool).toNat
theorem cutG_small (n g : Nat) (h : 2 * n < g) : cutG n g = 0 := by
  unfold cutG
  rw [Nat.div_eq_of_lt (by omega), Nat.mod_eq_of_lt (by omega)]
  have h1 : decide (g < 2 * n) = false := by simp; omega
  have h2 : (g == 2 * n) = false := by simp; omega
  rw [h1, h2]; rfl
theorem cut_even (neg : Bool) (n d : Nat) : Toward.even.cut neg n d = cutG n (2 ^ d) := by
  have hn : n < 2 ^ (n.log2 + 1) := Nat.lt_log2_self
  by_cases h : d ≤ n.log2 + 2
  · unfold Toward.cut
    simp only [shl_eq, Nat.one_mul]
    rw [Nat.min_eq_left h]
    rfl
  · have e1 : Toward.even.cut neg n d = cutG n (2 ^ (n.log2 + 2)) := by
      unfold Toward.cut
      simp only [shl_eq, Nat.one_mul]
      rw [Nat.min_eq_right (by omega)]
      rfl
    have e2 : 2 ^ (n.log2 + 2) = 2 * 2 ^ (n.log2 + 1) := by rw [Nat.pow_succ]; omega
    have e3 : 2 ^ (n.log2 + 2) ≤ 2 ^ d := Nat.pow_le_pow_right (by decide) (by omega)
    rw [e1, cutG_small _ _ (by omega), cutG_small _ _ (by omega)]
theorem cutG_le (n g : Nat) : n / g ≤ cutG n g ∧ cutG n g ≤ n / g + 1 := by
  unfold cutG
  have := Bool.toNat_le (g < 2 * (n % g) || (g == 2 * (n % g) && n / g % 2 == 1))
  omega
theorem cutG_mono {n m g : Nat} (h : n ≤ m) : cutG n g ≤ cutG m g := by
  have hd : n / g ≤ m / g := Nat.div_le_div_right h
  rcases Nat.lt_or_ge (n / g) (m / g) with hl | hl
  · have := cutG_le n g; have := cutG_le m g; omega
  · have he : n / g = m / g := by omega
    have h1 := Nat.div_add_mod n g
    have h2 := Nat.div_add_mod m g
    have hr : n % g ≤ m % g := by rw [he] at h1; omega
    unfold cutG
    rw [he]
    refine Nat.add_le_add_left ?_ _
    generalize n % g = r at *
    generalize m % g = s at *
    generalize m / g = q at *
    by_cases c : g < 2 * s
    · have : decide (g < 2 * s) = true := by simpa using c
      rw [this]
      exact Bool.toNat_le _
    · have c1 : ¬ g < 2 * r := by omega
      simp only [c, c1, decide_false, Bool.false_or]
      by_cases c2 : g = 2 * r
      · have c3 : g = 2 * s := by omega
        have e1 : (g == 2 * r) = true := by simpa using c2
        have e2 : (g == 2 * s) = true := by simpa using c3
        rw [e1, e2]
        exact Nat.le_refl _
      · have e1 : (g == 2 * r) = false := by simpa using c2
        rw [e1]
        exact Nat.zero_le _
theorem cutG_scale (n g k : Nat) (hk : 0 < k) : cutG (n * k) (g * k) = cutG n g := by
  unfold cutG
  rw [Nat.mul_div_mul_right _ _ hk, Nat.mul_mod_mul_right]
  have e1 : decide (g * k < 2 * (n % g * k)) = decide (g < 2 * (n % g)) := by
    rw [← Nat.mul_assoc]
    by_cases h : g < 2 * (n % g)
    · have := Nat.mul_lt_mul_of_pos_right h hk
      simp [h, this]
    · have := Nat.mul_le_mul_right k (Nat.le_of_not_lt h)
      simp [h]; exact this
  have e2 : (g * k == 2 * (n % g * k)) = (g == 2 * (n % g)) := by
    rw [← Nat.mul_assoc]
    by_cases h : g = 2 * (n % g)
    · rw [← h]; simp
    · have h' : ¬ g * k = 2 * (n % g) * k := fun e => h (Nat.eq_of_mul_eq_mul_right hk e)
      rw [beq_false_of_ne h, beq_false_of_ne h']
  rw [e1, e2]

/-- The rung of 'N' units of '2 ^ (leastPlace - L)', infinity not heeded. -/
def rnd (f : Format) (L N : Nat) : Nat := (max (N.log2 - f.fractionBits) L - L) * f.binade + cutG N (2 ^ max (N.log2 - f.fractionBits) L)
/-- The rung. -/
def rndm (f : Format) (L N : Nat) : Nat := min (rnd f L N) f.infRung

theorem log2_mul_pow (m k : Nat) (hm : m ≠ 0) : (m * 2 ^ k).log2 = m.log2 + k := by
  rw [Nat.log2_eq_iff (Nat.ne_of_gt (Nat.mul_pos (Nat.pos_of_ne_zero hm) (pow_pos' _)))]
  have h1 := Nat.log2_self_le hm
  have h2 := @Nat.lt_log2_self m
  constructor
  · rw [Nat.pow_add]; exact Nat.mul_le_mul_right _ h1
  · rw [show m.log2 + k + 1 = (m.log2 + 1) + k from by omega, Nat.pow_add]
    exact Nat.mul_lt_mul_of_pos_right h2 (pow_pos' _)

/-- What is written is the rung of the number of units. -/
theorem nearest_rnd (f : Format) (neg : Bool) (mag : Nat) (place : Int) (L k : Nat) (h : place = f.leastPlace - L + k) : f.nearest neg mag place = f.word neg (rndm f L (mag * 2 ^ k)) := by
  unfold Format.nearest rndm rnd
  by_cases hm : mag = 0
  · subst hm
    rw [if_pos rfl, Nat.zero_mul]
    have e0 : Nat.log2 0 = 0 := by decide
    have e1 : max (Nat.log2 0 - f.fractionBits) L = L := by rw [e0]; omega
    rw [e1, Nat.sub_self, Nat.zero_mul, cutG_small 0 _ (by have := pow_pos' L; omega)]
    simp
  · rw [if_neg hm, log2_mul_pow mag k hm]
    simp only
    generalize hD : max (mag.log2 + k - f.fractionBits) L = D
    have hl : max (place + mag.log2 - f.fractionBits) f.leastPlace = f.leastPlace - L + D := by omega
    rw [hl, cut_even, shl_eq]
    have e1 : (f.leastPlace - L + D - f.leastPlace).toNat = D - L := by omega
    have e2 : (place - (f.leastPlace - L + D)).toNat = k - D := by omega
    have e3 : (f.leastPlace - L + D - place).toNat = D - k := by omega
    rw [e1, e2, e3]
    congr 3
    rcases Nat.le_total k D with hk | hk
    · have e4 : k - D = 0 := by omega
      rw [e4, Nat.pow_zero, Nat.mul_one, ← cutG_scale mag (2 ^ (D - k)) (2 ^ k) (pow_pos' _), ← Nat.pow_add]
      congr 2
      omega
    · have e4 : D - k = 0 := by omega
      rw [e4, Nat.pow_zero, ← cutG_scale _ 1 (2 ^ D) (pow_pos' _), Nat.one_mul, Nat.mul_assoc, ← Nat.pow_add]
      congr 3
      omega
theorem rnd_mono (f : Format) (L : Nat) {N M : Nat} (h : N ≤ M) : rnd f L N ≤ rnd f L M := by
  have hb : f.binade = 2 ^ f.fractionBits := rfl
  have hlog : N.log2 ≤ M.log2 := by
    by_cases h0 : N = 0
    · subst h0; rw [show Nat.log2 0 = 0 from by decide]; exact Nat.zero_le _
    · rw [Nat.le_log2 (by omega)]; exact Nat.le_trans (Nat.log2_self_le h0) h
  unfold rnd
  generalize hD : max (N.log2 - f.fractionBits) L = D
  generalize hE : max (M.log2 - f.fractionBits) L = E
  have hDE : D ≤ E := by omega
  rcases Nat.lt_or_ge D E with hl | hl
  · have h1 : E = M.log2 - f.fractionBits := by omega
    have h2 : f.fractionBits ≤ M.log2 := by omega
    have hM0 : M ≠ 0 := by
      intro e; subst e
      rw [show Nat.log2 0 = 0 from by decide] at h1; omega
    have h3 : 2 ^ M.log2 ≤ M := Nat.log2_self_le hM0
    have h4 : 2 ^ M.log2 = 2 ^ f.fractionBits * 2 ^ E := by rw [← Nat.pow_add]; congr 1; omega
    have h5 : 2 ^ f.fractionBits ≤ M / 2 ^ E := (Nat.le_div_iff_mul_le (pow_pos' _)).2 (by omega)
    have h6 : N < 2 ^ (N.log2 + 1) := Nat.lt_log2_self
    have h7 : 2 ^ (N.log2 + 1) ≤ 2 ^ (f.fractionBits + 1 + D) := Nat.pow_le_pow_right (by decide) (by omega)
    have h8 : N / 2 ^ D < 2 ^ (f.fractionBits + 1) := by
      rw [Nat.div_lt_iff_lt_mul (pow_pos' _), ← Nat.pow_add]; omega
    have h9 : 2 ^ (f.fractionBits + 1) = 2 * 2 ^ f.fractionBits := by rw [Nat.pow_succ]; omega
    have c1 := (cutG_le N (2 ^ D)).2
    have c2 := (cutG_le M (2 ^ E)).1
    have h10 : (D - L) * f.binade + f.binade ≤ (E - L) * f.binade := by
      rw [← Nat.succ_mul]; exact Nat.mul_le_mul_right _ (by omega)
    rw [hb] at h10 ⊢
    omega
  · obtain rfl : D = E := by omega
    have := @cutG_mono N M (2 ^ D) h
    omega
theorem rndm_mono (f : Format) (L : Nat) {N M : Nat} (h : N ≤ M) : rndm f L N ≤ rndm f L M := by
  have := rnd_mono f L h
  unfold rndm
  omega
theorem rndm_exact (f : Format) (L r : Nat) : rndm f L (valR f r * 2 ^ L) = min r f.infRung := by
  have h1 := nearest_rnd f false (valR f r) f.leastPlace L L (by omega)
  have h2 := nearest_min f false (valR f r) f.leastPlace r (by simp)
  rw [h1] at h2
  exact h2
theorem rndm_le (f : Format) (L N : Nat) : rndm f L N ≤ f.infRung := Nat.min_le_right _ _
theorem rndm_zero (f : Format) (L : Nat) : rndm f L 0 = 0 := by
  have := rndm_exact f L 0
  rw [show valR f 0 = 0 from by rw [valR_small f 0 (pow_pos' _)], Nat.zero_mul] at this
  rw [this]; simp
/-- What lies below a number that the format has is rounded to no more. -/
theorem rndm_le_of (f : Format) (L : Nat) {N r : Nat} (h : N ≤ valR f r * 2 ^ L) : rndm f L N ≤ r := by
  have := rndm_mono f L h
  rw [rndm_exact] at this
  omega
theorem le_rndm_of (f : Format) (L : Nat) {N r : Nat} (h : valR f r * 2 ^ L ≤ N) (hr : r ≤ f.infRung) : r ≤ rndm f L N := by
  have := rndm_mono f L h
  rw [rndm_exact] at this
  omega
end Go.Proofs.Qxb6500472a
