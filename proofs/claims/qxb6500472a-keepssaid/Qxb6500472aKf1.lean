import Derived.Test.Qxb6500472aFloG
import Derived.Test.Qxb6500472aBx1
namespace Go.Proofs.Qxb6500472a
open Ieee (Format Datum double single Toward)
theorem wordS (s : Bool) (r : Nat) (h : r < 2147483648) : sgn single (single.word s r) = s ∧ rung single (single.word s r) = r := by
  have e : single.signWeight = 2147483648 := rfl
  unfold sgn rung Format.word
  rw [e]
  cases s
  · simp only [Bool.false_eq_true, if_false]
    exact ⟨by rw [Nat.div_eq_of_lt h]; rfl, Nat.mod_eq_of_lt h⟩
  · simp only [if_true]
    exact ⟨by rw [show (2147483648 + r) / 2147483648 = 1 from by omega]; rfl, by omega⟩
theorem scale0 (a : Int) (k : Nat) : a * 2 ^ k = 0 ↔ a = 0 := by
  have h2 : (2 : Int) ^ k ≠ 0 := by have : (0 : Int) < 2 ^ k := Int.pow_pos (by decide); omega
  rw [Int.mul_eq_zero]; simp [h2]
theorem scaleN (a : Int) (k : Nat) : a * 2 ^ k < 0 ↔ a < 0 := by
  have hp : (0 : Int) < 2 ^ k := Int.pow_pos (by decide)
  constructor
  · intro h
    rcases Int.lt_or_le a 0 with g | g
    · exact g
    · have := Int.mul_nonneg g (Int.le_of_lt hp); omega
  · intro h
    exact Int.mul_neg_of_neg_of_pos h hp
/-- A sum of two numbers: the exact sum, rounded. -/
theorem sum_fin (x y : Nat) (t : Bool) (hx : fin single x) (hy : fin single y) (V : Int) (hV : V = if t then -(val single y) else val single y) :
    (((single.read x).sum (if t then (single.read y).opposite else single.read y)).map single.write) = some (single.word (if val single x + V = 0 then sgn single x && (sgn single y ^^ t) else decide (val single x + V < 0)) (rndm single 0 (val single x + V).natAbs)) := by
  obtain ⟨m, i, ex, hi, vx⟩ := read_fin single x hx
  obtain ⟨n, j, ey, hj, vy⟩ := read_fin single y hy
  have hbs : single.leastPlace ≤ min i j := by omega
  have u1 := signed_units (s := sgn single x) (m := m) (e := i) (base := min i j) (least := single.leastPlace) (by omega) hbs
  have u2 := signed_units (s := (sgn single y ^^ t)) (m := n) (e := j) (base := min i j) (least := single.leastPlace) (by omega) hbs
  rw [vx] at u1
  rw [vy] at u2
  have w1 : (if sgn single x = true then -(valR single (rung single x) : Int) else (valR single (rung single x) : Int)) = val single x := rfl
  have w2 : (if (sgn single y ^^ t) = true then -(valR single (rung single y) : Int) else (valR single (rung single y) : Int)) = V := by
    rw [hV]
    unfold val
    cases t <;> cases sgn single y <;> simp
  rw [w1] at u1
  rw [w2] at u2
  have eo : (if t then (single.read y).opposite else single.read y) = .number (sgn single y ^^ t) n j := by
    rw [ey]
    cases t <;> cases sgn single y <;> rfl
  rw [ex, eo]
  simp only [Datum.sum, Option.map_some]
  generalize Ieee.signed (sgn single x) m (i - min i j).toNat = A at *
  generalize Ieee.signed (sgn single y ^^ t) n (j - min i j).toNat = B at *
  have ut : (A + B) * 2 ^ (min i j - single.leastPlace).toNat = val single x + V := by rw [Int.add_mul, u1, u2]
  generalize A + B = T at *
  generalize hk : (min i j - single.leastPlace).toNat = k at *
  have z1 : T = 0 ↔ val single x + V = 0 := by rw [← ut, scale0]
  have z2 : T < 0 ↔ val single x + V < 0 := by rw [← ut, scaleN]
  have sg : (if T = 0 then sgn single x && (sgn single y ^^ t) else decide (T < 0)) = (if val single x + V = 0 then sgn single x && (sgn single y ^^ t) else decide (val single x + V < 0)) := by
    by_cases t0 : T = 0
    · rw [if_pos t0, if_pos (z1.1 t0)]
    · rw [if_neg t0, if_neg (fun h => t0 (z1.2 h))]
      exact decide_eq_decide.2 z2
  rw [sg, write_number, nearest_rnd single _ T.natAbs (min i j) 0 k (by omega)]
  congr 3
  have := congrArg Int.natAbs ut
  rw [Int.natAbs_mul, Int.natAbs_pow, show (2 : Int).natAbs = 2 from rfl] at this
  exact this
theorem add_fin (x y : Nat) (hx : fin single x) (hy : fin single y) : add32 x y = single.word (if val single x + val single y = 0 then sgn single x && sgn single y else decide (val single x + val single y < 0)) (rndm single 0 (val single x + val single y).natAbs) := by
  have h := sum_fin x y false hx hy (val single y) rfl
  show (floatBits .add .f32 x y).getD _ = _
  have hq : floatBits .add .f32 x y = ((single.read x).sum (single.read y)).map single.write := rfl
  rw [hq, show ((single.read x).sum (single.read y)).map single.write = _ from h, Option.getD_some, Bool.xor_false]
theorem sub_fin (x y : Nat) (hx : fin single x) (hy : fin single y) : sub32 x y = single.word (if val single x - val single y = 0 then sgn single x && !sgn single y else decide (val single x - val single y < 0)) (rndm single 0 (val single x - val single y).natAbs) := by
  have h := sum_fin x y true hx hy (-(val single y)) rfl
  show (floatBits .sub .f32 x y).getD _ = _
  have hq : floatBits .sub .f32 x y = ((single.read x).sum (single.read y).opposite).map single.write := rfl
  rw [hq, show ((single.read x).sum (single.read y).opposite).map single.write = _ from h, Option.getD_some, Bool.xor_true, Int.sub_eq_add_neg]
/-- Which words are no finite number, and what a difference makes of them. -/
theorem not_fin {x : Nat} (h : ¬ fin single x) : (∃ s, single.read x = .infinity s) ∨ ∃ s t, single.read x = .nan s t := by
  unfold fin at h
  rcases Nat.lt_or_ge single.infRung (rung single x) with g | g
  · obtain ⟨t, e⟩ := read_nan single x g le_inf32
    exact .inr ⟨_, t, e⟩
  · exact .inl ⟨_, read_inf single x (by omega) le_inf32⟩
theorem nan_not_fin : ¬ fin single (theNan .f32) := by unfold fin; decide +kernel
theorem inf_not_fin (s : Bool) : ¬ fin single (single.word s single.infRung) := by cases s <;> (unfold fin; decide +kernel)
/-- A difference that is finite is one of two finite numbers. -/
theorem sub_ends {x y : Nat} (h : fin single (sub32 x y)) : fin single x ∧ fin single y := by
  have hs : sub32 x y = (((single.read x).sum (single.read y).opposite).map single.write).getD (theNan .f32) := rfl
  rw [hs] at h
  refine ⟨Classical.byContradiction fun hn => ?_, Classical.byContradiction fun hn => ?_⟩
  · rcases not_fin hn with ⟨s, e⟩ | ⟨s, t, e⟩
    · rw [e] at h
      cases ey : single.read y with
      | nan a b => rw [ey] at h; exact nan_not_fin h
      | infinity a =>
        rw [ey] at h
        simp only [Datum.opposite, Datum.sum] at h
        split at h
        · exact inf_not_fin _ h
        · exact nan_not_fin h
      | number a b c => rw [ey] at h; exact inf_not_fin _ h
    · rw [e] at h
      exact nan_not_fin h
  · rcases not_fin hn with ⟨s, e⟩ | ⟨s, t, e⟩
    · rw [e] at h
      cases ey : single.read x with
      | nan a b => rw [ey] at h; exact nan_not_fin h
      | infinity a =>
        rw [ey] at h
        simp only [Datum.opposite, Datum.sum] at h
        split at h
        · exact inf_not_fin _ h
        · exact nan_not_fin h
      | number a b c => rw [ey] at h; exact inf_not_fin _ h
    · rw [e] at h
      cases ex : single.read x with
      | nan a b => rw [ex] at h; exact nan_not_fin h
      | infinity a => rw [ex] at h; exact nan_not_fin h
      | number a b c => rw [ex] at h; exact nan_not_fin h
theorem isNan_fin {x : Nat} (h : fin single x) : isNan .f32 x = false := by
  rw [nanK]
  unfold fin at h
  simp only [decide_eq_false_iff_not, Nat.not_lt]
  exact Nat.le_of_lt h
/-- The quotient of two numbers of which the first, without its sign, is no more than the second. -/
theorem quo_law (x y : Nat) (hx : fin single x) (hy : fin single y) (h0 : rung single y ≠ 0) (hle : rung single x ≤ rung single y) (hs : sgn single y = false) :
    ∃ r, quo32 x y = single.word (sgn single x) r ∧ r ≤ 1065353216 ∧ (rung single x = 0 → r = 0) := by
  obtain ⟨m, i, ex, hi, vx⟩ := read_fin single x hx
  obtain ⟨n, j, ey, hj, vy⟩ := read_fin single y hy
  have hn : n ≠ 0 := by
    rintro rfl
    rw [Nat.zero_mul] at vy
    have := valR_inj single (vy.symm.trans (valR_0 single).symm)
    exact h0 this
  have hV : m * 2 ^ (i - single.leastPlace).toNat ≤ n * 2 ^ (j - single.leastPlace).toNat := by rw [vx, vy]; exact valR_leF single hle
  have hq : quo32 x y = (((single.read x).quotient 25 (single.read y)).map single.write).getD (theNan .f32) := rfl
  rw [hq, ex, ey, hs]
  simp only [Datum.quotient]
  rw [if_neg hn]
  simp only [Option.map_some, Option.getD_some, Bool.xor_false]
  rw [write_number]
  by_cases hm : m = 0
  · subst hm
    refine ⟨0, ?_, by omega, fun _ => rfl⟩
    have e0 : (2 * (0 <<< (25 + n.log2 - Nat.log2 0) / n) + (0 <<< (25 + n.log2 - Nat.log2 0) % n != 0).toNat) = 0 := by simp [shl_eq]
    rw [e0]
    unfold Format.nearest
    rw [if_pos rfl]
  · rw [least32] at hi hj hV
    have hl : m.log2 + (i + 149).toNat ≤ n.log2 + (j + 149).toNat := by
      have a1 := Nat.log2_self_le hm
      have a2 := @Nat.lt_log2_self n
      have a3 : 2 ^ m.log2 * 2 ^ (i - -149).toNat ≤ m * 2 ^ (i - -149).toNat := Nat.mul_le_mul_right _ a1
      have a4 : n * 2 ^ (j - -149).toNat < 2 ^ (n.log2 + 1) * 2 ^ (j - -149).toNat := Nat.mul_lt_mul_of_pos_right a2 (pow_pos' _)
      have a5 : 2 ^ (m.log2 + (i - -149).toNat) < 2 ^ (n.log2 + 1 + (j - -149).toNat) := by
        rw [Nat.pow_add, Nat.pow_add]; omega
      have a6 := (Nat.pow_lt_pow_iff_right (by decide : 1 < 2)).1 a5
      omega
    generalize hmore : 25 + n.log2 - m.log2 = more
    obtain ⟨E, hE⟩ : ∃ E : Nat, (E : Int) = j - i + more := ⟨(j - i + more).toNat, by omega⟩
    have hME : m * 2 ^ more ≤ n * 2 ^ E := by
      have b1 : m * 2 ^ (i - -149).toNat * 2 ^ more ≤ n * 2 ^ (j - -149).toNat * 2 ^ more := Nat.mul_le_mul_right _ hV
      have b2 : n * 2 ^ (j - -149).toNat * 2 ^ more = n * 2 ^ E * 2 ^ (i - -149).toNat := by
        rw [Nat.mul_assoc, Nat.mul_assoc, ← Nat.pow_add, ← Nat.pow_add]; congr 2; omega
      have b3 : m * 2 ^ (i - -149).toNat * 2 ^ more = m * 2 ^ more * 2 ^ (i - -149).toNat := by
        rw [Nat.mul_assoc, Nat.mul_assoc, Nat.mul_comm (2 ^ _)]
      rw [b2, b3] at b1
      exact Nat.le_of_mul_le_mul_right b1 (pow_pos' _)
    have hQ : 2 * (m <<< more / n) + (m <<< more % n != 0).toNat ≤ 2 ^ (E + 1) := by
      rw [shl_eq]
      generalize m * 2 ^ more = D at hME
      rw [Nat.pow_succ]
      generalize 2 ^ E = F at *
      have c1 := Nat.div_add_mod D n
      have c2 : D / n ≤ F := Nat.div_le_of_le_mul hME
      rcases Nat.lt_or_ge (D / n) F with c3 | c3
      · have := Bool.toNat_le (D % n != 0)
        omega
      · have c4 : D / n = F := by omega
        rw [c4] at c1
        have c5 : D % n = 0 := by omega
        rw [c4, c5]
        simp
        omega
    generalize 2 * (m <<< more / n) + (m <<< more % n != 0).toNat = Q at *
    refine ⟨rndm single (E + 1 - 149) (Q * 2 ^ (149 - (E + 1))), ?_, ?_, ?_⟩
    · exact nearest_rnd single _ Q _ (E + 1 - 149) (149 - (E + 1)) (by rw [least32]; omega)
    · refine rndm_le_of single _ ?_
      have v1s : valR single 1065353216 = 2 ^ 149 := by decide +kernel
      rw [v1s, ← Nat.pow_add]
      refine Nat.le_trans (Nat.mul_le_mul_right _ hQ) ?_
      rw [← Nat.pow_add]
      exact Nat.pow_le_pow_right (by decide) (by omega)
    · intro hr
      exfalso
      rw [hr, valR_0] at vx
      rcases Nat.mul_eq_zero.1 vx with c | c
      · exact hm c
      · have := pow_pos' (i - single.leastPlace).toNat; omega
/-- A number by itself is 1. -/
theorem quo_self (x : Nat) (hx : fin single x) (h0 : rung single x ≠ 0) (hs : sgn single x = false) : quo32 x x = one32 := by
  obtain ⟨m, i, ex, hi, vx⟩ := read_fin single x hx
  have hm : m ≠ 0 := by
    rintro rfl
    rw [Nat.zero_mul] at vx
    have := valR_inj single (vx.symm.trans (valR_0 single).symm)
    exact h0 this
  have hq : quo32 x x = (((single.read x).quotient 25 (single.read x)).map single.write).getD (theNan .f32) := rfl
  rw [hq, ex, hs]
  simp only [Datum.quotient]
  rw [if_neg hm]
  simp only [Option.map_some, Option.getD_some]
  rw [write_number]
  have e1 : 25 + m.log2 - m.log2 = 25 := by omega
  rw [e1, shl_eq, Nat.mul_comm m, Nat.mul_div_cancel _ (Nat.pos_of_ne_zero hm), Nat.mul_mod_left]
  have e2 : i - i - ((25 : Nat) : Int) - 1 = -26 := by omega
  rw [e2]
  decide +kernel
end Go.Proofs.Qxb6500472a
