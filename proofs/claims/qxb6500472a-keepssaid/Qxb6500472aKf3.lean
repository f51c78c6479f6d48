import Derived.Test.Qxb6500472aKf2
import Derived.Test.Qxb6500472aFloK3
namespace Go.Proofs.Qxb6500472a
open Ieee (Format Datum double single Toward)
/-! ### the ends of Along -/
theorem ratio_zero (d : Int) (hd : i64 d) (h0 : d ≠ 0) : ratioF 0 d = double.word (sgn double (int64 d)) 0 := by
  obtain ⟨f2, -, l2⟩ := int_bd d hd
  obtain ⟨k, j, e2, j1, v2⟩ := read_fin double _ f2
  have hk : k ≠ 0 := by
    rintro rfl
    have := l2 h0
    rw [← v2, Nat.zero_mul] at this
    have := pow_pos' 1074
    omega
  have e0 : double.read (int64 0) = .number false 0 (-1074) := by decide +kernel
  unfold ratioF
  show (((double.read (int64 0)).quotient 54 (double.read (int64 d))).map double.write).getD _ = _
  rw [e0, e2]
  simp only [Datum.quotient]
  rw [if_neg hk]
  simp only [Option.map_some, Option.getD_some, Bool.false_xor]
  rw [write_number]
  have e1 : (2 * (0 <<< (54 + k.log2 - Nat.log2 0) / k) + (0 <<< (54 + k.log2 - Nat.log2 0) % k != 0).toNat) = 0 := by simp [shl_eq]
  rw [e1]
  unfold Format.nearest
  rw [if_pos rfl]
theorem coord_zero (d : Int) (hd : i64 d) (h0 : d ≠ 0) : coordF 0 d = 0 ∨ coordF 0 d = 2147483648 := by
  unfold coordF
  rw [ratio_zero d hd h0]
  cases sgn double (int64 d)
  · exact .inl (by decide +kernel)
  · exact .inr (by decide +kernel)
theorem coord_one (n : Int) (hn : i64 n) (h0 : n ≠ 0) : coordF n n = one32 := by
  obtain ⟨f2, -, l2⟩ := int_bd n hn
  obtain ⟨k, j, e2, j1, v2⟩ := read_fin double _ f2
  have hk : k ≠ 0 := by
    rintro rfl
    have := l2 h0
    rw [← v2, Nat.zero_mul] at this
    have := pow_pos' 1074
    omega
  have e : ratioF n n = 4607182418800017408 := by
    unfold ratioF
    show (((double.read (int64 n)).quotient 54 (double.read (int64 n))).map double.write).getD _ = _
    rw [e2]
    simp only [Datum.quotient]
    rw [if_neg hk]
    simp only [Option.map_some, Option.getD_some, Bool.xor_self]
    rw [write_number]
    have e1 : 54 + k.log2 - k.log2 = 54 := by omega
    rw [e1, shl_eq, Nat.mul_comm k, Nat.mul_div_cancel _ (Nat.pos_of_ne_zero hk), Nat.mul_mod_left]
    have e2 : j - j - ((54 : Nat) : Int) - 1 = -55 := by omega
    rw [e2]
    decide +kernel
  unfold coordF
  rw [e]
  decide +kernel
/-- Two finite words of one number have one key. -/
theorem kF_val {x y : Nat} (h : val single x = val single y) : kF .f32 x = kF .f32 y := by
  have a := val_kF .f32 x y
  have b := val_kF .f32 y x
  have c : FloatKind.f32.format = single := rfl
  rw [c] at a b
  have a' := a.2
  have b' := b.2
  rcases Int.lt_trichotomy (kF .f32 x) (kF .f32 y) with g | g | g
  · have := a' g; omega
  · exact g
  · have := b' g; omega
theorem val_abs (x : Nat) : (val single x).natAbs = valR single (rung single x) := by
  unfold val
  split <;> omega
theorem word_val (s : Bool) (r : Nat) (h : r ≤ 2139095040) : val single (single.word s r) = if s then -(valR single r : Int) else (valR single r : Int) := by
  obtain ⟨h1, h2⟩ := wordS s r (by omega)
  unfold val
  rw [h1, h2]
theorem add_to (x y z : Nat) (hx : fin single x) (hy : fin single y) (hz : fin single z) (h : val single x + val single y = val single z) : kF .f32 (add32 x y) = kF .f32 z ∧ isNan .f32 (add32 x y) = false := by
  have hf : rung single z < 2139095040 := hz
  have er : rndm single 0 (val single z).natAbs = rung single z := by
    have := rndm_exact single 0 (rung single z)
    rw [Nat.pow_zero, Nat.mul_one, inf32] at this
    rw [val_abs, this]
    omega
  rw [add_fin x y hx hy, h, er]
  refine ⟨kF_val ?_, (kF_word _ _ (by omega)).2⟩
  rw [word_val _ _ (by omega)]
  by_cases h0 : val single z = 0
  · have hr : valR single (rung single z) = 0 := by rw [← val_abs, h0]; rfl
    rw [hr, h0]
    simp
  · rw [if_neg h0]
    unfold val at h0 ⊢
    have : valR single (rung single z) ≠ 0 := by
      intro e
      rw [e] at h0
      apply h0
      split <;> rfl
    cases hs : sgn single z with
    | false => simp; intro; omega
    | true =>
      simp only [if_true]
      rw [if_pos (by simp; omega)]
theorem mul_one_x (x : Nat) (hx : fin single x) : val single (mul32 one32 x) = val single x ∧ fin single (mul32 one32 x) := by
  have hf : rung single x < 2139095040 := hx
  obtain ⟨m, i, ex, hi, vx⟩ := read_fin single x hx
  have eo : single.read one32 = .number false 8388608 (-23) := by decide +kernel
  have em : mul32 one32 x = single.word (sgn single x) (rung single x) := by
    show (((single.read one32).product (single.read x)).map single.write).getD _ = _
    rw [eo, ex]
    simp only [Datum.product, Option.map_some, Option.getD_some, Bool.false_xor]
    rw [least32] at hi vx
    rw [write_number, nearest_rnd single _ (8388608 * m) (-23 + i) 23 (i - -149).toNat (by rw [least32]; omega)]
    have : 8388608 * m * 2 ^ (i - -149).toNat = valR single (rung single x) * 2 ^ 23 := by
      rw [Nat.mul_assoc, vx, Nat.mul_comm]
    rw [this, rndm_exact, inf32]
    congr 1
    omega
  obtain ⟨h1, h2⟩ := wordS (sgn single x) (rung single x) (by omega)
  rw [em]
  refine ⟨?_, ?_⟩
  · unfold val; rw [h1, h2]
  · unfold fin; rw [h2]; exact hx
theorem mul_zero_x (t x : Nat) (ht : t = 0 ∨ t = 2147483648) (hx : fin single x) : val single (mul32 t x) = 0 ∧ fin single (mul32 t x) := by
  obtain ⟨m, i, ex, hi, vx⟩ := read_fin single x hx
  obtain ⟨s, es⟩ : ∃ s, single.read t = .number s 0 (-149) := by
    rcases ht with rfl | rfl
    · exact ⟨false, by decide +kernel⟩
    · exact ⟨true, by decide +kernel⟩
  have em : mul32 t x = single.word (s ^^ sgn single x) 0 := by
    show (((single.read t).product (single.read x)).map single.write).getD _ = _
    rw [es, ex]
    simp only [Datum.product, Option.map_some, Option.getD_some, Nat.zero_mul]
    rw [write_number]
    unfold Format.nearest
    rw [if_pos rfl]
  rw [em]
  cases (s ^^ sgn single x) <;> exact ⟨by decide +kernel, by unfold fin; decide +kernel⟩
theorem lerp_zero (t lo hi : Nat) (ht : t = 0 ∨ t = 2147483648) (flo : fin single lo) (fhi : fin single hi) : eq32 (lerpF t lo hi) lo = true := by
  have e1 : sub32 one32 t = one32 := by rcases ht with rfl | rfl <;> decide +kernel
  unfold lerpF
  rw [e1]
  obtain ⟨a, b⟩ := mul_one_x lo flo
  obtain ⟨c, d⟩ := mul_zero_x t hi ht fhi
  obtain ⟨k, n⟩ := add_to _ _ lo b d flo (by omega)
  exact (eq32_iff _ _).2 ⟨n, isNan_fin flo, k⟩
theorem lerp_one (lo hi : Nat) (flo : fin single lo) (fhi : fin single hi) : eq32 (lerpF one32 lo hi) hi = true := by
  have e1 : sub32 one32 one32 = 0 := by decide +kernel
  unfold lerpF
  rw [e1]
  obtain ⟨a, b⟩ := mul_one_x hi fhi
  obtain ⟨c, d⟩ := mul_zero_x 0 lo (.inl rfl) flo
  obtain ⟨k, n⟩ := add_to _ _ hi d b fhi (by omega)
  exact (eq32_iff _ _).2 ⟨n, isNan_fin fhi, k⟩
/-- 'a - a == 0' is said of finite numbers alone. -/
theorem finite_of {a : Nat} (h : eq32 (sub32 a a) 0 = true) : fin single a := by
  obtain ⟨n, -, k⟩ := (eq32_iff _ _).1 h
  rw [k_zero] at k
  refine (sub_ends (x := a) (y := a) (fin_of_nan n ?_)).1
  intro hr
  rw [kFs, hr] at k
  split at k <;> omega

/-! ### EXACT: a whole number goes through float32 -/
set_option exponentiation.threshold 3000 in
theorem whole_rungS (N : Nat) (h : N ≤ 16777216) : ∃ r, r < 2139095040 ∧ valR single r = N * 2 ^ 149 := by
  by_cases h0 : N = 0
  · subst h0; exact ⟨0, by omega, by rw [valR_0, Nat.zero_mul]⟩
  by_cases h1 : N = 16777216
  · subst h1; exact ⟨151 * 8388608, by omega, by decide +kernel⟩
  have hL : N.log2 ≤ 23 := by
    have e53 : (2 : Nat) ^ 24 = 16777216 := rfl
    have := (Nat.log2_lt (n := N) (k := 24) h0).2 (by omega)
    omega
  obtain ⟨L, hLL⟩ : ∃ L, N.log2 = L := ⟨_, rfl⟩
  rw [hLL] at hL
  have lo : 2 ^ L ≤ N := by rw [← hLL]; exact Nat.log2_self_le h0
  have hi : N < 2 ^ (L + 1) := by rw [← hLL]; exact Nat.lt_log2_self
  have e52 : (2 : Nat) ^ 23 = 8388608 := rfl
  have m1 : 8388608 ≤ N * 2 ^ (23 - L) := by
    have := Nat.mul_le_mul_right (2 ^ (23 - L)) lo
    rw [← Nat.pow_add, show L + (23 - L) = 23 from by omega, e52] at this
    exact this
  have m2 : N * 2 ^ (23 - L) < 16777216 := by
    have := Nat.mul_lt_mul_of_pos_right hi (pow_pos' (23 - L))
    rw [← Nat.pow_add, show L + 1 + (23 - L) = 24 from by omega] at this
    exact this
  obtain ⟨m, hm⟩ : ∃ m, N * 2 ^ (23 - L) = m := ⟨_, rfl⟩
  rw [hm] at m1 m2
  refine ⟨(L + 127) * 8388608 + (m - 8388608), by omega, ?_⟩
  have d1 : ((L + 127) * 8388608 + (m - 8388608)) / 8388608 = L + 127 := by omega
  have d2 : ((L + 127) * 8388608 + (m - 8388608)) % 8388608 = m - 8388608 := by omega
  unfold valR
  rw [bin32, if_neg (by omega), d1, d2, show 8388608 + (m - 8388608) = m from by omega, ← hm, Nat.mul_assoc, ← Nat.pow_add, show 23 - L + (L + 127 - 1) = 149 from by omega]
set_option exponentiation.threshold 3000 in
theorem conv64_word (x : Nat) (hf : fin single x) : conv64 x = double.word (sgn single x) (rndm double 0 (valR single (rung single x) * 2 ^ 925)) := by
  obtain ⟨m, e, er, he, hv⟩ := read_fin single x hf
  rw [least32] at he hv
  unfold conv64
  rw [er]
  simp only
  have e1 : m * 2 ^ (e + 1074).toNat = m * 2 ^ (e - -149).toNat * 2 ^ 925 := by
    rw [Nat.mul_assoc, ← Nat.pow_add]; congr 2; omega
  rw [write_number, nearest_rnd double _ m e 0 (e + 1074).toNat (by rw [least64]; omega), e1, hv]
set_option exponentiation.threshold 3000 in
theorem exact_law (a : Nat) (k : Int) (h : wholeF a = (k, 0)) (h1 : -16777216 ≤ k) (h2 : k ≤ 16777216) : (FloatKind.f64.format.order (conv64 (conv32 a)) (int64 k) == some .eq) = true := by
  unfold wholeF at h
  cases h53 : in53 a with
  | false => rw [h53] at h; simp at h
  | true =>
    rw [h53] at h
    simp only [if_true] at h
    split at h
    · rename_i ho
      simp only [Prod.mk.injEq, and_true] at h
      rw [h] at ho
      obtain ⟨n1, n2, kk⟩ := (eq_iffK .f64 _ _).1 ho
      obtain ⟨fi, vi⟩ := int_val k (by omega) (by omega)
      obtain ⟨p1, p2, p3, -, -⟩ := int_parts k (by omega) (by omega)
      have hr : rung double a = rung double (int64 k) := by
        unfold kF at kk
        rw [show FloatKind.f64.format = double from rfl] at kk
        generalize sgn double a = s1 at kk
        generalize sgn double (int64 k) = s2 at kk
        cases s1 <;> cases s2 <;> simp only [Bool.false_eq_true, if_false, if_true] at kk <;> omega
      obtain ⟨c1, c2⟩ := conv32_parts a n2
      obtain ⟨r, r1, r2⟩ := whole_rungS k.natAbs (by omega)
      have e925 : k.natAbs * 2 ^ 1074 = valR single r * 2 ^ 925 := by
        rw [r2, Nat.mul_assoc, ← Nat.pow_add]
      have c3 : rung single (conv32 a) = r := by
        rw [c2]
        unfold cR
        rw [if_pos (by omega), hr, p3, e925, rndm_exact, inf32]
        omega
      have fa : fin single (conv32 a) := by show rung single _ < 2139095040; omega
      have e64 : conv64 (conv32 a) = double.word (sgn double a) (rung double a) := by
        rw [conv64_word _ fa, c1, c3, ← e925, ← p3, hr]
        have := rndm_exact double 0 (rung double (int64 k))
        rw [Nat.pow_zero, Nat.mul_one, inf64] at this
        rw [this, Nat.min_eq_left (by omega)]
      obtain ⟨w1, w2⟩ := word64 (sgn double a) (rung double a) (by omega)
      rw [← e64] at w1 w2
      refine (eq_iffK .f64 _ _).2 ⟨?_, n1, ?_⟩
      · rw [nanK, show FloatKind.f64.format = double from rfl, w2, inf64]
        simp only [decide_eq_false_iff_not, Nat.not_lt]
        omega
      · rw [kk]
        unfold kF
        rw [show FloatKind.f64.format = double from rfl, w1, w2]
    · simp at h
end Go.Proofs.Qxb6500472a
