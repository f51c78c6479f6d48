import Derived.Test.Qxb6500472aFloR
import Derived.Test.Qxb6500472aFloInt
import Derived.Test.Qxb6500472aGrid
namespace Go.Proofs.Qxb6500472a
open Ieee (Format Datum double single Toward)
open Go.RowKit

/-- Within an int's range. -/
def i64 (n : Int) : Prop := -9223372036854775808 ≤ n ∧ n ≤ 9223372036854775807
theorem valR_leF (f : Format) {r s : Nat} (h : r ≤ s) : valR f r ≤ valR f s := by
  rcases Nat.lt_or_ge r s with h1 | h1
  · exact Nat.le_of_lt (valR_lt f h1)
  · obtain rfl : r = s := by omega
    exact Nat.le_refl _
theorem v63 : valR double 4890909195324358656 = 2 ^ 1137 := by decide +kernel
theorem v1 : valR double 4607182418800017408 = 2 ^ 1074 := by decide +kernel
theorem v70 : valR double 4922434392715952128 = 2 ^ 1144 := by decide +kernel
theorem v70s : valR single 1652555776 = 2 ^ 219 := by decide +kernel
theorem v128 : valR double 5183643171103440896 = 2 ^ 1202 := by decide +kernel
theorem vinfs : valR single 2139095040 = 2 ^ 277 := by decide +kernel

set_option exponentiation.threshold 3000 in
theorem int_bd (n : Int) (h : i64 n) : fin double (int64 n) ∧ valR double (rung double (int64 n)) ≤ 2 ^ 1137 ∧ (n ≠ 0 → 2 ^ 1074 ≤ valR double (rung double (int64 n))) := by
  have e : int64 n = double.word (decide (n < 0)) (rndm double 0 (n.natAbs * 2 ^ 1074)) := nearest_rnd double _ n.natAbs 0 0 1074 (by rw [least64]; rfl)
  obtain ⟨h1, h2⟩ := h
  have hN : n.natAbs ≤ 2 ^ 63 := by have : (2 : Nat) ^ 63 = 9223372036854775808 := rfl
                                    omega
  have up : rndm double 0 (n.natAbs * 2 ^ 1074) ≤ 4890909195324358656 := by
    refine rndm_le_of double 0 ?_
    rw [v63, Nat.pow_zero, Nat.mul_one, show (1137 : Nat) = 63 + 1074 from rfl, Nat.pow_add]
    exact Nat.mul_le_mul_right _ hN
  obtain ⟨-, er⟩ := word64 (decide (n < 0)) (rndm double 0 (n.natAbs * 2 ^ 1074)) (by omega)
  rw [← e] at er
  refine ⟨?_, ?_, ?_⟩
  · unfold fin; rw [er, inf64]; omega
  · rw [er, ← v63]; exact valR_leF double up
  · intro hn
    rw [er, ← v1]
    refine valR_leF double (le_rndm_of double 0 ?_ (by rw [inf64]; omega))
    rw [v1, Nat.pow_zero, Nat.mul_one]
    exact Nat.le_mul_of_pos_left _ (by omega)

set_option exponentiation.threshold 3000 in
theorem fits_of_rung (x : Nat) (h : rung double x ≤ 4922434392715952128) : fits32 x = true := by
  have hf : fin double x := by unfold fin; rw [inf64]; omega
  obtain ⟨m, e, er, he, hv⟩ := read_fin double x hf
  rw [least64] at he hv
  have hb := valR_leF double h
  rw [v70, ← hv] at hb
  unfold fits32
  rw [er]
  simp only
  rw [write_number, nearest_rnd single (sgn double x) m e (-149 - e).toNat (e + 149).toNat (by rw [least32]; omega)]
  have hN : rndm single (-149 - e).toNat (m * 2 ^ (e + 149).toNat) ≤ 1652555776 := by
    refine rndm_le_of single _ ?_
    rw [v70s]
    have e1 : m * 2 ^ (e + 149).toNat * 2 ^ 925 = m * 2 ^ (e - -1074).toNat * 2 ^ (-149 - e).toNat := by
      rw [Nat.mul_assoc, Nat.mul_assoc, ← Nat.pow_add, ← Nat.pow_add]
      congr 2
      omega
    have e2 : 2 ^ 219 * 2 ^ (-149 - e).toNat * 2 ^ 925 = 2 ^ 1144 * 2 ^ (-149 - e).toNat := by
      rw [Nat.mul_right_comm, ← Nat.pow_add]
    refine Nat.le_of_mul_le_mul_right (c := 2 ^ 925) ?_ (pow_pos' _)
    rw [e1, e2]
    exact Nat.mul_le_mul_right _ hb
  generalize rndm single (-149 - e).toNat (m * 2 ^ (e + 149).toNat) = r at *
  obtain ⟨-, w2⟩ := word_parts (sgn double x) r (by show r < 2147483648; omega)
  obtain ⟨m', e', er', -, -⟩ := read_fin single (single.word (sgn double x) r) (by unfold fin; rw [w2, inf32]; omega)
  rw [er']
  rfl

theorem inf_fits (s : Bool) : fits32 (double.word s double.infRung) = true := by cases s <;> decide +kernel

set_option exponentiation.threshold 3000 in
theorem log_of {m a k : Nat} (h : m * 2 ^ a ≤ 2 ^ k) (hm : m ≠ 0) : m.log2 + a ≤ k := by
  have h1 := Nat.log2_self_le hm
  have h2 : 2 ^ (m.log2 + a) ≤ 2 ^ k := by rw [Nat.pow_add]; exact Nat.le_trans (Nat.mul_le_mul_right _ h1) h
  exact (Nat.pow_le_pow_iff_right (by decide)).1 h2
theorem log_ge {m a k : Nat} (h : 2 ^ k ≤ m * 2 ^ a) : k ≤ m.log2 + a := by
  have h1 := @Nat.lt_log2_self m
  have h2 : 2 ^ k < 2 ^ (m.log2 + 1 + a) := by rw [Nat.pow_add]; exact Nat.lt_of_le_of_lt h (Nat.mul_lt_mul_of_pos_right h1 (pow_pos' _))
  have := (Nat.pow_lt_pow_iff_right (a := 2) (by decide)).1 h2
  omega

set_option exponentiation.threshold 3000 in
/-- A ratio of two ints is NaN, an infinity, or lies within float32's range. -/
theorem fit_ratio (n d : Int) (hn : i64 n) (hd : i64 d) : fits32 (ratioF n d) = true := by
  obtain ⟨f1, u1, -⟩ := int_bd n hn
  obtain ⟨f2, -, l2⟩ := int_bd d hd
  obtain ⟨m, i, e1, i1, v1⟩ := read_fin double _ f1
  obtain ⟨k, j, e2, j1, v2⟩ := read_fin double _ f2
  rw [least64] at i1 j1 v1 v2
  rw [← v1] at u1
  rw [← v2] at l2
  unfold ratioF
  show fits32 ((floatBits .quo .f64 (int64 n) (int64 d)).getD _) = true
  show fits32 ((((double.read (int64 n)).quotient 54 (double.read (int64 d))).map double.write).getD _) = true
  rw [e1, e2]
  simp only [Datum.quotient]
  generalize sgn double (int64 n) = s
  generalize sgn double (int64 d) = t
  by_cases hk : k = 0
  · rw [if_pos hk]
    by_cases hm : m = 0
    · rw [if_pos hm]; decide +kernel
    · rw [if_neg hm]
      exact inf_fits _
  · rw [if_neg hk]
    have hd0 : d ≠ 0 := by
      rintro rfl
      have e0 : double.read (int64 0) = .number false 0 (-1074) := by decide +kernel
      rw [e0] at e2
      simp only [Datum.number.injEq] at e2
      exact hk e2.2.1.symm
    have l2' := log_ge (l2 hd0)
    simp only [Option.map_some, Option.getD_some]
    rw [write_number]
    refine fits_of_rung _ ?_
    by_cases hm : m = 0
    · subst hm
      have e0 : (2 * (0 <<< (54 + k.log2 - Nat.log2 0) / k) + (0 <<< (54 + k.log2 - Nat.log2 0) % k != 0).toNat) = 0 := by simp [shl_eq]
      rw [e0]
      unfold Format.nearest
      rw [if_pos rfl, (word64 _ 0 (by omega)).2]
      omega
    · have u1' := log_of u1 hm
      have hmb : m.log2 ≤ 52 := by
        have hb : m < 2 ^ 53 := by
          have er := e1
          unfold Format.read at er
          simp only at er
          split at er
          · simp only [Datum.number.injEq] at er
            rename_i hlt
            rw [bin64] at hlt
            have : (2 : Nat) ^ 53 = 9007199254740992 := rfl
            omega
          · split at er
            · simp only [Datum.number.injEq] at er
              have h3 := er.2.1
              rw [bin64] at h3
              have : (2 : Nat) ^ 53 = 9007199254740992 := rfl
              have := Nat.mod_lt (int64 n % double.signWeight) (show 0 < 4503599627370496 by decide)
              omega
            · split at er <;> cases er
        have := (Nat.log2_lt hm).2 hb
        omega
      generalize hmore : 54 + k.log2 - m.log2 = more
      have hQ : 2 * (m <<< more / k) + (m <<< more % k != 0).toNat < 2 ^ 56 := by
        have h1 := @Nat.lt_log2_self m
        have h2 := Nat.log2_self_le hk
        have h3 : m <<< more < 2 ^ 55 * k := by
          rw [shl_eq]
          have a1 : m * 2 ^ more < 2 ^ (m.log2 + 1) * 2 ^ more := Nat.mul_lt_mul_of_pos_right h1 (pow_pos' _)
          have a2 : 2 ^ (m.log2 + 1) * 2 ^ more = 2 ^ 55 * 2 ^ k.log2 := by
            rw [← Nat.pow_add, ← Nat.pow_add]; congr 1; omega
          have a3 : 2 ^ 55 * 2 ^ k.log2 ≤ 2 ^ 55 * k := Nat.mul_le_mul_left _ h2
          omega
        have h4 : m <<< more / k < 2 ^ 55 := (Nat.div_lt_iff_lt_mul (Nat.pos_of_ne_zero hk)).2 h3
        have h5 := Bool.toNat_le (m <<< more % k != 0)
        have h6 : (2 : Nat) ^ 56 = 2 * 2 ^ 55 := by decide
        omega
      generalize 2 * (m <<< more / k) + (m <<< more % k != 0).toNat = Q at *
      generalize hP : i - j - (more : Int) - 1 = P
      have hPb : P ≤ 8 := by omega
      rw [nearest_rnd double _ Q P (-1074 - P).toNat (P + 1074).toNat (by rw [least64]; omega)]
      have hr : rndm double (-1074 - P).toNat (Q * 2 ^ (P + 1074).toNat) ≤ 4922434392715952128 := by
        refine rndm_le_of double _ ?_
        rw [v70, ← Nat.pow_add]
        have a1 : Q * 2 ^ (P + 1074).toNat ≤ 2 ^ 56 * 2 ^ (P + 1074).toNat := Nat.mul_le_mul_right _ (Nat.le_of_lt hQ)
        refine Nat.le_trans a1 ?_
        rw [← Nat.pow_add]
        exact Nat.pow_le_pow_right (by decide) (by omega)
      rw [(word64 _ _ (by omega)).2]
      exact hr

/-! ### float32 to float64 -/
def conv64 (x : Nat) : Nat := match single.read x with
  | .nan _ _ => theNan .f64
  | d => double.write d
theorem conv64_can (x : Nat) : conv64 (can .f32 x) = conv64 x := by
  cases h : isNan .f32 x with
  | true =>
    obtain ⟨s, t, e⟩ := nan_of h
    obtain ⟨s', t', e'⟩ := nan_of ((isNan_can .f32 x).trans h)
    have e1 : single.read x = .nan s t := e
    have e2 : single.read (can .f32 x) = .nan s' t' := e'
    simp only [conv64, e1, e2]
  | false => rw [can_num h]
theorem can_conv64 (x : Nat) : can .f64 (conv64 x) = conv64 x := by
  unfold conv64
  split
  · exact can_nan (isNan_theNan .f64)
  · rename_i d hd
    refine can_num (write_num .f64 ?_)
    cases hx : single.read x with
    | nan s t => exact absurd hx (hd s t)
    | _ => rfl
set_option exponentiation.threshold 3000 in
theorem wide_fin (x : Nat) (hf : fin single x) : ∃ r, r < 9218868437227405312 ∧ ∀ s m e, single.read x = .number s m e → double.write (.number s m e) = double.word s r := by
  obtain ⟨m, e, er, he, hv⟩ := read_fin single x hf
  rw [least32] at he hv
  refine ⟨rndm double 0 (m * 2 ^ (e + 1074).toNat), ?_, ?_⟩
  · have hb : valR single (rung single x) ≤ 2 ^ 277 := by
      rw [← vinfs]; unfold fin at hf; rw [inf32] at hf; exact valR_leF single (by omega)
    have : rndm double 0 (m * 2 ^ (e + 1074).toNat) ≤ 5183643171103440896 := by
      refine rndm_le_of double _ ?_
      rw [v128, Nat.pow_zero, Nat.mul_one]
      have e1 : m * 2 ^ (e + 1074).toNat = m * 2 ^ (e - -149).toNat * 2 ^ 925 := by
        rw [Nat.mul_assoc, ← Nat.pow_add]; congr 2; omega
      rw [e1, hv, show (1202 : Nat) = 277 + 925 from rfl, Nat.pow_add]
      exact Nat.mul_le_mul_right _ hb
    omega
  · intro s m' e' hr
    rw [er] at hr
    simp only [Datum.number.injEq] at hr
    obtain ⟨rfl, rfl, rfl⟩ := hr
    rw [write_number]
    exact nearest_rnd double _ m e 0 (e + 1074).toNat (by rw [least64]; omega)
/-- 'float64(x)' of a float32, as a walk takes it. -/
theorem conv64_ex (P : Program) (src dst : TypeId) (hs : P.underlying src = some (.float .f32)) (hd : P.underlying dst = some (.float .f64)) :
    ∃ (rc : Nat → World → Nat) (nc : Nat → Nat), (∀ x W, (convert src dst (.float .f32 x)).run P W = .ok (.float .f64 (rc x W)) (W.drewN (nc x))) ∧ Hid (∀ x W, can .f64 (rc x W) = conv64 (can .f32 x)) := by
  refine ⟨fun x W => match single.read x with | .nan _ _ => (Question.nanConv .f64 x).cut (W.tape W.drawn (.nanConv .f64 x)) | d => double.write d, fun x => match single.read x with | .nan _ _ => 1 | _ => 0, fun x W => ?_, fun x W => ?_⟩
  · have hr : FloatKind.f32.decode x = single.read x := rfl
    cases hx : single.read x with
    | nan s t => simp [convert, run_underlying hs, run_underlying hd, Conv.floatToFloat, hr, hx, choose, Sem.run, Question.forced]; rfl
    | infinity s => simp [convert, run_underlying hs, run_underlying hd, Conv.floatToFloat, hr, hx]; exact ⟨rfl, rfl⟩
    | number s m e =>
      have hfin : fin single x := by
        rcases Nat.lt_or_ge (rung single x) single.infRung with h1 | h1
        · exact h1
        · exfalso
          rcases Nat.lt_or_ge single.infRung (rung single x) with h2 | h2
          · obtain ⟨t, e⟩ := read_nan single x h2 le_inf32; rw [e] at hx; cases hx
          · have e := read_inf single x (by omega) le_inf32; rw [e] at hx; cases hx
      obtain ⟨r, hr1, hr2⟩ := wide_fin x hfin
      have hw := hr2 s m e hx
      have hi : (double.read (double.write (.number s m e))).isInfinity = false := by
        rw [hw]
        obtain ⟨-, w2⟩ := word64 s r (by omega)
        obtain ⟨m', e', er', -, -⟩ := read_fin double (double.word s r) (by unfold fin; rw [w2, inf64]; omega)
        rw [er']; rfl
      have hi' : (FloatKind.f64.decode (FloatKind.f64.encode (.number s m e))).isInfinity = false := hi
      simp [convert, run_underlying hs, run_underlying hd, Conv.floatToFloat, hr, hx, hi']; exact ⟨rfl, rfl⟩
  · rw [conv64_can]
    unfold conv64
    show can .f64 (match single.read x with | .nan _ _ => (Question.nanConv .f64 x).cut (W.tape W.drawn (.nanConv .f64 x)) | d => double.write d) = _
    cases hx : single.read x with
    | nan s t => exact can_nan (nanCut64 0 0 _)
    | infinity s => exact can_num (write_num .f64 (d := .infinity s) rfl)
    | number s m e => exact can_num (write_num .f64 (d := .number s m e) rfl)
/-- The text of a float32. -/
def text32 (x : Nat) : List UInt8 := text64 (conv64 x)
end Go.Proofs.Qxb6500472a
