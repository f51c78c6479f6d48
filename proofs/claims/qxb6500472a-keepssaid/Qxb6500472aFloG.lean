import Derived.Test.Qxb6500472aFloF
import Derived.Test.Qxb6500472aMAs
namespace Go.Proofs.Qxb6500472a
open Ieee (Format Datum double single Toward)
open Go.RowKit

/-! ### the order of floats by their rungs, of either kind -/
theorem cmp_of' {a b c d : Int} (h1 : a < b ↔ c < d) (h2 : b < a ↔ d < c) : compare a b = compare c d := by
  rcases Int.lt_trichotomy a b with h | h | h
  · rw [Int.compare_eq_lt.2 h, Int.compare_eq_lt.2 (h1.1 h)]
  · have e : c = d := by
      have n1 : ¬ c < d := fun q => by have := h1.2 q; omega
      have n2 : ¬ d < c := fun q => by have := h2.2 q; omega
      omega
    rw [Int.compare_eq_eq.2 h, Int.compare_eq_eq.2 e]
  · rw [Int.compare_eq_gt.2 h, Int.compare_eq_gt.2 (h2.1 h)]
/-- The rung with its sign. -/
def kF (k : FloatKind) (x : Nat) : Int := if sgn k.format x then -(rung k.format x : Int) else (rung k.format x : Int)
theorem bi_le (k : FloatKind) : k.format.binade ≤ k.format.infRung := by cases k <;> decide
theorem nanK (k : FloatKind) (x : Nat) : isNan k x = decide (k.format.infRung < rung k.format x) := by
  unfold isNan
  rcases Nat.lt_or_ge k.format.infRung (rung k.format x) with h1 | h1
  · obtain ⟨t, e⟩ := read_nan k.format x h1 (bi_le k)
    rw [e, decide_eq_true h1]; rfl
  · rw [decide_eq_false (by omega)]
    rcases Nat.lt_or_ge (rung k.format x) k.format.infRung with h2 | h2
    · obtain ⟨m, e, hr, _⟩ := read_fin k.format x h2
      rw [hr]; rfl
    · rw [read_inf k.format x (by omega) (bi_le k)]; rfl
theorem num_rung {k : FloatKind} {x : Nat} (h : isNan k x = false) : rung k.format x ≤ k.format.infRung := by
  rw [nanK] at h
  have := of_decide_eq_false h
  omega
theorem valR_iff (f : Format) (r s : Nat) : valR f r < valR f s ↔ r < s := by
  constructor
  · intro h
    rcases Nat.lt_or_ge r s with h1 | h1
    · exact h1
    · have := valR_leF f h1; omega
  · exact valR_lt f
theorem valR_0 (f : Format) : valR f 0 = 0 := valR_small f 0 (pow_pos' _)
theorem val_kF (k : FloatKind) (x y : Nat) : val k.format x < val k.format y ↔ kF k x < kF k y := by
  unfold val kF
  have l1 := valR_iff k.format (rung k.format x) (rung k.format y)
  have l2 := valR_iff k.format (rung k.format y) (rung k.format x)
  have p1 := valR_iff k.format 0 (rung k.format x)
  have p2 := valR_iff k.format 0 (rung k.format y)
  rw [valR_0] at p1 p2
  generalize valR k.format (rung k.format x) = A at *
  generalize valR k.format (rung k.format y) = B at *
  generalize rung k.format x = a at *
  generalize rung k.format y = b at *
  cases sgn k.format x <;> cases sgn k.format y <;> simp <;> omega
theorem order_kF (k : FloatKind) (x y : Nat) (hx : isNan k x = false) (hy : isNan k y = false) : k.format.order x y = some (compare (kF k x) (kF k y)) := by
  replace hx := num_rung hx
  replace hy := num_rung hy
  rcases Nat.lt_or_ge (rung k.format x) k.format.infRung with h1 | h1
  · rcases Nat.lt_or_ge (rung k.format y) k.format.infRung with h2 | h2
    · rw [order_fin k.format x y h1 h2]
      congr 1
      exact cmp_of' (val_kF k x y) (val_kF k y x)
    · obtain ⟨m, e, hr, -⟩ := read_fin k.format x h1
      have hb : rung k.format y = k.format.infRung := by omega
      have e2 := read_inf k.format y hb (bi_le k)
      unfold Format.order
      rw [hr, e2]
      simp only [Datum.order]
      congr 1
      unfold kF
      rw [hb]
      generalize rung k.format x = a at *
      cases sgn k.format x <;> cases sgn k.format y <;> simp
      · rw [Int.compare_eq_lt.2 (by omega)]
      · rw [Int.compare_eq_gt.2 (by omega)]
      · rw [Int.compare_eq_lt.2 (by omega)]
      · rw [Int.compare_eq_gt.2 (by omega)]
  · have ha : rung k.format x = k.format.infRung := by omega
    have e1 := read_inf k.format x ha (bi_le k)
    rcases Nat.lt_or_ge (rung k.format y) k.format.infRung with h2 | h2
    · obtain ⟨m, e, hr, -⟩ := read_fin k.format y h2
      unfold Format.order
      rw [hr, e1]
      simp only [Datum.order]
      congr 1
      unfold kF
      rw [ha]
      generalize rung k.format y = b at *
      cases sgn k.format x <;> cases sgn k.format y <;> simp
      · rw [Int.compare_eq_gt.2 (by omega)]
      · rw [Int.compare_eq_gt.2 (by omega)]
      · rw [Int.compare_eq_lt.2 (by omega)]
      · rw [Int.compare_eq_lt.2 (by omega)]
    · have hb : rung k.format y = k.format.infRung := by omega
      have e2 := read_inf k.format y hb (bi_le k)
      have hp : 0 < k.format.infRung := by cases k <;> decide
      unfold Format.order
      rw [e1, e2]
      simp only [Datum.order]
      congr 1
      unfold kF
      rw [ha, hb]
      cases sgn k.format x <;> cases sgn k.format y <;> simp <;> first | rfl | skip
      · rw [Int.compare_eq_gt.2 (by omega)]; rfl
      · rw [Int.compare_eq_lt.2 (by omega)]; rfl
theorem order_noneK (k : FloatKind) (x y : Nat) (h : isNan k x = true ∨ isNan k y = true) : k.format.order x y = none := by
  unfold Format.order
  rcases h with h | h
  · exact order_nan_l h
  · exact order_nan_r h
/-- What a comparison's answer says. -/
theorem order_iff (k : FloatKind) (x y : Nat) (o : Ordering) : k.format.order x y = some o ↔ isNan k x = false ∧ isNan k y = false ∧ compare (kF k x) (kF k y) = o := by
  cases hx : isNan k x with
  | true => rw [order_noneK k x y (.inl hx)]; simp
  | false =>
    cases hy : isNan k y with
    | true => rw [order_noneK k x y (.inr hy)]; simp
    | false => rw [order_kF k x y hx hy]; simp
theorem lt_iffK (k : FloatKind) (x y : Nat) : (k.format.order x y == some .lt) = true ↔ isNan k x = false ∧ isNan k y = false ∧ kF k x < kF k y := by
  rw [beq_iff_eq, order_iff, Int.compare_eq_lt]
theorem gt_iffK (k : FloatKind) (x y : Nat) : (k.format.order x y == some .gt) = true ↔ isNan k x = false ∧ isNan k y = false ∧ kF k y < kF k x := by
  rw [beq_iff_eq, order_iff, Int.compare_eq_gt]
theorem eq_iffK (k : FloatKind) (x y : Nat) : (k.format.order x y == some .eq) = true ↔ isNan k x = false ∧ isNan k y = false ∧ kF k x = kF k y := by
  rw [beq_iff_eq, order_iff, Int.compare_eq_eq]
theorem le_iffK (k : FloatKind) (x y : Nat) : (k.format.order x y == some .lt || k.format.order x y == some .eq) = true ↔ isNan k x = false ∧ isNan k y = false ∧ kF k x ≤ kF k y := by
  rw [Bool.or_eq_true, lt_iffK, eq_iffK]
  constructor
  · rintro (⟨a, b, c⟩ | ⟨a, b, c⟩) <;> exact ⟨a, b, by omega⟩
  · rintro ⟨a, b, c⟩
    rcases Int.lt_or_eq_of_le c with h | h
    · exact .inl ⟨a, b, h⟩
    · exact .inr ⟨a, b, h⟩
theorem ge_iffK (k : FloatKind) (x y : Nat) : (k.format.order x y == some .gt || k.format.order x y == some .eq) = true ↔ isNan k x = false ∧ isNan k y = false ∧ kF k y ≤ kF k x := by
  rw [Bool.or_eq_true, gt_iffK, eq_iffK]
  constructor
  · rintro (⟨a, b, c⟩ | ⟨a, b, c⟩) <;> exact ⟨a, b, by omega⟩
  · rintro ⟨a, b, c⟩
    rcases Int.lt_or_eq_of_le c with h | h
    · exact .inl ⟨a, b, h⟩
    · exact .inr ⟨a, b, h.symm⟩
theorem ne_selfK (k : FloatKind) (x : Nat) : (k.format.order x x != some .eq) = isNan k x := by
  cases hx : isNan k x with
  | true => rw [order_noneK k x x (.inl hx)]; rfl
  | false => rw [order_kF k x x hx hx, Int.compare_eq_eq.2 rfl]; rfl
theorem eq_selfK (k : FloatKind) (x : Nat) : (k.format.order x x == some .eq) = !isNan k x := by
  have := ne_selfK k x
  rw [← this, bne, Bool.not_not]

/-! ### float64 to float32 keeps the order -/
/-- The rung that a float64's rung is rounded to. -/
def cR (r : Nat) : Nat := if r < 9218868437227405312 then rndm single 925 (valR double r) else 2139095040
theorem cR_le (r : Nat) : cR r ≤ 2139095040 := by
  unfold cR; split
  · exact rndm_le single 925 _
  · exact Nat.le_refl _
theorem cR_mono {r s : Nat} (h : r ≤ s) : cR r ≤ cR s := by
  unfold cR
  split
  · split
    · exact rndm_mono single 925 (valR_leF double h)
    · exact rndm_le single 925 _
  · rw [if_neg (by omega)]; exact Nat.le_refl _
theorem cR_zero : cR 0 = 0 := by unfold cR; rw [if_pos (by decide), valR_0, rndm_zero]
theorem conv32_word (x : Nat) (h : isNan .f64 x = false) : conv32 x = single.word (sgn double x) (cR (rung double x)) := by
  have hr : rung double x ≤ 9218868437227405312 := num_rung (k := .f64) h
  unfold conv32 cR
  rcases Nat.lt_or_ge (rung double x) 9218868437227405312 with h1 | h1
  · rw [if_pos h1]
    obtain ⟨m, e, er, he, hv⟩ := read_fin double x h1
    rw [least64] at he hv
    rw [er]
    simp only
    rw [write_number, nearest_rnd single _ m e 925 (e - -1074).toNat (by rw [least32]; omega), hv]
  · rw [if_neg (by omega), read_inf double x (by rw [inf64]; omega) le_inf64]
    rfl
theorem conv32_parts (x : Nat) (h : isNan .f64 x = false) : sgn single (conv32 x) = sgn double x ∧ rung single (conv32 x) = cR (rung double x) := by
  rw [conv32_word x h]
  exact word_parts _ _ (by show _ < 2147483648; have := cR_le (rung double x); omega)
theorem conv32_nan (x : Nat) : isNan .f32 (conv32 x) = isNan .f64 x := by
  cases h : isNan .f64 x with
  | false =>
    rw [nanK]
    show decide (2139095040 < rung single (conv32 x)) = false
    rw [(conv32_parts x h).2]
    have := cR_le (rung double x)
    exact decide_eq_false (by omega)
  | true =>
    obtain ⟨s, t, e⟩ := nan_of h
    have e1 : double.read x = .nan s t := e
    unfold conv32
    rw [e1]
    exact isNan_theNan .f32
theorem conv32_key (x : Nat) (h : isNan .f64 x = false) : kF .f32 (conv32 x) = if sgn double x then -(cR (rung double x) : Int) else (cR (rung double x) : Int) := by
  obtain ⟨a, b⟩ := conv32_parts x h
  unfold kF
  show (if sgn single (conv32 x) then -(rung single (conv32 x) : Int) else (rung single (conv32 x) : Int)) = _
  rw [a, b]
theorem conv32_mono (x y : Nat) (hx : isNan .f64 x = false) (hy : isNan .f64 y = false) (h : kF .f64 x ≤ kF .f64 y) : kF .f32 (conv32 x) ≤ kF .f32 (conv32 y) := by
  rw [conv32_key x hx, conv32_key y hy]
  unfold kF at h
  change (if sgn double x then -(rung double x : Int) else (rung double x : Int)) ≤ (if sgn double y then -(rung double y : Int) else (rung double y : Int)) at h
  have m1 := @cR_mono (rung double x) (rung double y)
  have m2 := @cR_mono (rung double y) (rung double x)
  have z1 : rung double x = 0 → cR (rung double x) = 0 := fun e => by rw [e, cR_zero]
  have z2 : rung double y = 0 → cR (rung double y) = 0 := fun e => by rw [e, cR_zero]
  generalize cR (rung double x) = a at *
  generalize cR (rung double y) = b at *
  generalize rung double x = r at *
  generalize rung double y = s at *
  generalize sgn double x = t at *
  generalize sgn double y = u at *
  cases t <;> cases u <;> simp at h ⊢ <;> omega

/-! ### the least and the greatest so far -/
theorem ltK (x y : Nat) : ltF x y = true ↔ isNan .f64 x = false ∧ isNan .f64 y = false ∧ kF .f64 x < kF .f64 y := lt_iffK .f64 x y
theorem gtK (x y : Nat) : gtF x y = true ↔ isNan .f64 x = false ∧ isNan .f64 y = false ∧ kF .f64 y < kF .f64 x := gt_iffK .f64 x y
theorem lev_nan (A : List Nat) : ∀ i, isNan .f64 (levOf A i).l = isNan .f64 (A.getD 0 0) ∧ isNan .f64 (levOf A i).h = isNan .f64 (A.getD 0 0)
  | 0 => ⟨rfl, rfl⟩
  | i + 1 => by
    obtain ⟨h1, h2⟩ := lev_nan A i
    constructor
    · show isNan .f64 (loF (levOf A i).l (A.getD (i + 1) 0)) = _
      unfold loF
      split
      · rename_i h
        obtain ⟨a, b, -⟩ := (ltK _ _).1 h
        rw [a, ← h1, b]
      · exact h1
    · show isNan .f64 (hiF (levOf A i).h (A.getD (i + 1) 0)) = _
      unfold hiF
      split
      · rename_i h
        obtain ⟨a, b, -⟩ := (gtK _ _).1 h
        rw [a, ← h2, b]
      · exact h2
theorem lev_key (A : List Nat) (h0 : isNan .f64 (A.getD 0 0) = false) : ∀ i, kF .f64 (levOf A i).l ≤ kF .f64 (A.getD 0 0) ∧ kF .f64 (A.getD 0 0) ≤ kF .f64 (levOf A i).h
  | 0 => ⟨Int.le_refl _, Int.le_refl _⟩
  | i + 1 => by
    obtain ⟨h1, h2⟩ := lev_key A h0 i
    constructor
    · show kF .f64 (loF (levOf A i).l (A.getD (i + 1) 0)) ≤ _
      unfold loF
      split
      · rename_i h
        obtain ⟨a, b, c⟩ := (ltK _ _).1 h
        omega
      · exact h1
    · show _ ≤ kF .f64 (hiF (levOf A i).h (A.getD (i + 1) 0))
      unfold hiF
      split
      · rename_i h
        obtain ⟨a, b, c⟩ := (gtK _ _).1 h
        omega
      · exact h2
end Go.Proofs.Qxb6500472a
