import Derived.Test.Qxb6500472aFloK1
namespace Go.Proofs.Qxb6500472a
open Go.RowKit
open Ieee (Format Datum double single Toward)

/-! ### one text a float -/
def num (l : List UInt8) : Nat := l.foldl (fun a c => a * 10 + (c.toNat - 48)) 0
theorem num_snoc (l : List UInt8) (c : UInt8) : num (l ++ [c]) = num l * 10 + (c.toNat - 48) := by unfold num; rw [List.foldl_append]; rfl
theorem digit_toNat (k : Nat) : (UInt8.ofNat (48 + k % 10)).toNat = 48 + k % 10 := by
  rw [UInt8.toNat_ofNat']; omega
theorem dg_num (k : Nat) : num (dg k) = k ∧ ∀ c ∈ dg k, 48 ≤ c.toNat ∧ c.toNat ≤ 57 := by
  induction k using Nat.strongRecOn with
  | _ k ih =>
    by_cases h : k = 0
    · subst h; rw [dg_zero]; exact ⟨rfl, by simp⟩
    · obtain ⟨i1, i2⟩ := ih (k / 10) (by omega)
      rw [dg_pos k h]
      refine ⟨?_, ?_⟩
      · rw [num_snoc, i1, digit_toNat]; omega
      · intro c hc
        rcases List.mem_append.1 hc with hc | hc
        · exact i2 c hc
        · obtain rfl : c = UInt8.ofNat (48 + k % 10) := by simpa using hc
          rw [digit_toNat]; omega
theorem itoa_form (n : Int) : ∃ D, itoa n = (if n < 0 then [45] else []) ++ D ∧ num D = n.natAbs ∧ ∀ c ∈ D, 48 ≤ c.toNat ∧ c.toNat ≤ 57 := by
  unfold itoa
  by_cases h0 : n = 0
  · subst h0
    exact ⟨[48], rfl, rfl, by intro c hc; obtain rfl : c = 48 := by simpa using hc
                              decide⟩
  · rw [if_neg h0]
    refine ⟨dg n.natAbs, ?_, (dg_num _).1, (dg_num _).2⟩
    split <;> rfl
theorem itoa_inj {m n : Int} (h : itoa m = itoa n) : m = n := by
  obtain ⟨D, e1, n1, d1⟩ := itoa_form m
  obtain ⟨E, e2, n2, d2⟩ := itoa_form n
  rw [e1, e2] at h
  have no : ∀ (l r : List UInt8), (∀ c ∈ r, 48 ≤ c.toNat ∧ c.toNat ≤ 57) → 45 :: l ≠ r := by
    intro l r hr e
    have := hr 45 (by rw [← e]; simp)
    simp at this
  by_cases hm : m < 0 <;> by_cases hn : n < 0
  · rw [if_pos hm, if_pos hn] at h
    have e : D = E := by simpa using h
    subst e; omega
  · rw [if_pos hm, if_neg hn] at h
    exact absurd h (no D E d2)
  · rw [if_neg hm, if_pos hn] at h
    exact absurd h.symm (no E D d1)
  · rw [if_neg hm, if_neg hn] at h
    have e : D = E := by simpa using h
    subst e; omega
theorem itoa_no_p (n : Int) : (112 : UInt8) ∉ itoa n := by
  obtain ⟨D, e1, -, d1⟩ := itoa_form n
  rw [e1]
  intro h
  rcases List.mem_append.1 h with h | h
  · split at h <;> simp at h
  · have := d1 _ h; simp at this
theorem split_p : ∀ {l1 l2 r1 r2 : List UInt8}, l1 ++ [112] ++ r1 = l2 ++ [112] ++ r2 → (112 : UInt8) ∉ l1 → (112 : UInt8) ∉ l2 → l1 = l2 ∧ r1 = r2
  | [], [], r1, r2, h, _, _ => ⟨rfl, by simpa using h⟩
  | [], b :: l2, r1, r2, h, _, h2 => by
    simp at h
    exact absurd (by rw [← h.1]; simp) h2
  | a :: l1, [], r1, r2, h, h1, _ => by
    simp at h
    exact absurd (by rw [h.1]; simp) h1
  | a :: l1, b :: l2, r1, r2, h, h1, h2 => by
    simp only [List.cons_append, List.cons.injEq] at h
    obtain ⟨rfl, h⟩ := h
    obtain ⟨e1, e2⟩ := split_p (l1 := l1) (l2 := l2) (r1 := r1) (r2 := r2) (by simpa using h) (fun hm => h1 (by simp [hm])) (fun hm => h2 (by simp [hm]))
    exact ⟨by rw [e1], e2⟩
theorem mant_exact (r : Nat) (h0 : 0 < r) : valR double r * 2 ^ 52 = mant (valR double r) * 2 ^ (valR double r).log2 := by
  rcases Nat.lt_or_ge r 4503599627370496 with h | h
  · have e : valR double r = r := valR_small double r (by rw [bin64]; exact h)
    rw [e]
    have hl : r.log2 < 52 := (Nat.log2_lt (by omega)).2 h
    unfold mant
    rw [if_neg (by omega), Nat.mul_assoc, ← Nat.pow_add]
    congr 2; omega
  · obtain ⟨hl, -⟩ := valR_log2 double r (by rw [bin64]; exact h)
    have e : valR double r = (4503599627370496 + r % 4503599627370496) * 2 ^ (r / 4503599627370496 - 1) := by
      unfold valR; rw [bin64, if_neg (by omega)]
    have hf : double.fractionBits = 52 := rfl
    rw [hf, bin64] at hl
    unfold mant
    rw [hl, if_pos (by omega), show 52 + (r / 4503599627370496 - 1) - 52 = r / 4503599627370496 - 1 from by omega, e, Nat.mul_div_cancel _ (pow_pos' _)]
    rw [Nat.mul_assoc, ← Nat.pow_add, Nat.add_comm (r / 4503599627370496 - 1) 52]
theorem text_fin (x : Nat) (h1 : rung double x ≠ 0) (h2 : rung double x < 9218868437227405312) : text64 x = (if sgn double x then [45] else [43]) ++ (itoa (mant (valR double (rung double x)) : Nat) ++ [112] ++ itoa (expo (valR double (rung double x)))) := by
  unfold text64
  have h3 : ¬ rung double x = 9218868437227405312 := by omega
  have h4 : ¬ 9218868437227405312 < rung double x := by omega
  rw [if_neg h4, if_neg h1, if_neg h3]
theorem text_p (x : Nat) : (112 : UInt8) ∈ text64 x ↔ rung double x ≠ 0 ∧ rung double x < 9218868437227405312 := by
  constructor
  · intro h
    unfold text64 at h
    by_cases h1 : 9218868437227405312 < rung double x
    · rw [if_pos h1] at h; simp at h
    · rw [if_neg h1] at h
      by_cases h2 : rung double x = 0
      · rw [if_pos h2] at h
        split at h <;> simp at h
      · rw [if_neg h2] at h
        refine ⟨h2, ?_⟩
        by_cases h3 : rung double x = 9218868437227405312
        · rw [if_pos h3] at h
          split at h <;> simp at h
        · omega
  · rintro ⟨h1, h2⟩
    rw [text_fin x h1 h2]
    simp
theorem text_odd (x : Nat) (h : ¬ (rung double x ≠ 0 ∧ rung double x < 9218868437227405312)) : (9218868437227405312 < rung double x ∧ text64 x = [78, 97, 78]) ∨ (rung double x = 0 ∧ text64 x = if sgn double x then [45, 48] else [43, 48]) ∨ (rung double x = 9218868437227405312 ∧ text64 x = if sgn double x then [45, 73, 110, 102] else [43, 73, 110, 102]) := by
  unfold text64
  by_cases h1 : 9218868437227405312 < rung double x
  · exact .inl ⟨h1, by rw [if_pos h1]⟩
  · rw [if_neg h1]
    by_cases h2 : rung double x = 0
    · exact .inr (.inl ⟨h2, by rw [if_pos h2]⟩)
    · have h3 : rung double x = 9218868437227405312 := by omega
      refine .inr (.inr ⟨h3, ?_⟩)
      rw [if_neg h2, if_pos h3]
      cases sgn double x <;> rfl
/-- The same float. -/
def sameP (a b : Nat) : Prop := (9218868437227405312 < rung double a ∧ 9218868437227405312 < rung double b) ∨ (rung double a ≤ 9218868437227405312 ∧ rung double b ≤ 9218868437227405312 ∧ sgn double a = sgn double b ∧ rung double a = rung double b)
theorem text_same (a b : Nat) : text64 a = text64 b ↔ sameP a b := by
  constructor
  · intro h
    by_cases ha : rung double a ≠ 0 ∧ rung double a < 9218868437227405312
    · have hb : rung double b ≠ 0 ∧ rung double b < 9218868437227405312 := (text_p b).1 (by rw [← h]; exact (text_p a).2 ha)
      rw [text_fin a ha.1 ha.2, text_fin b hb.1 hb.2] at h
      have hs : sgn double a = sgn double b ∧ (itoa (mant (valR double (rung double a)) : Nat) ++ [112] ++ itoa (expo (valR double (rung double a))) = itoa (mant (valR double (rung double b)) : Nat) ++ [112] ++ itoa (expo (valR double (rung double b)))) := by
        cases ea : sgn double a <;> cases eb : sgn double b <;> rw [ea, eb] at h <;> simp at h ⊢ <;> exact h
      obtain ⟨e1, e2⟩ := split_p hs.2 (itoa_no_p _) (itoa_no_p _)
      have m1 : mant (valR double (rung double a)) = mant (valR double (rung double b)) := by have := itoa_inj e1; omega
      have m2 : (valR double (rung double a)).log2 = (valR double (rung double b)).log2 := by have := itoa_inj e2; unfold expo at this; omega
      have x1 := mant_exact (rung double a) (by omega)
      have x2 := mant_exact (rung double b) (by omega)
      rw [m1, m2, ← x2] at x1
      have hv : valR double (rung double a) = valR double (rung double b) := Nat.eq_of_mul_eq_mul_right (pow_pos' 52) x1
      exact .inr ⟨by omega, by omega, hs.1, valR_inj double hv⟩
    · have hb : ¬ (rung double b ≠ 0 ∧ rung double b < 9218868437227405312) := fun hb => ha ((text_p a).1 (by rw [h]; exact (text_p b).2 hb))
      rcases text_odd a ha with ⟨a1, a2⟩ | ⟨a1, a2⟩ | ⟨a1, a2⟩ <;> rcases text_odd b hb with ⟨b1, b2⟩ | ⟨b1, b2⟩ | ⟨b1, b2⟩ <;> rw [a2, b2] at h
      · exact .inl ⟨a1, b1⟩
      · split at h <;> simp at h
      · split at h <;> simp at h
      · split at h <;> simp at h
      · refine .inr ⟨by omega, by omega, ?_, by omega⟩
        cases ea : sgn double a <;> cases eb : sgn double b <;> rw [ea, eb] at h <;> simp at h ⊢
      · cases ea : sgn double a <;> cases eb : sgn double b <;> rw [ea, eb] at h <;> simp at h
      · split at h <;> simp at h
      · cases ea : sgn double a <;> cases eb : sgn double b <;> rw [ea, eb] at h <;> simp at h
      · refine .inr ⟨by omega, by omega, ?_, by omega⟩
        cases ea : sgn double a <;> cases eb : sgn double b <;> rw [ea, eb] at h <;> simp at h ⊢
  · rintro (⟨h1, h2⟩ | ⟨h1, h2, h3, h4⟩)
    · unfold text64; rw [if_pos h1, if_pos h2]
    · unfold text64; rw [h3, h4]
end Go.Proofs.Qxb6500472a
