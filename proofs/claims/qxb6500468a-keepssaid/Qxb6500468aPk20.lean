import Derived.Test.Qxb6500468aPk15
namespace Go.Proofs.Qxb6500468a
open Go.RowKit

theorem expB_ext (u u' : Nat) (ws ws' : List Nat) : ∀ K, (∀ j, j < K → u.testBit j = u'.testBit j ∧ ws.getD j 0 = ws'.getD j 0) → expB u ws K = expB u' ws' K
  | 0, _ => rfl
  | K + 1, h => by
    have a := expB_ext u u' ws ws' K (fun j hj => h j (by omega))
    obtain ⟨b, c⟩ := h K (by omega)
    unfold expB
    rw [a, b, c]
theorem expB_top (u : Nat) (ws : List Nat) (K : Nat) : ∀ n, (∀ j, K ≤ j → j < K + n → u.testBit j = false) → expB u ws (K + n) = expB u ws K
  | 0, _ => rfl
  | n + 1, h => by
    have a := expB_top u ws K n (fun j h1 h2 => h j h1 (by omega))
    have b := h (K + n) (by omega) (by omega)
    show expB u ws ((K + n) + 1) = _
    conv => lhs; unfold expB
    rw [b, if_neg (by simp), a]
theorem expB_put (u : Nat) (ws : List Nat) (k n : Nat) (hu : u < 256) (hk : k < 8) (hl : ws.length = 8) (hz : ∀ j, k ≤ j → j < 8 → u.testBit j = false) : expB (u ||| 2 ^ k) (ws.set k n) 8 = expB u ws 8 ++ recB k n := by
  obtain ⟨-, hb⟩ := bit_add u hu k hk
  have e1 := expB_top (u ||| 2 ^ k) (ws.set k n) (k + 1) (8 - (k + 1)) (fun j h1 h2 => by
    rw [hb j (by omega), hz j (by omega) (by omega)]
    simp; omega)
  rw [show k + 1 + (8 - (k + 1)) = 8 from by omega] at e1
  have e2 := expB_top u ws k (8 - k) (fun j h1 h2 => hz j h1 (by omega))
  rw [show k + (8 - k) = 8 from by omega] at e2
  have e3 := expB_ext (u ||| 2 ^ k) u (ws.set k n) ws k (fun j hj => by
    refine ⟨by rw [hb j (by omega)]; simp; omega, ?_⟩
    rw [getD_set _ _ _ _ (by omega), if_neg (by omega)])
  have e4 : (u ||| 2 ^ k).testBit k = true := by rw [hb k hk]; simp
  rw [e1, e2]
  conv => lhs; unfold expB
  rw [e4, if_pos rfl, e3, getD_set _ _ _ _ (by omega), if_pos rfl]
theorem pop_put : ∀ u, u < 256 → ∀ k, k < 8 → u.testBit k = false → popB (u ||| 2 ^ k) = popB u + 1 := by decide +kernel
theorem rec_bytes (s : List UInt8) (m : Nat) (hm : 8 * m + 8 ≤ s.length) : recB (slotAt s m) (wAt s (8 * m) 7) = (s.drop (8 * m)).take 8 := by
  have h1 := (s.getD (8 * m + 1) 0).toNat_lt
  have h2 := (s.getD (8 * m + 2) 0).toNat_lt
  have h3 := (s.getD (8 * m + 3) 0).toNat_lt
  have h4 := (s.getD (8 * m + 4) 0).toNat_lt
  have h5 := (s.getD (8 * m + 5) 0).toNat_lt
  have h6 := (s.getD (8 * m + 6) 0).toNat_lt
  have h7 := (s.getD (8 * m + 7) 0).toNat_lt
  have hw : wAt s (8 * m) 7 = ((((((0 * 256 + (s.getD (8 * m + 1) 0).toNat) * 256 + (s.getD (8 * m + 2) 0).toNat) * 256 + (s.getD (8 * m + 3) 0).toNat) * 256 + (s.getD (8 * m + 4) 0).toNat) * 256 + (s.getD (8 * m + 5) 0).toNat) * 256 + (s.getD (8 * m + 6) 0).toNat) * 256 + (s.getD (8 * m + 7) 0).toNat := rfl
  have hd : (s.drop (8 * m)).take 8 = [s.getD (8 * m) 0, s.getD (8 * m + 1) 0, s.getD (8 * m + 2) 0, s.getD (8 * m + 3) 0, s.getD (8 * m + 4) 0, s.getD (8 * m + 5) 0, s.getD (8 * m + 6) 0, s.getD (8 * m + 7) 0] := by
    apply List.ext_getElem?
    intro i
    by_cases hi : i < 8
    · rw [List.getElem?_take_of_lt hi, List.getElem?_drop, List.getElem?_eq_getElem (by omega)]
      have : i = 0 ∨ i = 1 ∨ i = 2 ∨ i = 3 ∨ i = 4 ∨ i = 5 ∨ i = 6 ∨ i = 7 := by omega
      rcases this with rfl | rfl | rfl | rfl | rfl | rfl | rfl | rfl <;> simp [List.getD_eq_getElem?_getD, show 8 * m < s.length from by omega, show 8 * m + 1 < s.length from by omega, show 8 * m + 2 < s.length from by omega, show 8 * m + 3 < s.length from by omega, show 8 * m + 4 < s.length from by omega, show 8 * m + 5 < s.length from by omega, show 8 * m + 6 < s.length from by omega, show 8 * m + 7 < s.length from by omega]
    · rw [List.getElem?_eq_none (by simp; omega), List.getElem?_eq_none (by simp; omega)]
  rw [hd, hw]
  unfold recB slotAt
  generalize s.getD (8 * m) 0 = b0
  generalize s.getD (8 * m + 1) 0 = b1 at *
  generalize s.getD (8 * m + 2) 0 = b2 at *
  generalize s.getD (8 * m + 3) 0 = b3 at *
  generalize s.getD (8 * m + 4) 0 = b4 at *
  generalize s.getD (8 * m + 5) 0 = b5 at *
  generalize s.getD (8 * m + 6) 0 = b6 at *
  generalize s.getD (8 * m + 7) 0 = b7 at *
  have e (b : UInt8) (n : Nat) (h : n = b.toNat) : UInt8.ofNat n = b := by rw [h]; exact UInt8.ofNat_toNat
  rw [e b0 _ rfl, e b1 _ (by omega), e b2 _ (by omega), e b3 _ (by omega), e b4 _ (by omega), e b5 _ (by omega), e b6 _ (by omega), e b7 _ (by omega)]
theorem slot_rise (s : List UInt8) (h : imgOk s) : ∀ n i, i + n + 1 < s.length / 8 + 0 → slotAt s i < slotAt s (i + n + 1)
  | 0, i, hi => by
    obtain ⟨-, b⟩ := h.2.2 (i + 1) (by omega)
    rcases b with b | b
    · omega
    · simpa using b
  | n + 1, i, hi => by
    have a := slot_rise s h n i (by omega)
    obtain ⟨-, b⟩ := h.2.2 (i + (n + 1) + 1) (by omega)
    rcases b with b | b
    · omega
    · rw [show i + (n + 1) + 1 - 1 = i + n + 1 from by omega] at b
      omega
theorem slot_lt (s : List UInt8) (h : imgOk s) (i j : Nat) (hij : i < j) (hj : j < s.length / 8) : slotAt s i < slotAt s j := by
  have := slot_rise s h (j - i - 1) i (by omega)
  rwa [show i + (j - i - 1) + 1 = j from by omega] at this
theorem imp_facts (s : List UInt8) (h : imgOk s) : ∀ m, m ≤ s.length / 8 → impU s m < 256 ∧ (impW s m).length = 8 ∧ (∀ j, j < 8 → (impU s m).testBit j = true → ∃ i, i < m ∧ slotAt s i = j) ∧ popB (impU s m) = m ∧ expB (impU s m) (impW s m) 8 = s.take (8 * m) ∧ (∀ i, i < m → (impW s m).getD (slotAt s i) 0 = wAt s (8 * i) 7 ∧ (impU s m).testBit (slotAt s i) = true)
  | 0, _ => ⟨show 0 < 256 by decide, show z8.length = 8 by decide, fun j _ hb => by simp [impU] at hb, show popB 0 = 0 by decide, by simp [impU, expB], fun i hi => by omega⟩
  | m + 1, hm => by
    obtain ⟨a, b, c, d, e, f⟩ := imp_facts s h m (by omega)
    have hk := (h.2.2 m (by omega)).1
    obtain ⟨b1, b2⟩ := bit_add (impU s m) a (slotAt s m) hk
    have hz : ∀ j, slotAt s m ≤ j → j < 8 → (impU s m).testBit j = false := by
      intro j h1 h2
      cases hb : (impU s m).testBit j with
      | false => rfl
      | true =>
        obtain ⟨i, hi, hj⟩ := c j h2 hb
        have := slot_lt s h i m hi (by omega)
        omega
    have h64 := h.1
    have h8 := h.2.1
    refine ⟨b1, by show ((impW s m).set _ _).length = 8; rw [List.length_set, b], ?_, ?_, ?_, ?_⟩
    · intro j hj hb
      have hb' : (impU s m ||| 2 ^ slotAt s m).testBit j = true := hb
      rw [b2 j hj, Bool.or_eq_true] at hb'
      rcases hb' with hb' | hb'
      · obtain ⟨i, hi, e'⟩ := c j hj hb'
        exact ⟨i, by omega, e'⟩
      · exact ⟨m, by omega, by simpa using hb'⟩
    · show popB (impU s m ||| 2 ^ slotAt s m) = m + 1
      rw [pop_put _ a _ hk (hz _ (Nat.le_refl _) hk), d]
    · show expB (impU s m ||| 2 ^ slotAt s m) ((impW s m).set (slotAt s m) (wAt s (8 * m) 7)) 8 = _
      rw [expB_put _ _ _ _ a hk b hz, e, rec_bytes s m (by omega), show 8 * (m + 1) = 8 * m + 8 from by omega, List.take_add]
    · intro i hi
      show ((impW s m).set (slotAt s m) (wAt s (8 * m) 7)).getD (slotAt s i) 0 = _ ∧ (impU s m ||| 2 ^ slotAt s m).testBit (slotAt s i) = true
      have hi8 := (h.2.2 i (by omega)).1
      rw [getD_set _ _ _ _ (by omega), b2 _ hi8]
      by_cases he : i = m
      · subst he
        rw [if_pos rfl]
        exact ⟨rfl, by simp⟩
      · have := slot_lt s h i m (by omega) (by omega)
        obtain ⟨f1, f2⟩ := f i (by omega)
        rw [if_neg (by omega), f1, f2]
        exact ⟨rfl, by simp⟩
theorem exp_all (s : List UInt8) (h : imgOk s) : expB (impU s (s.length / 8)) (impW s (s.length / 8)) 8 = s := by
  have := (imp_facts s h _ (Nat.le_refl _)).2.2.2.2.1
  have h8 := h.2.1
  rw [this, List.take_of_length_le (by omega)]
theorem pop_all (s : List UInt8) (h : imgOk s) : popB (impU s (s.length / 8)) = s.length / 8 := (imp_facts s h _ (Nat.le_refl _)).2.2.2.1
end Go.Proofs.Qxb6500468a
