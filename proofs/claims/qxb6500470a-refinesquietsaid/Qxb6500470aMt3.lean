import Derived.Test.Qxb6500470aMt2
namespace Go.Proofs.Qxb6500470a
open Go.RowKit
set_option maxRecDepth 100000 in
set_option maxHeartbeats 4000000 in
theorem numberT_D (K : Nat → Prop) (w : World) (m p : Nat) (acc : Int) (l : List TV) (h : MacT K w m p acc l) (s : List UInt8) (i : Nat) (hs : s.length ≤ 24)
    (c0 : UInt8) (hc0 : s[i + 1]? = some c0) (h43 : ((c0.toNat : Int) == 43) = false) (h45 : ((c0.toNat : Int) == 45) = false) (N : Nat) (V : Int) (HN : digs (s.drop (i + 1)) 0 0 = (N, V)) :
    Calls Try.prog 63 #[ptr m, S s, I i] w fun e w' => (N = 0 ∧ e = .returned (.tuple #[I 1, I 11]) ∧ w' = w) ∨ (0 < N ∧ e = .returned (.tuple #[I (1 + N), I (wPush (.int (V)) l).2]) ∧ Tm K w m p acc (wPush (.int (V)) l).1 w') := by
  have hz := str_size s
  have hz2 : (str s).size ≤ 24 := by omega
  have hj : i + 1 < s.length := (List.getElem?_eq_some_iff.1 hc0).1
  have hj' : ((i : Int) + 1) < ((str s).size : Int) := by omega
  have hj0 : 0 ≤ ((i : Int) + 1) := by omega
  have HM : Hid (MacT K w m p acc l) := h
  have HNN : Hid _ := HN
  have hat : ∀ j, j < s.length → ∃ c : UInt8, s[j]? = some c ∧ ∀ h, ((str s)[j]'h).toNat = c.toNat := fun j hj => ⟨s[j], List.getElem?_eq_getElem hj, str_get s j _ (List.getElem?_eq_getElem hj)⟩
  have HAT : Hid _ := hat
  have g0 := str_get s (i + 1) c0 hc0
  clear h HN hat hc0
  generalize c0.toNat = c at *
  have hz3 : s.length ≤ 24 := hs
  go_enter Try.func63, Try.ntmps63
  go_wp2
  go_loopw [8, 10] (fun j v wr => ∃ (k : Nat) (x : Int), i + 1 + k ≤ s.length ∧ j = I ((i : Int) + 1 + k) ∧ v = I x ∧ Hid (digs (s.drop (i + 1 + k)) x k = (N, V)) ∧ -9223372036854775808 ≤ x ∧ x ≤ 9223372036854775807 ∧ wr = w) (fun j _ _ => (s.length - intOf j).toNat)
  case atStart => exact ⟨0, 0, by omega, by simp, rfl, HNN.out, by omega, by omega, rfl⟩
  case round =>
    clear g0 hj' hj0 h43 h45
    obtain ⟨k, x, hk, rfl, rfl, HX, x1, x2, rfl⟩ := hrel
    have q0 : 0 ≤ (i : Int) + 1 + k := by omega
    have d0 := HM.out.at0.1
    by_cases hlt : i + 1 + k < s.length
    · have q1 : (i : Int) + 1 + k < (s.length : Int) := by omega
      obtain ⟨c1, hc1, g1⟩ := HAT.out _ hlt
      cases hd : isDg c1 with
      | true =>
        have HD : Hid _ := digs_one s _ x k c1 hc1 hd
        obtain ⟨d1, d2⟩ : 48 ≤ c1.toNat ∧ c1.toNat ≤ 57 := by simpa [isDg] using hd
        clear hd hc1
        generalize c1.toNat = c2 at *
        have d1' : (48 : Int) ≤ (c2 : Int) := by omega
        have d2' : (c2 : Int) ≤ 57 := by omega
        go_wp2
        go_roundw
        case rel =>
          obtain ⟨y1, y2⟩ := w64_bounds (wrap64 (x * 10) + ((c2 : Int) - 48))
          exact ⟨k + 1, _, by omega, by go_num, rfl, HD.out.symm.trans HX.out, y1, y2, trivial⟩
        case measure => simp [intOf]; omega
      | false =>
        have HE : Hid (k = N ∧ x = V) := by
          have := (digs_not s _ x k c1 hc1 hd).symm.trans HX.out
          show k = N ∧ x = V
          simpa using this
        obtain hd2 : c1.toNat < 48 ∨ (48 ≤ c1.toNat ∧ 57 < c1.toNat) := by
          have : ¬ (48 ≤ c1.toNat ∧ c1.toNat ≤ 57) := by simpa [isDg] using hd
          omega
        clear hd hc1 HX
        generalize c1.toNat = c2 at *
        rcases Nat.eq_zero_or_pos k with hk0 | hk0
        · have ek : ((i : Int) + 1 + (k : Int) == (i : Int) + 1) = true := by simp; omega
          have HK0 : Hid _ := hk0
          clear hk0
          rcases hd2 with d1 | ⟨d1, d2⟩
          · have d1' : ¬ (48 : Int) ≤ (c2 : Int) := by omega
            go_wp2
            go_ret2
            exact .inl ⟨HE.out.1.symm.trans HK0.out, rfl, rfl⟩
          · have d1' : (48 : Int) ≤ (c2 : Int) := by omega
            have d2' : ¬ (c2 : Int) ≤ 57 := by omega
            go_wp2
            go_ret2
            exact .inl ⟨HE.out.1.symm.trans HK0.out, rfl, rfl⟩
        · have ek : ((i : Int) + 1 + (k : Int) == (i : Int) + 1) = false := by simp; omega
          have ew : (i : Int) + 1 + (k : Int) - (i : Int) = 1 + (k : Int) := by omega
          rcases hd2 with d1 | ⟨d1, d2⟩
          · have d1' : ¬ (48 : Int) ≤ (c2 : Int) := by omega
            go_wp2_with fail
            refine (pushI_w _ wr p _ HM.out.st (x) x1 x2).mono ?_
            rintro e w2 ⟨rfl, tn⟩
            have m2 := HM.out.word tn (wPush_fine _ _ (int_fine _ x1 x2) HM.out.ok)
            go_wp2
            go_ret2
            obtain ⟨rfl, rfl⟩ := HE.out
            exact .inr ⟨hk0, rfl, m2⟩
          · have d1' : (48 : Int) ≤ (c2 : Int) := by omega
            have d2' : ¬ (c2 : Int) ≤ 57 := by omega
            go_wp2_with fail
            refine (pushI_w _ wr p _ HM.out.st (x) x1 x2).mono ?_
            rintro e w2 ⟨rfl, tn⟩
            have m2 := HM.out.word tn (wPush_fine _ _ (int_fine _ x1 x2) HM.out.ok)
            go_wp2
            go_ret2
            obtain ⟨rfl, rfl⟩ := HE.out
            exact .inr ⟨hk0, rfl, m2⟩
    · have q1 : ¬ ((i : Int) + 1 + k < (s.length : Int)) := by omega
      have HE : Hid (k = N ∧ x = V) := by
        have := (digs_end s _ x k (show s.length ≤ i + 1 + k by omega)).symm.trans HX.out
        show k = N ∧ x = V
        simpa using this
      clear HX
      rcases Nat.eq_zero_or_pos k with hk0 | hk0
      · have ek : ((i : Int) + 1 + (k : Int) == (i : Int) + 1) = true := by simp; omega
        have HK0 : Hid _ := hk0
        clear hk0
        exact absurd HK0.out (by omega)
      · have ek : ((i : Int) + 1 + (k : Int) == (i : Int) + 1) = false := by simp; omega
        have ew : (i : Int) + 1 + (k : Int) - (i : Int) = 1 + (k : Int) := by omega
        go_wp2_with fail
        refine (pushI_w _ wr p _ HM.out.st (x) x1 x2).mono ?_
        rintro e w2 ⟨rfl, tn⟩
        have m2 := HM.out.word tn (wPush_fine _ _ (int_fine _ x1 x2) HM.out.ok)
        go_wp2
        go_ret2
        obtain ⟨rfl, rfl⟩ := HE.out
        exact .inr ⟨hk0, rfl, m2⟩
set_option maxRecDepth 100000 in
set_option maxHeartbeats 4000000 in
theorem numberT_P (K : Nat → Prop) (w : World) (m p : Nat) (acc : Int) (l : List TV) (h : MacT K w m p acc l) (s : List UInt8) (i : Nat) (hs : s.length ≤ 24)
    (c0 : UInt8) (hc0 : s[i + 1]? = some c0) (h43 : c0.toNat = 43) (N : Nat) (V : Int) (HN : digs (s.drop (i + 1 + 1)) 0 0 = (N, V)) :
    Calls Try.prog 63 #[ptr m, S s, I i] w fun e w' => (N = 0 ∧ e = .returned (.tuple #[I 1, I 11]) ∧ w' = w) ∨ (0 < N ∧ e = .returned (.tuple #[I (2 + N), I (wPush (.int (V)) l).2]) ∧ Tm K w m p acc (wPush (.int (V)) l).1 w') := by
  have hz := str_size s
  have hz2 : (str s).size ≤ 24 := by omega
  have hj : i + 1 < s.length := (List.getElem?_eq_some_iff.1 hc0).1
  have hj' : ((i : Int) + 1) < ((str s).size : Int) := by omega
  have hj0 : 0 ≤ ((i : Int) + 1) := by omega
  have HM : Hid (MacT K w m p acc l) := h
  have HNN : Hid _ := HN
  have hat : ∀ j, j < s.length → ∃ c : UInt8, s[j]? = some c ∧ ∀ h, ((str s)[j]'h).toNat = c.toNat := fun j hj => ⟨s[j], List.getElem?_eq_getElem hj, str_get s j _ (List.getElem?_eq_getElem hj)⟩
  have HAT : Hid _ := hat
  have g0 := str_get s (i + 1) c0 hc0
  clear h HN hat hc0
  generalize c0.toNat = c at *
  subst h43
  have hz3 : s.length ≤ 24 := hs
  go_enter Try.func63, Try.ntmps63
  go_wp2
  go_loopw [8, 10] (fun j v wr => ∃ (k : Nat) (x : Int), i + 1 + 1 + k ≤ s.length ∧ j = I ((i : Int) + 1 + 1 + k) ∧ v = I x ∧ Hid (digs (s.drop (i + 1 + 1 + k)) x k = (N, V)) ∧ -9223372036854775808 ≤ x ∧ x ≤ 9223372036854775807 ∧ wr = w) (fun j _ _ => (s.length - intOf j).toNat)
  case atStart => exact ⟨0, 0, by omega, by simp, rfl, HNN.out, by omega, by omega, rfl⟩
  case round =>
    clear g0 hj' hj0
    obtain ⟨k, x, hk, rfl, rfl, HX, x1, x2, rfl⟩ := hrel
    have q0 : 0 ≤ (i : Int) + 1 + 1 + k := by omega
    have d0 := HM.out.at0.1
    by_cases hlt : i + 1 + 1 + k < s.length
    · have q1 : (i : Int) + 1 + 1 + k < (s.length : Int) := by omega
      obtain ⟨c1, hc1, g1⟩ := HAT.out _ hlt
      cases hd : isDg c1 with
      | true =>
        have HD : Hid _ := digs_one s _ x k c1 hc1 hd
        obtain ⟨d1, d2⟩ : 48 ≤ c1.toNat ∧ c1.toNat ≤ 57 := by simpa [isDg] using hd
        clear hd hc1
        generalize c1.toNat = c2 at *
        have d1' : (48 : Int) ≤ (c2 : Int) := by omega
        have d2' : (c2 : Int) ≤ 57 := by omega
        go_wp2
        go_roundw
        case rel =>
          obtain ⟨y1, y2⟩ := w64_bounds (wrap64 (x * 10) + ((c2 : Int) - 48))
          exact ⟨k + 1, _, by omega, by go_num, rfl, HD.out.symm.trans HX.out, y1, y2, trivial⟩
        case measure => simp [intOf]; omega
      | false =>
        have HE : Hid (k = N ∧ x = V) := by
          have := (digs_not s _ x k c1 hc1 hd).symm.trans HX.out
          show k = N ∧ x = V
          simpa using this
        obtain hd2 : c1.toNat < 48 ∨ (48 ≤ c1.toNat ∧ 57 < c1.toNat) := by
          have : ¬ (48 ≤ c1.toNat ∧ c1.toNat ≤ 57) := by simpa [isDg] using hd
          omega
        clear hd hc1 HX
        generalize c1.toNat = c2 at *
        rcases Nat.eq_zero_or_pos k with hk0 | hk0
        · have ek : ((i : Int) + 1 + 1 + (k : Int) == (i : Int) + 1 + 1) = true := by simp; omega
          have HK0 : Hid _ := hk0
          clear hk0
          rcases hd2 with d1 | ⟨d1, d2⟩
          · have d1' : ¬ (48 : Int) ≤ (c2 : Int) := by omega
            go_wp2
            go_ret2
            exact .inl ⟨HE.out.1.symm.trans HK0.out, rfl, rfl⟩
          · have d1' : (48 : Int) ≤ (c2 : Int) := by omega
            have d2' : ¬ (c2 : Int) ≤ 57 := by omega
            go_wp2
            go_ret2
            exact .inl ⟨HE.out.1.symm.trans HK0.out, rfl, rfl⟩
        · have ek : ((i : Int) + 1 + 1 + (k : Int) == (i : Int) + 1 + 1) = false := by simp; omega
          have ew : (i : Int) + 1 + 1 + (k : Int) - (i : Int) = 2 + (k : Int) := by omega
          rcases hd2 with d1 | ⟨d1, d2⟩
          · have d1' : ¬ (48 : Int) ≤ (c2 : Int) := by omega
            go_wp2_with fail
            refine (pushI_w _ wr p _ HM.out.st (x) x1 x2).mono ?_
            rintro e w2 ⟨rfl, tn⟩
            have m2 := HM.out.word tn (wPush_fine _ _ (int_fine _ x1 x2) HM.out.ok)
            go_wp2
            go_ret2
            obtain ⟨rfl, rfl⟩ := HE.out
            exact .inr ⟨hk0, rfl, m2⟩
          · have d1' : (48 : Int) ≤ (c2 : Int) := by omega
            have d2' : ¬ (c2 : Int) ≤ 57 := by omega
            go_wp2_with fail
            refine (pushI_w _ wr p _ HM.out.st (x) x1 x2).mono ?_
            rintro e w2 ⟨rfl, tn⟩
            have m2 := HM.out.word tn (wPush_fine _ _ (int_fine _ x1 x2) HM.out.ok)
            go_wp2
            go_ret2
            obtain ⟨rfl, rfl⟩ := HE.out
            exact .inr ⟨hk0, rfl, m2⟩
    · have q1 : ¬ ((i : Int) + 1 + 1 + k < (s.length : Int)) := by omega
      have HE : Hid (k = N ∧ x = V) := by
        have := (digs_end s _ x k (show s.length ≤ i + 1 + 1 + k by omega)).symm.trans HX.out
        show k = N ∧ x = V
        simpa using this
      clear HX
      rcases Nat.eq_zero_or_pos k with hk0 | hk0
      · have ek : ((i : Int) + 1 + 1 + (k : Int) == (i : Int) + 1 + 1) = true := by simp; omega
        have HK0 : Hid _ := hk0
        clear hk0
        go_wp2
        go_ret2
        exact .inl ⟨HE.out.1.symm.trans HK0.out, rfl, rfl⟩
      · have ek : ((i : Int) + 1 + 1 + (k : Int) == (i : Int) + 1 + 1) = false := by simp; omega
        have ew : (i : Int) + 1 + 1 + (k : Int) - (i : Int) = 2 + (k : Int) := by omega
        go_wp2_with fail
        refine (pushI_w _ wr p _ HM.out.st (x) x1 x2).mono ?_
        rintro e w2 ⟨rfl, tn⟩
        have m2 := HM.out.word tn (wPush_fine _ _ (int_fine _ x1 x2) HM.out.ok)
        go_wp2
        go_ret2
        obtain ⟨rfl, rfl⟩ := HE.out
        exact .inr ⟨hk0, rfl, m2⟩
set_option maxRecDepth 100000 in
set_option maxHeartbeats 4000000 in
theorem numberT_M (K : Nat → Prop) (w : World) (m p : Nat) (acc : Int) (l : List TV) (h : MacT K w m p acc l) (s : List UInt8) (i : Nat) (hs : s.length ≤ 24)
    (c0 : UInt8) (hc0 : s[i + 1]? = some c0) (h43 : c0.toNat = 45) (N : Nat) (V : Int) (HN : digs (s.drop (i + 1 + 1)) 0 0 = (N, V)) :
    Calls Try.prog 63 #[ptr m, S s, I i] w fun e w' => (N = 0 ∧ e = .returned (.tuple #[I 1, I 11]) ∧ w' = w) ∨ (0 < N ∧ e = .returned (.tuple #[I (2 + N), I (wPush (.int (wrap64 (-V))) l).2]) ∧ Tm K w m p acc (wPush (.int (wrap64 (-V))) l).1 w') := by
  have hz := str_size s
  have hz2 : (str s).size ≤ 24 := by omega
  have hj : i + 1 < s.length := (List.getElem?_eq_some_iff.1 hc0).1
  have hj' : ((i : Int) + 1) < ((str s).size : Int) := by omega
  have hj0 : 0 ≤ ((i : Int) + 1) := by omega
  have HM : Hid (MacT K w m p acc l) := h
  have HNN : Hid _ := HN
  have hat : ∀ j, j < s.length → ∃ c : UInt8, s[j]? = some c ∧ ∀ h, ((str s)[j]'h).toNat = c.toNat := fun j hj => ⟨s[j], List.getElem?_eq_getElem hj, str_get s j _ (List.getElem?_eq_getElem hj)⟩
  have HAT : Hid _ := hat
  have g0 := str_get s (i + 1) c0 hc0
  clear h HN hat hc0
  generalize c0.toNat = c at *
  subst h43
  have hz3 : s.length ≤ 24 := hs
  go_enter Try.func63, Try.ntmps63
  go_wp2
  go_loopw [8, 10] (fun j v wr => ∃ (k : Nat) (x : Int), i + 1 + 1 + k ≤ s.length ∧ j = I ((i : Int) + 1 + 1 + k) ∧ v = I x ∧ Hid (digs (s.drop (i + 1 + 1 + k)) x k = (N, V)) ∧ -9223372036854775808 ≤ x ∧ x ≤ 9223372036854775807 ∧ wr = w) (fun j _ _ => (s.length - intOf j).toNat)
  case atStart => exact ⟨0, 0, by omega, by simp, rfl, HNN.out, by omega, by omega, rfl⟩
  case round =>
    clear g0 hj' hj0
    obtain ⟨k, x, hk, rfl, rfl, HX, x1, x2, rfl⟩ := hrel
    have q0 : 0 ≤ (i : Int) + 1 + 1 + k := by omega
    have d0 := HM.out.at0.1
    by_cases hlt : i + 1 + 1 + k < s.length
    · have q1 : (i : Int) + 1 + 1 + k < (s.length : Int) := by omega
      obtain ⟨c1, hc1, g1⟩ := HAT.out _ hlt
      cases hd : isDg c1 with
      | true =>
        have HD : Hid _ := digs_one s _ x k c1 hc1 hd
        obtain ⟨d1, d2⟩ : 48 ≤ c1.toNat ∧ c1.toNat ≤ 57 := by simpa [isDg] using hd
        clear hd hc1
        generalize c1.toNat = c2 at *
        have d1' : (48 : Int) ≤ (c2 : Int) := by omega
        have d2' : (c2 : Int) ≤ 57 := by omega
        go_wp2
        go_roundw
        case rel =>
          obtain ⟨y1, y2⟩ := w64_bounds (wrap64 (x * 10) + ((c2 : Int) - 48))
          exact ⟨k + 1, _, by omega, by go_num, rfl, HD.out.symm.trans HX.out, y1, y2, trivial⟩
        case measure => simp [intOf]; omega
      | false =>
        have HE : Hid (k = N ∧ x = V) := by
          have := (digs_not s _ x k c1 hc1 hd).symm.trans HX.out
          show k = N ∧ x = V
          simpa using this
        obtain hd2 : c1.toNat < 48 ∨ (48 ≤ c1.toNat ∧ 57 < c1.toNat) := by
          have : ¬ (48 ≤ c1.toNat ∧ c1.toNat ≤ 57) := by simpa [isDg] using hd
          omega
        clear hd hc1 HX
        generalize c1.toNat = c2 at *
        rcases Nat.eq_zero_or_pos k with hk0 | hk0
        · have ek : ((i : Int) + 1 + 1 + (k : Int) == (i : Int) + 1 + 1) = true := by simp; omega
          have HK0 : Hid _ := hk0
          clear hk0
          rcases hd2 with d1 | ⟨d1, d2⟩
          · have d1' : ¬ (48 : Int) ≤ (c2 : Int) := by omega
            go_wp2
            go_ret2
            exact .inl ⟨HE.out.1.symm.trans HK0.out, rfl, rfl⟩
          · have d1' : (48 : Int) ≤ (c2 : Int) := by omega
            have d2' : ¬ (c2 : Int) ≤ 57 := by omega
            go_wp2
            go_ret2
            exact .inl ⟨HE.out.1.symm.trans HK0.out, rfl, rfl⟩
        · have ek : ((i : Int) + 1 + 1 + (k : Int) == (i : Int) + 1 + 1) = false := by simp; omega
          have ew : (i : Int) + 1 + 1 + (k : Int) - (i : Int) = 2 + (k : Int) := by omega
          rcases hd2 with d1 | ⟨d1, d2⟩
          · have d1' : ¬ (48 : Int) ≤ (c2 : Int) := by omega
            go_wp2_with fail
            refine (pushI_w _ wr p _ HM.out.st (wrap64 (-x)) (w64_bounds _).1 (w64_bounds _).2).mono ?_
            rintro e w2 ⟨rfl, tn⟩
            have m2 := HM.out.word tn (wPush_fine _ _ (int_fine _ (w64_bounds _).1 (w64_bounds _).2) HM.out.ok)
            go_wp2
            go_ret2
            obtain ⟨rfl, rfl⟩ := HE.out
            exact .inr ⟨hk0, rfl, m2⟩
          · have d1' : (48 : Int) ≤ (c2 : Int) := by omega
            have d2' : ¬ (c2 : Int) ≤ 57 := by omega
            go_wp2_with fail
            refine (pushI_w _ wr p _ HM.out.st (wrap64 (-x)) (w64_bounds _).1 (w64_bounds _).2).mono ?_
            rintro e w2 ⟨rfl, tn⟩
            have m2 := HM.out.word tn (wPush_fine _ _ (int_fine _ (w64_bounds _).1 (w64_bounds _).2) HM.out.ok)
            go_wp2
            go_ret2
            obtain ⟨rfl, rfl⟩ := HE.out
            exact .inr ⟨hk0, rfl, m2⟩
    · have q1 : ¬ ((i : Int) + 1 + 1 + k < (s.length : Int)) := by omega
      have HE : Hid (k = N ∧ x = V) := by
        have := (digs_end s _ x k (show s.length ≤ i + 1 + 1 + k by omega)).symm.trans HX.out
        show k = N ∧ x = V
        simpa using this
      clear HX
      rcases Nat.eq_zero_or_pos k with hk0 | hk0
      · have ek : ((i : Int) + 1 + 1 + (k : Int) == (i : Int) + 1 + 1) = true := by simp; omega
        have HK0 : Hid _ := hk0
        clear hk0
        go_wp2
        go_ret2
        exact .inl ⟨HE.out.1.symm.trans HK0.out, rfl, rfl⟩
      · have ek : ((i : Int) + 1 + 1 + (k : Int) == (i : Int) + 1 + 1) = false := by simp; omega
        have ew : (i : Int) + 1 + 1 + (k : Int) - (i : Int) = 2 + (k : Int) := by omega
        go_wp2_with fail
        refine (pushI_w _ wr p _ HM.out.st (wrap64 (-x)) (w64_bounds _).1 (w64_bounds _).2).mono ?_
        rintro e w2 ⟨rfl, tn⟩
        have m2 := HM.out.word tn (wPush_fine _ _ (int_fine _ (w64_bounds _).1 (w64_bounds _).2) HM.out.ok)
        go_wp2
        go_ret2
        obtain ⟨rfl, rfl⟩ := HE.out
        exact .inr ⟨hk0, rfl, m2⟩
set_option maxRecDepth 100000 in
set_option maxHeartbeats 1000000 in
theorem letterT (K : Nat → Prop) (w : World) (m p : Nat) (acc : Int) (l : List TV) (h : MacT K w m p acc l) (s : List UInt8) (i : Nat) (hs : s.length ≤ 24) (c0 : UInt8) (hc0 : s[i + 1]? = some c0) :
    Calls Try.prog 64 #[ptr m, S s, I i] w fun e w' => e = .returned (.tuple #[I 2, I (wPush (.str [c0]) l).2]) ∧ Tm K w m p acc (wPush (.str [c0]) l).1 w' := by
  have hz := str_size s
  have hz2 : (str s).size ≤ 24 := by omega
  have hj : i + 1 < s.length := (List.getElem?_eq_some_iff.1 hc0).1
  have hj2 : ¬ (s.length : Int) ≤ ((i : Int) + 1) := by omega
  have hj3 : ¬ ((str s).size : Int) ≤ ((i : Int) + 1) := by omega
  have d0 := h.at0.1
  have hf := wPush_fine (.str [c0]) l (by rw [str_text]; have := itoa_len (([c0] : List UInt8).length : Int) (by simp) (by simp); simp at *; omega) h.ok
  have hsl : (str s).extract (i + 1) (i + 2) = str [c0] := by
    obtain ⟨hl, e⟩ := List.getElem?_eq_some_iff.1 hc0
    apply ByteArray.ext
    rw [ByteArray.data_extract]
    show s.toArray.extract (i + 1) (i + 2) = #[c0]
    rw [List.extract_toArray, List.extract_eq_take_drop]
    rw [List.drop_eq_getElem_cons hl, show i + 2 - (i + 1) = 1 from by omega, List.take_succ_cons, List.take_zero, e]
  have hsr : ∀ W, (Instr.slice 9 (S s) (some (.int .i64 ((i : Int) + 1))) (some (.int .i64 ((i : Int) + 2))) none).run Try.prog W = .ok (S [c0]) W := by
    intro W
    rw [run_slice_string (P := Try.prog) W 9 (str s) .i64 .i64 ((i : Int) + 1) ((i : Int) + 2) Try.underlying9 (by omega) (by omega) (by omega)]
    rw [show ((i : Int) + 1).toNat = i + 1 from by omega, show ((i : Int) + 2).toNat = i + 2 from by omega, hsl]
  clear hsl hc0 hj2 hj3
  have q1 : (i : Int) + 1 ≤ (i : Int) + 2 := by omega
  have q2 : (i : Int) + 2 ≤ (s.length : Int) := by omega
  have q3 : (i : Int) + 2 ≤ ((str s).size : Int) := by omega
  have q4 : 0 ≤ (i : Int) + 1 := by omega
  have r1 := wr64 ((i : Int) + 1) (by omega) (by omega)
  have r2 := wr64 ((i : Int) + 2) (by omega) (by omega)
  go_enter Try.func64, Try.ntmps64
  go_wp2_with fail
  go_region_held3 (fun W => W.cell? ⟨m, 0, none⟩ = some (ptr p)) (go_keep) (first | (go_at_call 62; refine (pushS_w _ _ p _ (by first | exact h.st | exact (h.drewN 1).st) [c0] (by simp)).mono ?_; rintro e w2 ⟨rfl, tn⟩; obtain ⟨K2, mm, nn, mt, kk⟩ := (h.drewN 1).word tn hf; have q0 := mt.at0.1))
  go_wp2
  go_ret2
  exact ⟨rfl, .trans (fun _ h => h) (fun _ h => .inl h) ((Kept.refl K w).drewN 1) ⟨K2, mm, nn, mt, kk⟩⟩
end Go.Proofs.Qxb6500470a
