import Derived.Test.Qxb6500470aCal8
namespace Go.Proofs.Qxb6500470a
open Go.RowKit

def isDg (c : UInt8) : Bool := decide (48 ≤ c.toNat) && decide (c.toNat ≤ 57)
/-- The digits ahead: how many, and the number. -/
def digs : List UInt8 → Int → Nat → Nat × Int
  | [], v, n => (n, v)
  | c :: r, v, n => if isDg c then digs r (wrap64 (wrap64 (v * 10) + ((c.toNat : Int) - 48))) (n + 1) else (n, v)
theorem str_get (s : List UInt8) (j : Nat) (c : UInt8) (hc : s[j]? = some c) : ∀ h, ((str s)[j]'h).toNat = c.toNat := by
  intro h
  have h' : j < s.length := by rw [str_size] at h; exact h
  rw [List.getElem?_eq_getElem h'] at hc
  have : (str s)[j]'h = s[j] := rfl
  rw [this]
  simp only [Option.some.injEq] at hc
  rw [hc]
theorem digs_end (s : List UInt8) (j : Nat) (v : Int) (n : Nat) (h : s.length ≤ j) : digs (s.drop j) v n = (n, v) := by rw [List.drop_of_length_le h]; rfl
theorem digs_not (s : List UInt8) (j : Nat) (v : Int) (n : Nat) (c : UInt8) (hc : s[j]? = some c) (hd : isDg c = false) : digs (s.drop j) v n = (n, v) := by
  obtain ⟨h, e⟩ := List.getElem?_eq_some_iff.1 hc
  rw [List.drop_eq_getElem_cons h, digs, e, if_neg (by simpa using hd)]
theorem digs_one (s : List UInt8) (j : Nat) (v : Int) (n : Nat) (c : UInt8) (hc : s[j]? = some c) (hd : isDg c = true) : digs (s.drop j) v n = digs (s.drop (j + 1)) (wrap64 (wrap64 (v * 10) + ((c.toNat : Int) - 48))) (n + 1) := by
  obtain ⟨h, e⟩ := List.getElem?_eq_some_iff.1 hc
  rw [List.drop_eq_getElem_cons h, digs, e, if_pos (by simpa using hd)]

set_option maxRecDepth 100000 in
set_option maxHeartbeats 4000000 in
theorem number_D (K : Nat → Prop) (w : World) (m p : Nat) (acc : Int) (l : List V) (h : Mac K w m p acc l) (h5 : l.length < 5) (s : List UInt8) (i : Nat) (hs : s.length ≤ 24)
    (c0 : UInt8) (hc0 : s[i + 1]? = some c0) (h43 : ((c0.toNat : Int) == 43) = false) (h45 : ((c0.toNat : Int) == 45) = false) (N : Nat) (V : Int) (HN : digs (s.drop (i + 1)) 0 0 = (N, V)) :
    Calls Try.prog 63 #[ptr m, S s, I i] w fun e w' => (N = 0 ∧ e = .returned (.tuple #[I 1, I 11]) ∧ w' = w) ∨ (0 < N ∧ e = .returned (.tuple #[I (1 + N), I 0]) ∧ Mac K w' m p acc (l ++ [some (.inl (V))]) ∧ Kept K w w') := by
  have hz := str_size s
  have hz2 : (str s).size ≤ 24 := by omega
  have hj : i + 1 < s.length := (List.getElem?_eq_some_iff.1 hc0).1
  have hj' : ((i : Int) + 1) < ((str s).size : Int) := by omega
  have hj0 : 0 ≤ ((i : Int) + 1) := by omega
  have HM : Hid _ := h
  have HNN : Hid _ := HN
  have hat : ∀ j, j < s.length → ∃ c : UInt8, s[j]? = some c ∧ ∀ h, ((str s)[j]'h).toNat = c.toNat := fun j hj => ⟨s[j], List.getElem?_eq_getElem hj, str_get s j _ (List.getElem?_eq_getElem hj)⟩
  have HAT : Hid _ := hat
  have g0 := str_get s (i + 1) c0 hc0
  clear h HN hat hc0
  generalize c0.toNat = c at *
  have hz3 : s.length ≤ 24 := hs
  go_enter Try.func63, Try.ntmps63
  go_wp2
  go_loopw [8, 10] (fun j v wr => ∃ (k : Nat) (x : Int), i + 1 + k ≤ s.length ∧ j = I ((i : Int) + 1 + k) ∧ v = I x ∧ Hid (digs (s.drop (i + 1 + k)) x k = (N, V)) ∧ -9223372036854775808 ≤ x ∧ x ≤ 9223372036854775807 ∧ wr = w) (fun j _ _ => (s.length - intOf j).toNat)
  case atStart => exact ⟨0, 0, by omega, by simp, rfl, HNN.out, by omega, by omega, rfl⟩
  case round =>
    clear g0 hj' hj0 h43 h45
    obtain ⟨k, x, hk, rfl, rfl, HX, x1, x2, rfl⟩ := hrel
    have q0 : 0 ≤ (i : Int) + 1 + k := by omega
    have d0 := HM.out.at0.1
    by_cases hlt : i + 1 + k < s.length
    · have q1 : (i : Int) + 1 + k < (s.length : Int) := by omega
      obtain ⟨c1, hc1, g1⟩ := HAT.out _ hlt
      cases hd : isDg c1 with
      | true =>
        have HD : Hid _ := digs_one s _ x k c1 hc1 hd
        obtain ⟨d1, d2⟩ : 48 ≤ c1.toNat ∧ c1.toNat ≤ 57 := by simpa [isDg] using hd
        clear hd hc1
        generalize c1.toNat = c2 at *
        have d1' : (48 : Int) ≤ (c2 : Int) := by omega
        have d2' : (c2 : Int) ≤ 57 := by omega
        go_wp2
        go_roundw
        case rel =>
          obtain ⟨y1, y2⟩ := w64_bounds (wrap64 (x * 10) + ((c2 : Int) - 48))
          exact ⟨k + 1, _, by omega, by go_num, rfl, HD.out.symm.trans HX.out, y1, y2, trivial⟩
        case measure => simp [intOf]; omega
      | false =>
        have HE : Hid (k = N ∧ x = V) := by
          have := (digs_not s _ x k c1 hc1 hd).symm.trans HX.out
          show k = N ∧ x = V
          simpa using this
        obtain hd2 : c1.toNat < 48 ∨ (48 ≤ c1.toNat ∧ 57 < c1.toNat) := by
          have : ¬ (48 ≤ c1.toNat ∧ c1.toNat ≤ 57) := by simpa [isDg] using hd
          omega
        clear hd hc1 HX
        generalize c1.toNat = c2 at *
        rcases Nat.eq_zero_or_pos k with hk0 | hk0
        · have ek : ((i : Int) + 1 + (k : Int) == (i : Int) + 1) = true := by simp; omega
          have HK0 : Hid _ := hk0
          clear hk0
          rcases hd2 with d1 | ⟨d1, d2⟩
          · have d1' : ¬ (48 : Int) ≤ (c2 : Int) := by omega
            go_wp2
            go_ret2
            exact .inl ⟨HE.out.1.symm.trans HK0.out, rfl, rfl⟩
          · have d1' : (48 : Int) ≤ (c2 : Int) := by omega
            have d2' : ¬ (c2 : Int) ≤ 57 := by omega
            go_wp2
            go_ret2
            exact .inl ⟨HE.out.1.symm.trans HK0.out, rfl, rfl⟩
        · have ek : ((i : Int) + 1 + (k : Int) == (i : Int) + 1) = false := by simp; omega
          have ew : (i : Int) + 1 + (k : Int) - (i : Int) = 1 + (k : Int) := by omega
          rcases hd2 with d1 | ⟨d1, d2⟩
          · have d1' : ¬ (48 : Int) ≤ (c2 : Int) := by omega
            go_wp2_with fail
            refine (pushI _ wr p _ HM.out.st (by rw [List.length_map]; exact h5) (x)).mono ?_
            rintro e w2 ⟨rfl, s2, k2⟩
            obtain ⟨m2, kk⟩ := HM.out.turn (l' := l ++ [some (.inl (x))]) (by rw [map_last]; exact s2) k2 (by
              intro v hv
              rcases List.mem_append.1 hv with e | e
              · exact HM.out.ok v e
              · obtain rfl : v = some (.inl (x)) := by simpa using e
                exact ⟨x1, x2⟩)
            go_wp2
            go_ret2
            obtain ⟨rfl, rfl⟩ := HE.out
            exact .inr ⟨hk0, rfl, m2, kk⟩
          · have d1' : (48 : Int) ≤ (c2 : Int) := by omega
            have d2' : ¬ (c2 : Int) ≤ 57 := by omega
            go_wp2_with fail
            refine (pushI _ wr p _ HM.out.st (by rw [List.length_map]; exact h5) (x)).mono ?_
            rintro e w2 ⟨rfl, s2, k2⟩
            obtain ⟨m2, kk⟩ := HM.out.turn (l' := l ++ [some (.inl (x))]) (by rw [map_last]; exact s2) k2 (by
              intro v hv
              rcases List.mem_append.1 hv with e | e
              · exact HM.out.ok v e
              · obtain rfl : v = some (.inl (x)) := by simpa using e
                exact ⟨x1, x2⟩)
            go_wp2
            go_ret2
            obtain ⟨rfl, rfl⟩ := HE.out
            exact .inr ⟨hk0, rfl, m2, kk⟩
    · have q1 : ¬ ((i : Int) + 1 + k < (s.length : Int)) := by omega
      have HE : Hid (k = N ∧ x = V) := by
        have := (digs_end s _ x k (show s.length ≤ i + 1 + k by omega)).symm.trans HX.out
        show k = N ∧ x = V
        simpa using this
      clear HX
      rcases Nat.eq_zero_or_pos k with hk0 | hk0
      · have ek : ((i : Int) + 1 + (k : Int) == (i : Int) + 1) = true := by simp; omega
        have HK0 : Hid _ := hk0
        clear hk0
        exact absurd HK0.out (by omega)
      · have ek : ((i : Int) + 1 + (k : Int) == (i : Int) + 1) = false := by simp; omega
        have ew : (i : Int) + 1 + (k : Int) - (i : Int) = 1 + (k : Int) := by omega
        go_wp2_with fail
        refine (pushI _ wr p _ HM.out.st (by rw [List.length_map]; exact h5) (x)).mono ?_
        rintro e w2 ⟨rfl, s2, k2⟩
        obtain ⟨m2, kk⟩ := HM.out.turn (l' := l ++ [some (.inl (x))]) (by rw [map_last]; exact s2) k2 (by
          intro v hv
          rcases List.mem_append.1 hv with e | e
          · exact HM.out.ok v e
          · obtain rfl : v = some (.inl (x)) := by simpa using e
            exact ⟨x1, x2⟩)
        go_wp2
        go_ret2
        obtain ⟨rfl, rfl⟩ := HE.out
        exact .inr ⟨hk0, rfl, m2, kk⟩
set_option maxRecDepth 100000 in
set_option maxHeartbeats 4000000 in
theorem number_P (K : Nat → Prop) (w : World) (m p : Nat) (acc : Int) (l : List V) (h : Mac K w m p acc l) (h5 : l.length < 5) (s : List UInt8) (i : Nat) (hs : s.length ≤ 24)
    (c0 : UInt8) (hc0 : s[i + 1]? = some c0) (h43 : c0.toNat = 43) (N : Nat) (V : Int) (HN : digs (s.drop (i + 1 + 1)) 0 0 = (N, V)) :
    Calls Try.prog 63 #[ptr m, S s, I i] w fun e w' => (N = 0 ∧ e = .returned (.tuple #[I 1, I 11]) ∧ w' = w) ∨ (0 < N ∧ e = .returned (.tuple #[I (2 + N), I 0]) ∧ Mac K w' m p acc (l ++ [some (.inl (V))]) ∧ Kept K w w') := by
  have hz := str_size s
  have hz2 : (str s).size ≤ 24 := by omega
  have hj : i + 1 < s.length := (List.getElem?_eq_some_iff.1 hc0).1
  have hj' : ((i : Int) + 1) < ((str s).size : Int) := by omega
  have hj0 : 0 ≤ ((i : Int) + 1) := by omega
  have HM : Hid _ := h
  have HNN : Hid _ := HN
  have hat : ∀ j, j < s.length → ∃ c : UInt8, s[j]? = some c ∧ ∀ h, ((str s)[j]'h).toNat = c.toNat := fun j hj => ⟨s[j], List.getElem?_eq_getElem hj, str_get s j _ (List.getElem?_eq_getElem hj)⟩
  have HAT : Hid _ := hat
  have g0 := str_get s (i + 1) c0 hc0
  clear h HN hat hc0
  generalize c0.toNat = c at *
  subst h43
  have hz3 : s.length ≤ 24 := hs
  go_enter Try.func63, Try.ntmps63
  go_wp2
  go_loopw [8, 10] (fun j v wr => ∃ (k : Nat) (x : Int), i + 1 + 1 + k ≤ s.length ∧ j = I ((i : Int) + 1 + 1 + k) ∧ v = I x ∧ Hid (digs (s.drop (i + 1 + 1 + k)) x k = (N, V)) ∧ -9223372036854775808 ≤ x ∧ x ≤ 9223372036854775807 ∧ wr = w) (fun j _ _ => (s.length - intOf j).toNat)
  case atStart => exact ⟨0, 0, by omega, by simp, rfl, HNN.out, by omega, by omega, rfl⟩
  case round =>
    clear g0 hj' hj0
    obtain ⟨k, x, hk, rfl, rfl, HX, x1, x2, rfl⟩ := hrel
    have q0 : 0 ≤ (i : Int) + 1 + 1 + k := by omega
    have d0 := HM.out.at0.1
    by_cases hlt : i + 1 + 1 + k < s.length
    · have q1 : (i : Int) + 1 + 1 + k < (s.length : Int) := by omega
      obtain ⟨c1, hc1, g1⟩ := HAT.out _ hlt
      cases hd : isDg c1 with
      | true =>
        have HD : Hid _ := digs_one s _ x k c1 hc1 hd
        obtain ⟨d1, d2⟩ : 48 ≤ c1.toNat ∧ c1.toNat ≤ 57 := by simpa [isDg] using hd
        clear hd hc1
        generalize c1.toNat = c2 at *
        have d1' : (48 : Int) ≤ (c2 : Int) := by omega
        have d2' : (c2 : Int) ≤ 57 := by omega
        go_wp2
        go_roundw
        case rel =>
          obtain ⟨y1, y2⟩ := w64_bounds (wrap64 (x * 10) + ((c2 : Int) - 48))
          exact ⟨k + 1, _, by omega, by go_num, rfl, HD.out.symm.trans HX.out, y1, y2, trivial⟩
        case measure => simp [intOf]; omega
      | false =>
        have HE : Hid (k = N ∧ x = V) := by
          have := (digs_not s _ x k c1 hc1 hd).symm.trans HX.out
          show k = N ∧ x = V
          simpa using this
        obtain hd2 : c1.toNat < 48 ∨ (48 ≤ c1.toNat ∧ 57 < c1.toNat) := by
          have : ¬ (48 ≤ c1.toNat ∧ c1.toNat ≤ 57) := by simpa [isDg] using hd
          omega
        clear hd hc1 HX
        generalize c1.toNat = c2 at *
        rcases Nat.eq_zero_or_pos k with hk0 | hk0
        · have ek : ((i : Int) + 1 + 1 + (k : Int) == (i : Int) + 1 + 1) = true := by simp; omega
          have HK0 : Hid _ := hk0
          clear hk0
          rcases hd2 with d1 | ⟨d1, d2⟩
          · have d1' : ¬ (48 : Int) ≤ (c2 : Int) := by omega
            go_wp2
            go_ret2
            exact .inl ⟨HE.out.1.symm.trans HK0.out, rfl, rfl⟩
          · have d1' : (48 : Int) ≤ (c2 : Int) := by omega
            have d2' : ¬ (c2 : Int) ≤ 57 := by omega
            go_wp2
            go_ret2
            exact .inl ⟨HE.out.1.symm.trans HK0.out, rfl, rfl⟩
        · have ek : ((i : Int) + 1 + 1 + (k : Int) == (i : Int) + 1 + 1) = false := by simp; omega
          have ew : (i : Int) + 1 + 1 + (k : Int) - (i : Int) = 2 + (k : Int) := by omega
          rcases hd2 with d1 | ⟨d1, d2⟩
          · have d1' : ¬ (48 : Int) ≤ (c2 : Int) := by omega
            go_wp2_with fail
            refine (pushI _ wr p _ HM.out.st (by rw [List.length_map]; exact h5) (x)).mono ?_
            rintro e w2 ⟨rfl, s2, k2⟩
            obtain ⟨m2, kk⟩ := HM.out.turn (l' := l ++ [some (.inl (x))]) (by rw [map_last]; exact s2) k2 (by
              intro v hv
              rcases List.mem_append.1 hv with e | e
              · exact HM.out.ok v e
              · obtain rfl : v = some (.inl (x)) := by simpa using e
                exact ⟨x1, x2⟩)
            go_wp2
            go_ret2
            obtain ⟨rfl, rfl⟩ := HE.out
            exact .inr ⟨hk0, rfl, m2, kk⟩
          · have d1' : (48 : Int) ≤ (c2 : Int) := by omega
            have d2' : ¬ (c2 : Int) ≤ 57 := by omega
            go_wp2_with fail
            refine (pushI _ wr p _ HM.out.st (by rw [List.length_map]; exact h5) (x)).mono ?_
            rintro e w2 ⟨rfl, s2, k2⟩
            obtain ⟨m2, kk⟩ := HM.out.turn (l' := l ++ [some (.inl (x))]) (by rw [map_last]; exact s2) k2 (by
              intro v hv
              rcases List.mem_append.1 hv with e | e
              · exact HM.out.ok v e
              · obtain rfl : v = some (.inl (x)) := by simpa using e
                exact ⟨x1, x2⟩)
            go_wp2
            go_ret2
            obtain ⟨rfl, rfl⟩ := HE.out
            exact .inr ⟨hk0, rfl, m2, kk⟩
    · have q1 : ¬ ((i : Int) + 1 + 1 + k < (s.length : Int)) := by omega
      have HE : Hid (k = N ∧ x = V) := by
        have := (digs_end s _ x k (show s.length ≤ i + 1 + 1 + k by omega)).symm.trans HX.out
        show k = N ∧ x = V
        simpa using this
      clear HX
      rcases Nat.eq_zero_or_pos k with hk0 | hk0
      · have ek : ((i : Int) + 1 + 1 + (k : Int) == (i : Int) + 1 + 1) = true := by simp; omega
        have HK0 : Hid _ := hk0
        clear hk0
        go_wp2
        go_ret2
        exact .inl ⟨HE.out.1.symm.trans HK0.out, rfl, rfl⟩
      · have ek : ((i : Int) + 1 + 1 + (k : Int) == (i : Int) + 1 + 1) = false := by simp; omega
        have ew : (i : Int) + 1 + 1 + (k : Int) - (i : Int) = 2 + (k : Int) := by omega
        go_wp2_with fail
        refine (pushI _ wr p _ HM.out.st (by rw [List.length_map]; exact h5) (x)).mono ?_
        rintro e w2 ⟨rfl, s2, k2⟩
        obtain ⟨m2, kk⟩ := HM.out.turn (l' := l ++ [some (.inl (x))]) (by rw [map_last]; exact s2) k2 (by
          intro v hv
          rcases List.mem_append.1 hv with e | e
          · exact HM.out.ok v e
          · obtain rfl : v = some (.inl (x)) := by simpa using e
            exact ⟨x1, x2⟩)
        go_wp2
        go_ret2
        obtain ⟨rfl, rfl⟩ := HE.out
        exact .inr ⟨hk0, rfl, m2, kk⟩
set_option maxRecDepth 100000 in
set_option maxHeartbeats 4000000 in
theorem number_M (K : Nat → Prop) (w : World) (m p : Nat) (acc : Int) (l : List V) (h : Mac K w m p acc l) (h5 : l.length < 5) (s : List UInt8) (i : Nat) (hs : s.length ≤ 24)
    (c0 : UInt8) (hc0 : s[i + 1]? = some c0) (h43 : c0.toNat = 45) (N : Nat) (V : Int) (HN : digs (s.drop (i + 1 + 1)) 0 0 = (N, V)) :
    Calls Try.prog 63 #[ptr m, S s, I i] w fun e w' => (N = 0 ∧ e = .returned (.tuple #[I 1, I 11]) ∧ w' = w) ∨ (0 < N ∧ e = .returned (.tuple #[I (2 + N), I 0]) ∧ Mac K w' m p acc (l ++ [some (.inl (wrap64 (-V)))]) ∧ Kept K w w') := by
  have hz := str_size s
  have hz2 : (str s).size ≤ 24 := by omega
  have hj : i + 1 < s.length := (List.getElem?_eq_some_iff.1 hc0).1
  have hj' : ((i : Int) + 1) < ((str s).size : Int) := by omega
  have hj0 : 0 ≤ ((i : Int) + 1) := by omega
  have HM : Hid _ := h
  have HNN : Hid _ := HN
  have hat : ∀ j, j < s.length → ∃ c : UInt8, s[j]? = some c ∧ ∀ h, ((str s)[j]'h).toNat = c.toNat := fun j hj => ⟨s[j], List.getElem?_eq_getElem hj, str_get s j _ (List.getElem?_eq_getElem hj)⟩
  have HAT : Hid _ := hat
  have g0 := str_get s (i + 1) c0 hc0
  clear h HN hat hc0
  generalize c0.toNat = c at *
  subst h43
  have hz3 : s.length ≤ 24 := hs
  go_enter Try.func63, Try.ntmps63
  go_wp2
  go_loopw [8, 10] (fun j v wr => ∃ (k : Nat) (x : Int), i + 1 + 1 + k ≤ s.length ∧ j = I ((i : Int) + 1 + 1 + k) ∧ v = I x ∧ Hid (digs (s.drop (i + 1 + 1 + k)) x k = (N, V)) ∧ -9223372036854775808 ≤ x ∧ x ≤ 9223372036854775807 ∧ wr = w) (fun j _ _ => (s.length - intOf j).toNat)
  case atStart => exact ⟨0, 0, by omega, by simp, rfl, HNN.out, by omega, by omega, rfl⟩
  case round =>
    clear g0 hj' hj0
    obtain ⟨k, x, hk, rfl, rfl, HX, x1, x2, rfl⟩ := hrel
    have q0 : 0 ≤ (i : Int) + 1 + 1 + k := by omega
    have d0 := HM.out.at0.1
    by_cases hlt : i + 1 + 1 + k < s.length
    · have q1 : (i : Int) + 1 + 1 + k < (s.length : Int) := by omega
      obtain ⟨c1, hc1, g1⟩ := HAT.out _ hlt
      cases hd : isDg c1 with
      | true =>
        have HD : Hid _ := digs_one s _ x k c1 hc1 hd
        obtain ⟨d1, d2⟩ : 48 ≤ c1.toNat ∧ c1.toNat ≤ 57 := by simpa [isDg] using hd
        clear hd hc1
        generalize c1.toNat = c2 at *
        have d1' : (48 : Int) ≤ (c2 : Int) := by omega
        have d2' : (c2 : Int) ≤ 57 := by omega
        go_wp2
        go_roundw
        case rel =>
          obtain ⟨y1, y2⟩ := w64_bounds (wrap64 (x * 10) + ((c2 : Int) - 48))
          exact ⟨k + 1, _, by omega, by go_num, rfl, HD.out.symm.trans HX.out, y1, y2, trivial⟩
        case measure => simp [intOf]; omega
      | false =>
        have HE : Hid (k = N ∧ x = V) := by
          have := (digs_not s _ x k c1 hc1 hd).symm.trans HX.out
          show k = N ∧ x = V
          simpa using this
        obtain hd2 : c1.toNat < 48 ∨ (48 ≤ c1.toNat ∧ 57 < c1.toNat) := by
          have : ¬ (48 ≤ c1.toNat ∧ c1.toNat ≤ 57) := by simpa [isDg] using hd
          omega
        clear hd hc1 HX
        generalize c1.toNat = c2 at *
        rcases Nat.eq_zero_or_pos k with hk0 | hk0
        · have ek : ((i : Int) + 1 + 1 + (k : Int) == (i : Int) + 1 + 1) = true := by simp; omega
          have HK0 : Hid _ := hk0
          clear hk0
          rcases hd2 with d1 | ⟨d1, d2⟩
          · have d1' : ¬ (48 : Int) ≤ (c2 : Int) := by omega
            go_wp2
            go_ret2
            exact .inl ⟨HE.out.1.symm.trans HK0.out, rfl, rfl⟩
          · have d1' : (48 : Int) ≤ (c2 : Int) := by omega
            have d2' : ¬ (c2 : Int) ≤ 57 := by omega
            go_wp2
            go_ret2
            exact .inl ⟨HE.out.1.symm.trans HK0.out, rfl, rfl⟩
        · have ek : ((i : Int) + 1 + 1 + (k : Int) == (i : Int) + 1 + 1) = false := by simp; omega
          have ew : (i : Int) + 1 + 1 + (k : Int) - (i : Int) = 2 + (k : Int) := by omega
          rcases hd2 with d1 | ⟨d1, d2⟩
          · have d1' : ¬ (48 : Int) ≤ (c2 : Int) := by omega
            go_wp2_with fail
            refine (pushI _ wr p _ HM.out.st (by rw [List.length_map]; exact h5) (wrap64 (-x))).mono ?_
            rintro e w2 ⟨rfl, s2, k2⟩
            obtain ⟨m2, kk⟩ := HM.out.turn (l' := l ++ [some (.inl (wrap64 (-x)))]) (by rw [map_last]; exact s2) k2 (by
              intro v hv
              rcases List.mem_append.1 hv with e | e
              · exact HM.out.ok v e
              · obtain rfl : v = some (.inl (wrap64 (-x))) := by simpa using e
                exact w64_bounds _)
            go_wp2
            go_ret2
            obtain ⟨rfl, rfl⟩ := HE.out
            exact .inr ⟨hk0, rfl, m2, kk⟩
          · have d1' : (48 : Int) ≤ (c2 : Int) := by omega
            have d2' : ¬ (c2 : Int) ≤ 57 := by omega
            go_wp2_with fail
            refine (pushI _ wr p _ HM.out.st (by rw [List.length_map]; exact h5) (wrap64 (-x))).mono ?_
            rintro e w2 ⟨rfl, s2, k2⟩
            obtain ⟨m2, kk⟩ := HM.out.turn (l' := l ++ [some (.inl (wrap64 (-x)))]) (by rw [map_last]; exact s2) k2 (by
              intro v hv
              rcases List.mem_append.1 hv with e | e
              · exact HM.out.ok v e
              · obtain rfl : v = some (.inl (wrap64 (-x))) := by simpa using e
                exact w64_bounds _)
            go_wp2
            go_ret2
            obtain ⟨rfl, rfl⟩ := HE.out
            exact .inr ⟨hk0, rfl, m2, kk⟩
    · have q1 : ¬ ((i : Int) + 1 + 1 + k < (s.length : Int)) := by omega
      have HE : Hid (k = N ∧ x = V) := by
        have := (digs_end s _ x k (show s.length ≤ i + 1 + 1 + k by omega)).symm.trans HX.out
        show k = N ∧ x = V
        simpa using this
      clear HX
      rcases Nat.eq_zero_or_pos k with hk0 | hk0
      · have ek : ((i : Int) + 1 + 1 + (k : Int) == (i : Int) + 1 + 1) = true := by simp; omega
        have HK0 : Hid _ := hk0
        clear hk0
        go_wp2
        go_ret2
        exact .inl ⟨HE.out.1.symm.trans HK0.out, rfl, rfl⟩
      · have ek : ((i : Int) + 1 + 1 + (k : Int) == (i : Int) + 1 + 1) = false := by simp; omega
        have ew : (i : Int) + 1 + 1 + (k : Int) - (i : Int) = 2 + (k : Int) := by omega
        go_wp2_with fail
        refine (pushI _ wr p _ HM.out.st (by rw [List.length_map]; exact h5) (wrap64 (-x))).mono ?_
        rintro e w2 ⟨rfl, s2, k2⟩
        obtain ⟨m2, kk⟩ := HM.out.turn (l' := l ++ [some (.inl (wrap64 (-x)))]) (by rw [map_last]; exact s2) k2 (by
          intro v hv
          rcases List.mem_append.1 hv with e | e
          · exact HM.out.ok v e
          · obtain rfl : v = some (.inl (wrap64 (-x))) := by simpa using e
            exact w64_bounds _)
        go_wp2
        go_ret2
        obtain ⟨rfl, rfl⟩ := HE.out
        exact .inr ⟨hk0, rfl, m2, kk⟩
set_option maxRecDepth 100000 in
set_option maxHeartbeats 4000000 in
theorem number_A (w : World) (m : Nat) (s : List UInt8) (i : Nat) (hs : s.length ≤ 24) (hi : i + 1 = s.length) :
    Calls Try.prog 63 #[ptr m, S s, I i] w fun e w' => e = .returned (.tuple #[I 1, I 11]) ∧ w' = w := by
  have hz := str_size s
  have hz2 : (str s).size ≤ 24 := by omega
  have hj' : ¬ ((i : Int) + 1) < ((str s).size : Int) := by omega
  have hj2 : ¬ ((i : Int) + 1) < (s.length : Int) := by omega
  have hz3 : s.length ≤ 24 := hs
  go_enter Try.func63, Try.ntmps63
  go_wp2
  go_loopw [8, 10] (fun j v wr => j = I ((i : Int) + 1) ∧ v = I 0 ∧ wr = w) (fun j _ _ => 0)
  case atStart => exact ⟨rfl, rfl, rfl⟩
  case round =>
    obtain ⟨rfl, rfl, rfl⟩ := hrel
    go_wp2
    go_ret2
    exact ⟨rfl, rfl⟩
end Go.Proofs.Qxb6500470a
