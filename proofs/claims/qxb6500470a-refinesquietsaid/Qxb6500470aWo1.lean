import Derived.Test.Qxb6500470aCal9
namespace Go.Proofs.Qxb6500470a
open Go.RowKit
/-- The bytes behind '#': how many belong to the word; what they are worth. -/
def wdL : List UInt8 → Nat
  | [] => 0
  | c0 :: r => if c0.toNat = 43 ∨ c0.toNat = 45 then 1 + (digs r 0 0).1 else (digs (c0 :: r) 0 0).1
def litL : List UInt8 → Option (Nat × Int)
  | [] => none
  | c0 :: r => if c0.toNat = 43 then (if (digs r 0 0).1 = 0 then none else some (2 + (digs r 0 0).1, (digs r 0 0).2))
    else if c0.toNat = 45 then (if (digs r 0 0).1 = 0 then none else some (2 + (digs r 0 0).1, wrap64 (-(digs r 0 0).2)))
    else (if (digs (c0 :: r) 0 0).1 = 0 then none else some (1 + (digs (c0 :: r) 0 0).1, (digs (c0 :: r) 0 0).2))
theorem wdL_cons (c0 : UInt8) (r : List UInt8) : wdL (c0 :: r) = if c0.toNat = 43 ∨ c0.toNat = 45 then 1 + (digs r 0 0).1 else (digs (c0 :: r) 0 0).1 := rfl
theorem litL_cons (c0 : UInt8) (r : List UInt8) : litL (c0 :: r) = if c0.toNat = 43 then (if (digs r 0 0).1 = 0 then none else some (2 + (digs r 0 0).1, (digs r 0 0).2))
    else if c0.toNat = 45 then (if (digs r 0 0).1 = 0 then none else some (2 + (digs r 0 0).1, wrap64 (-(digs r 0 0).2)))
    else (if (digs (c0 :: r) 0 0).1 = 0 then none else some (1 + (digs (c0 :: r) 0 0).1, (digs (c0 :: r) 0 0).2)) := rfl
theorem digs_le2 : ∀ (r : List UInt8) (v : Int) (n : Nat), (digs r v n).1 ≤ n + r.length
  | [], v, n => by simp [digs]
  | c :: r, v, n => by
    unfold digs
    split
    · have := digs_le2 r (wrap64 (wrap64 (v * 10) + ((c.toNat : Int) - 48))) (n + 1)
      simp
      omega
    · simp
theorem digs_ge : ∀ (l : List UInt8) (v : Int) (n : Nat), n ≤ (digs l v n).1
  | [], v, n => Nat.le_refl _
  | c :: r, v, n => by
    unfold digs
    split
    · exact Nat.le_trans (Nat.le_succ n) (digs_ge r _ _)
    · exact Nat.le_refl _
theorem digs_take : ∀ (l : List UInt8) (v : Int) (n : Nat), digs (l.take ((digs l v n).1 - n)) v n = digs l v n
  | [], v, n => by simp [digs]
  | c :: r, v, n => by
    have ih := digs_take r (wrap64 (wrap64 (v * 10) + ((c.toNat : Int) - 48))) (n + 1)
    have ge := digs_ge r (wrap64 (wrap64 (v * 10) + ((c.toNat : Int) - 48))) (n + 1)
    cases hd : isDg c with
    | true =>
      have e : digs (c :: r) v n = digs r (wrap64 (wrap64 (v * 10) + ((c.toNat : Int) - 48))) (n + 1) := by simp [digs, hd]
      rw [e]
      generalize hD : digs r (wrap64 (wrap64 (v * 10) + ((c.toNat : Int) - 48))) (n + 1) = D at *
      rw [show D.1 - n = (D.1 - (n + 1)) + 1 from by omega, List.take_succ_cons]
      refine Eq.trans ?_ ih
      simp [digs, hd]
    | false =>
      have e : digs (c :: r) v n = (n, v) := by simp [digs, hd]
      rw [e]
      simp [digs]
theorem digs_take0 (l : List UInt8) : digs (l.take (digs l 0 0).1) 0 0 = digs l 0 0 := digs_take l 0 0
theorem wdL_le (r : List UInt8) : wdL r ≤ r.length := by
  cases r with
  | nil => exact Nat.le_refl _
  | cons c0 r =>
    have h1 := digs_le2 r 0 0
    have h2 := digs_le2 (c0 :: r) 0 0
    rw [wdL_cons]
    split
    · rw [List.length_cons]; omega
    · omega
theorem wdL_take (r : List UInt8) : litL (r.take (wdL r)) = litL r ∧ wdL (r.take (wdL r)) = wdL r := by
  cases r with
  | nil => exact ⟨rfl, rfl⟩
  | cons c0 r =>
    by_cases hs : c0.toNat = 43 ∨ c0.toNat = 45
    · have e : wdL (c0 :: r) = (digs r 0 0).1 + 1 := by rw [wdL_cons, if_pos hs]; omega
      rw [e, List.take_succ_cons]
      have d := digs_take0 r
      constructor
      · rw [litL_cons, litL_cons, d]
        rcases hs with h | h <;> simp [h]
      · rw [wdL_cons, if_pos hs, d]; omega
    · have e : wdL (c0 :: r) = (digs (c0 :: r) 0 0).1 := by rw [wdL_cons, if_neg hs]
      have h43 : ¬ c0.toNat = 43 := fun h => hs (.inl h)
      have h45 : ¬ c0.toNat = 45 := fun h => hs (.inr h)
      rw [e]
      have d := digs_take0 (c0 :: r)
      cases hN : (digs (c0 :: r) 0 0).1 with
      | zero =>
        rw [List.take_zero]
        refine ⟨?_, rfl⟩
        rw [litL_cons, if_neg h43, if_neg h45, if_pos hN]
        rfl
      | succ k =>
        rw [hN] at d
        rw [List.take_succ_cons] at d ⊢
        constructor
        · rw [litL_cons, litL_cons, d]
          simp only [h43, h45, if_false]
        · rw [wdL_cons, d]
          simp only [hs, if_false, hN]
/-- The width of the word that opens with c ahead of r. -/
def wdT (c : UInt8) (r : List UInt8) : Nat := if c = 39 then (if r = [] then 1 else 2) else if c = 35 then 1 + wdL r else 1
/-- The bytes behind c that belong to its word. -/
def tlT (c : UInt8) (r : List UInt8) : List UInt8 := r.take (wdT c r - 1)
def IsW (c : UInt8) (s : List UInt8) : Prop := wdT c s = 1 + s.length
theorem wdT_pos (c : UInt8) (r : List UInt8) : 1 ≤ wdT c r := by
  unfold wdT
  split
  · split <;> omega
  · split <;> omega
theorem wdT_le (c : UInt8) (r : List UInt8) : wdT c r ≤ 1 + r.length := by
  have := wdL_le r
  unfold wdT
  split
  · split
    · omega
    · cases r with
      | nil => contradiction
      | cons a b => simp; omega
  · split <;> omega
theorem tl_len (c : UInt8) (r : List UInt8) : (tlT c r).length = wdT c r - 1 := by
  have := wdT_le c r
  unfold tlT
  rw [List.length_take]
  omega
theorem tl_isW (c : UInt8) (r : List UInt8) : IsW c (tlT c r) := by
  have hp := wdT_pos c r
  unfold IsW
  rw [tl_len]
  have : wdT c (tlT c r) = wdT c r := by
    unfold tlT
    by_cases h39 : c = 39
    · subst h39
      cases r with
      | nil => rfl
      | cons a b => rfl
    · by_cases h35 : c = 35
      · subst h35
        show 1 + wdL (r.take (1 + wdL r - 1)) = 1 + wdL r
        rw [show 1 + wdL r - 1 = wdL r from by omega, (wdL_take r).2]
      · simp [wdT, h39, h35]
  rw [this]
  omega

theorem dropG {p : List UInt8} {i : Nat} {c : UInt8} {r : List UInt8} (h : p.drop i = c :: r) : p[i]? = some c ∧ p.drop (i + 1) = r ∧ p.length = i + 1 + r.length := by
  have h1 : p[i]? = some c := by
    have := congrArg (fun l => l[0]?) h
    simpa using this
  have h2 : p.drop (i + 1) = r := by
    have := congrArg (List.drop 1) h
    simpa [Nat.add_comm] using this
  have hi : i < p.length := (List.getElem?_eq_some_iff.1 h1).1
  have h3 := congrArg List.length h
  rw [List.length_drop] at h3
  simp at h3
  exact ⟨h1, h2, by omega⟩
set_option maxRecDepth 100000 in
set_option maxHeartbeats 4000000 in
theorem word_q (p : List UInt8) (i : Nat) (hp : p.length ≤ 24) (hi : i + 1 < p.length) (hc : p[i]? = some 39) (w : World) :
    Calls Try.prog 66 #[S p, I i] w fun e w' => e = .returned (I 2) ∧ w' = w := by
  have hz := str_size p
  have hz2 : (str p).size ≤ 24 := by omega
  have g0 : ∀ h, ((str p)[i]'h).toNat = 39 := str_get p i 39 hc
  have q1 : (i : Int) + 1 < (p.length : Int) := by omega
  have q2 : (i : Int) + 1 < ((str p).size : Int) := by omega
  have q3 : (i : Int) < ((str p).size : Int) := by omega
  have r1 := wr64 ((i : Int) + 1) (by omega) (by omega)
  clear hc
  go_enter Try.func66, Try.ntmps66
  go_wp2
  go_ret
  exact ⟨rfl, rfl⟩
set_option maxRecDepth 100000 in
set_option maxHeartbeats 4000000 in
theorem word_q1 (p : List UInt8) (i : Nat) (hp : p.length ≤ 24) (hi : i + 1 = p.length) (hc : p[i]? = some 39) (w : World) :
    Calls Try.prog 66 #[S p, I i] w fun e w' => e = .returned (I 1) ∧ w' = w := by
  have hz := str_size p
  have hz2 : (str p).size ≤ 24 := by omega
  have g0 : ∀ h, ((str p)[i]'h).toNat = 39 := str_get p i 39 hc
  have q1 : ¬ (i : Int) + 1 < (p.length : Int) := by omega
  have q2 : ¬ (i : Int) + 1 < ((str p).size : Int) := by omega
  have q3 : (i : Int) < ((str p).size : Int) := by omega
  have r1 := wr64 ((i : Int) + 1) (by omega) (by omega)
  clear hc
  go_enter Try.func66, Try.ntmps66
  go_wp2
  go_ret
  exact ⟨rfl, rfl⟩
set_option maxRecDepth 100000 in
set_option maxHeartbeats 4000000 in
theorem word_o (p : List UInt8) (i : Nat) (hp : p.length ≤ 24) (c : UInt8) (hc : p[i]? = some c) (h39 : c.toNat ≠ 39) (h35 : c.toNat ≠ 35) (w : World) :
    Calls Try.prog 66 #[S p, I i] w fun e w' => e = .returned (I 1) ∧ w' = w := by
  have hz := str_size p
  have hz2 : (str p).size ≤ 24 := by omega
  have g0 := str_get p i c hc
  have hi : i < p.length := (List.getElem?_eq_some_iff.1 hc).1
  have q3 : (i : Int) < ((str p).size : Int) := by omega
  have r1 := wr64 ((i : Int) + 1) (by omega) (by omega)
  have e39 : ((c.toNat : Int) == 39) = false := by simp; omega
  have e35 : ((c.toNat : Int) == 35) = false := by simp; omega
  have e35' : ((c.toNat : Int) != 35) = true := by simp; omega
  clear hc h39 h35
  generalize c.toNat = n at *
  go_enter Try.func66, Try.ntmps66
  go_wp2
  go_ret
  exact ⟨rfl, rfl⟩
set_option maxRecDepth 100000 in
set_option maxHeartbeats 4000000 in
theorem word_h0 (p : List UInt8) (i : Nat) (hp : p.length ≤ 24) (hi : i + 1 = p.length) (hc : p[i]? = some 35) (w : World) :
    Calls Try.prog 66 #[S p, I i] w fun e w' => e = .returned (I 1) ∧ w' = w := by
  have hz := str_size p
  have hz2 : (str p).size ≤ 24 := by omega
  have g0 : ∀ h, ((str p)[i]'h).toNat = 35 := str_get p i 35 hc
  have q1 : ¬ (i : Int) + 1 < (p.length : Int) := by omega
  have q2 : ¬ (i : Int) + 1 < ((str p).size : Int) := by omega
  have q3 : (i : Int) < ((str p).size : Int) := by omega
  have r1 := wr64 ((i : Int) + 1) (by omega) (by omega)
  clear hc
  go_enter Try.func66, Try.ntmps66
  go_wp2
  go_loopw [5] (fun j wr => j = I ((i : Int) + 1) ∧ wr = w) (fun j _ => 0)
  case atStart => exact ⟨rfl, rfl⟩
  case round =>
    obtain ⟨rfl, rfl⟩ := hrel
    have ew : (i : Int) + 1 - (i : Int) = 1 := by omega
    go_wp2
    go_ret
    exact ⟨rfl, rfl⟩
set_option maxRecDepth 100000 in
set_option maxHeartbeats 4000000 in
theorem word_D (p : List UInt8) (i : Nat) (hp : p.length ≤ 24) (hc : p[i]? = some 35) (c0 : UInt8) (hc0 : p[i + 1]? = some c0) (h43 : ((c0.toNat : Int) == 43) = false) (h45 : ((c0.toNat : Int) == 45) = false) (N : Nat) (V : Int) (HN : digs (p.drop (i + 1)) 0 0 = (N, V)) (w : World) :
    Calls Try.prog 66 #[S p, I i] w fun e w' => e = .returned (I (1 + N)) ∧ w' = w := by
  have hz := str_size p
  have hz2 : (str p).size ≤ 24 := by omega
  have g0 : ∀ h, ((str p)[i]'h).toNat = 35 := str_get p i 35 hc
  have g1 := str_get p (i + 1) c0 hc0
  have hj : i + 1 < p.length := (List.getElem?_eq_some_iff.1 hc0).1
  have q0 : 0 ≤ ((i : Int) + 1) := by omega
  have q1 : (i : Int) + 1 < (p.length : Int) := by omega
  have q2 : (i : Int) + 1 < ((str p).size : Int) := by omega
  have q3 : (i : Int) < ((str p).size : Int) := by omega
  have r1 := wr64 ((i : Int) + 1) (by omega) (by omega)
  have r2 := wr64 ((i : Int) + 2) (by omega) (by omega)
  have HNN : Hid _ := HN
  have HAT : Hid (∀ j, j < p.length → ∃ c : UInt8, p[j]? = some c ∧ ∀ h, ((str p)[j]'h).toNat = c.toNat) := fun j hj => ⟨p[j], List.getElem?_eq_getElem hj, str_get p j _ (List.getElem?_eq_getElem hj)⟩
  clear HN hc0 hc
  generalize c0.toNat = c at *
  go_enter Try.func66, Try.ntmps66
  go_wp2
  go_loopw [5] (fun j wr => ∃ (k : Nat) (x : Int), i + 1 + k ≤ p.length ∧ j = I ((i : Int) + 1 + k) ∧ Hid (digs (p.drop (i + 1 + k)) x k = (N, V)) ∧ wr = w) (fun j _ => (p.length - intOf j).toNat)
  case atStart => exact ⟨0, 0, by omega, by go_num, HNN.out, rfl⟩
  case round =>
    clear g0 g1
    obtain ⟨k, x, hk, rfl, HX, rfl⟩ := hrel
    have q4 : 0 ≤ (i : Int) + 1 + k := by omega
    have ew : (i : Int) + 1 + (k : Int) - (i : Int) = 1 + (k : Int) := by omega
    by_cases hlt : i + 1 + k < p.length
    · have q5 : (i : Int) + 1 + k < (p.length : Int) := by omega
      have q6 : (i : Int) + 1 + k < ((str p).size : Int) := by omega
      have hk24 : (i : Int) + (k : Int) ≤ 24 := by omega
      obtain ⟨c1, hc1, g2⟩ := HAT.out _ hlt
      cases hd : isDg c1 with
      | true =>
        have HD : Hid _ := digs_one p _ x k c1 hc1 hd
        obtain ⟨d1, d2⟩ : 48 ≤ c1.toNat ∧ c1.toNat ≤ 57 := by simpa [isDg] using hd
        clear hd hc1
        generalize c1.toNat = c2 at *
        have d1' : (48 : Int) ≤ (c2 : Int) := by omega
        have d2' : (c2 : Int) ≤ 57 := by omega
        go_wp2
        go_roundw
        case rel => exact ⟨k + 1, _, by omega, by go_num, HD.out.symm.trans HX.out, trivial⟩
        case measure => simp [intOf]; omega
      | false =>
        have HE : Hid (k = N) := by
          have := (digs_not p _ x k c1 hc1 hd).symm.trans HX.out
          exact congrArg Prod.fst this
        obtain hd2 : c1.toNat < 48 ∨ (48 ≤ c1.toNat ∧ 57 < c1.toNat) := by
          have : ¬ (48 ≤ c1.toNat ∧ c1.toNat ≤ 57) := by simpa [isDg] using hd
          omega
        clear hd hc1 HX
        generalize c1.toNat = c2 at *
        rcases hd2 with d1 | ⟨d1, d2⟩
        · have d1' : ¬ (48 : Int) ≤ (c2 : Int) := by omega
          go_wp2
          go_ret
          rw [← HE.out]
          exact ⟨rfl, rfl⟩
        · have d1' : (48 : Int) ≤ (c2 : Int) := by omega
          have d2' : ¬ (c2 : Int) ≤ 57 := by omega
          go_wp2
          go_ret
          rw [← HE.out]
          exact ⟨rfl, rfl⟩
    · have q5 : ¬ ((i : Int) + 1 + k < (p.length : Int)) := by omega
      have HE : Hid (k = N) := by
        have := (digs_end p _ x k (show p.length ≤ i + 1 + k by omega)).symm.trans HX.out
        exact congrArg Prod.fst this
      clear HX
      go_wp2
      go_ret
      rw [← HE.out]
      exact ⟨rfl, rfl⟩
set_option maxRecDepth 100000 in
set_option maxHeartbeats 4000000 in
theorem word_P (p : List UInt8) (i : Nat) (hp : p.length ≤ 24) (hc : p[i]? = some 35) (c0 : UInt8) (hc0 : p[i + 1]? = some c0) (h43 : c0.toNat = 43) (N : Nat) (V : Int) (HN : digs (p.drop (i + 2)) 0 0 = (N, V)) (w : World) :
    Calls Try.prog 66 #[S p, I i] w fun e w' => e = .returned (I (2 + N)) ∧ w' = w := by
  have hz := str_size p
  have hz2 : (str p).size ≤ 24 := by omega
  have g0 : ∀ h, ((str p)[i]'h).toNat = 35 := str_get p i 35 hc
  have g1 := str_get p (i + 1) c0 hc0
  have hj : i + 1 < p.length := (List.getElem?_eq_some_iff.1 hc0).1
  have q0 : 0 ≤ ((i : Int) + 1) := by omega
  have q1 : (i : Int) + 1 < (p.length : Int) := by omega
  have q2 : (i : Int) + 1 < ((str p).size : Int) := by omega
  have q3 : (i : Int) < ((str p).size : Int) := by omega
  have r1 := wr64 ((i : Int) + 1) (by omega) (by omega)
  have r2 := wr64 ((i : Int) + 2) (by omega) (by omega)
  have HNN : Hid _ := HN
  have HAT : Hid (∀ j, j < p.length → ∃ c : UInt8, p[j]? = some c ∧ ∀ h, ((str p)[j]'h).toNat = c.toNat) := fun j hj => ⟨p[j], List.getElem?_eq_getElem hj, str_get p j _ (List.getElem?_eq_getElem hj)⟩
  rw [h43] at g1
  clear HN hc0 hc h43
  go_enter Try.func66, Try.ntmps66
  go_wp2
  go_loopw [5] (fun j wr => ∃ (k : Nat) (x : Int), i + 2 + k ≤ p.length ∧ j = I ((i : Int) + 2 + k) ∧ Hid (digs (p.drop (i + 2 + k)) x k = (N, V)) ∧ wr = w) (fun j _ => (p.length - intOf j).toNat)
  case atStart => exact ⟨0, 0, by omega, by go_num, HNN.out, rfl⟩
  case round =>
    clear g0 g1
    obtain ⟨k, x, hk, rfl, HX, rfl⟩ := hrel
    have q4 : 0 ≤ (i : Int) + 2 + k := by omega
    have ew : (i : Int) + 2 + (k : Int) - (i : Int) = 2 + (k : Int) := by omega
    by_cases hlt : i + 2 + k < p.length
    · have q5 : (i : Int) + 2 + k < (p.length : Int) := by omega
      have q6 : (i : Int) + 2 + k < ((str p).size : Int) := by omega
      have hk24 : (i : Int) + (k : Int) ≤ 24 := by omega
      obtain ⟨c1, hc1, g2⟩ := HAT.out _ hlt
      cases hd : isDg c1 with
      | true =>
        have HD : Hid _ := digs_one p _ x k c1 hc1 hd
        obtain ⟨d1, d2⟩ : 48 ≤ c1.toNat ∧ c1.toNat ≤ 57 := by simpa [isDg] using hd
        clear hd hc1
        generalize c1.toNat = c2 at *
        have d1' : (48 : Int) ≤ (c2 : Int) := by omega
        have d2' : (c2 : Int) ≤ 57 := by omega
        go_wp2
        go_roundw
        case rel => exact ⟨k + 1, _, by omega, by go_num, HD.out.symm.trans HX.out, trivial⟩
        case measure => simp [intOf]; omega
      | false =>
        have HE : Hid (k = N) := by
          have := (digs_not p _ x k c1 hc1 hd).symm.trans HX.out
          exact congrArg Prod.fst this
        obtain hd2 : c1.toNat < 48 ∨ (48 ≤ c1.toNat ∧ 57 < c1.toNat) := by
          have : ¬ (48 ≤ c1.toNat ∧ c1.toNat ≤ 57) := by simpa [isDg] using hd
          omega
        clear hd hc1 HX
        generalize c1.toNat = c2 at *
        rcases hd2 with d1 | ⟨d1, d2⟩
        · have d1' : ¬ (48 : Int) ≤ (c2 : Int) := by omega
          go_wp2
          go_ret
          rw [← HE.out]
          exact ⟨rfl, rfl⟩
        · have d1' : (48 : Int) ≤ (c2 : Int) := by omega
          have d2' : ¬ (c2 : Int) ≤ 57 := by omega
          go_wp2
          go_ret
          rw [← HE.out]
          exact ⟨rfl, rfl⟩
    · have q5 : ¬ ((i : Int) + 2 + k < (p.length : Int)) := by omega
      have HE : Hid (k = N) := by
        have := (digs_end p _ x k (show p.length ≤ i + 2 + k by omega)).symm.trans HX.out
        exact congrArg Prod.fst this
      clear HX
      go_wp2
      go_ret
      rw [← HE.out]
      exact ⟨rfl, rfl⟩
set_option maxRecDepth 100000 in
set_option maxHeartbeats 4000000 in
theorem word_M (p : List UInt8) (i : Nat) (hp : p.length ≤ 24) (hc : p[i]? = some 35) (c0 : UInt8) (hc0 : p[i + 1]? = some c0) (h43 : c0.toNat = 45) (N : Nat) (V : Int) (HN : digs (p.drop (i + 2)) 0 0 = (N, V)) (w : World) :
    Calls Try.prog 66 #[S p, I i] w fun e w' => e = .returned (I (2 + N)) ∧ w' = w := by
  have hz := str_size p
  have hz2 : (str p).size ≤ 24 := by omega
  have g0 : ∀ h, ((str p)[i]'h).toNat = 35 := str_get p i 35 hc
  have g1 := str_get p (i + 1) c0 hc0
  have hj : i + 1 < p.length := (List.getElem?_eq_some_iff.1 hc0).1
  have q0 : 0 ≤ ((i : Int) + 1) := by omega
  have q1 : (i : Int) + 1 < (p.length : Int) := by omega
  have q2 : (i : Int) + 1 < ((str p).size : Int) := by omega
  have q3 : (i : Int) < ((str p).size : Int) := by omega
  have r1 := wr64 ((i : Int) + 1) (by omega) (by omega)
  have r2 := wr64 ((i : Int) + 2) (by omega) (by omega)
  have HNN : Hid _ := HN
  have HAT : Hid (∀ j, j < p.length → ∃ c : UInt8, p[j]? = some c ∧ ∀ h, ((str p)[j]'h).toNat = c.toNat) := fun j hj => ⟨p[j], List.getElem?_eq_getElem hj, str_get p j _ (List.getElem?_eq_getElem hj)⟩
  rw [h43] at g1
  clear HN hc0 hc h43
  go_enter Try.func66, Try.ntmps66
  go_wp2
  go_loopw [5] (fun j wr => ∃ (k : Nat) (x : Int), i + 2 + k ≤ p.length ∧ j = I ((i : Int) + 2 + k) ∧ Hid (digs (p.drop (i + 2 + k)) x k = (N, V)) ∧ wr = w) (fun j _ => (p.length - intOf j).toNat)
  case atStart => exact ⟨0, 0, by omega, by go_num, HNN.out, rfl⟩
  case round =>
    clear g0 g1
    obtain ⟨k, x, hk, rfl, HX, rfl⟩ := hrel
    have q4 : 0 ≤ (i : Int) + 2 + k := by omega
    have ew : (i : Int) + 2 + (k : Int) - (i : Int) = 2 + (k : Int) := by omega
    by_cases hlt : i + 2 + k < p.length
    · have q5 : (i : Int) + 2 + k < (p.length : Int) := by omega
      have q6 : (i : Int) + 2 + k < ((str p).size : Int) := by omega
      have hk24 : (i : Int) + (k : Int) ≤ 24 := by omega
      obtain ⟨c1, hc1, g2⟩ := HAT.out _ hlt
      cases hd : isDg c1 with
      | true =>
        have HD : Hid _ := digs_one p _ x k c1 hc1 hd
        obtain ⟨d1, d2⟩ : 48 ≤ c1.toNat ∧ c1.toNat ≤ 57 := by simpa [isDg] using hd
        clear hd hc1
        generalize c1.toNat = c2 at *
        have d1' : (48 : Int) ≤ (c2 : Int) := by omega
        have d2' : (c2 : Int) ≤ 57 := by omega
        go_wp2
        go_roundw
        case rel => exact ⟨k + 1, _, by omega, by go_num, HD.out.symm.trans HX.out, trivial⟩
        case measure => simp [intOf]; omega
      | false =>
        have HE : Hid (k = N) := by
          have := (digs_not p _ x k c1 hc1 hd).symm.trans HX.out
          exact congrArg Prod.fst this
        obtain hd2 : c1.toNat < 48 ∨ (48 ≤ c1.toNat ∧ 57 < c1.toNat) := by
          have : ¬ (48 ≤ c1.toNat ∧ c1.toNat ≤ 57) := by simpa [isDg] using hd
          omega
        clear hd hc1 HX
        generalize c1.toNat = c2 at *
        rcases hd2 with d1 | ⟨d1, d2⟩
        · have d1' : ¬ (48 : Int) ≤ (c2 : Int) := by omega
          go_wp2
          go_ret
          rw [← HE.out]
          exact ⟨rfl, rfl⟩
        · have d1' : (48 : Int) ≤ (c2 : Int) := by omega
          have d2' : ¬ (c2 : Int) ≤ 57 := by omega
          go_wp2
          go_ret
          rw [← HE.out]
          exact ⟨rfl, rfl⟩
    · have q5 : ¬ ((i : Int) + 2 + k < (p.length : Int)) := by omega
      have HE : Hid (k = N) := by
        have := (digs_end p _ x k (show p.length ≤ i + 2 + k by omega)).symm.trans HX.out
        exact congrArg Prod.fst this
      clear HX
      go_wp2
      go_ret
      rw [← HE.out]
      exact ⟨rfl, rfl⟩
theorem word_w (p : List UInt8) (i : Nat) (hp : p.length ≤ 24) (c : UInt8) (r : List UInt8) (h : p.drop i = c :: r) (w : World) :
    Calls Try.prog 66 #[S p, I i] w fun e w' => e = .returned (I (wdT c r)) ∧ w' = w := by
  obtain ⟨hc, hr, hl⟩ := dropG h
  by_cases h39 : c = 39
  · subst h39
    cases r with
    | nil => exact word_q1 p i hp (by simpa using hl.symm) hc w
    | cons a b => exact word_q p i hp (by simp at hl; omega) hc w
  by_cases h35 : c = 35
  · subst h35
    cases r with
    | nil => exact word_h0 p i hp (by simpa using hl.symm) hc w
    | cons c0 r =>
      obtain ⟨hc0, hr0, -⟩ := dropG hr
      have e : wdT 35 (c0 :: r) = 1 + wdL (c0 :: r) := rfl
      rw [e, wdL_cons]
      by_cases h43 : c0.toNat = 43
      · rw [if_pos (.inl h43)]
        have := word_P p i hp hc c0 hc0 h43 _ _ rfl w
        rw [show i + 2 = i + 1 + 1 from rfl, hr0] at this
        refine this.mono ?_
        rintro e w' ⟨rfl, rfl⟩
        refine ⟨ret_int ?_, rfl⟩
        push_cast
        omega
      · by_cases h45 : c0.toNat = 45
        · rw [if_pos (.inr h45)]
          have := word_M p i hp hc c0 hc0 h45 _ _ rfl w
          rw [show i + 2 = i + 1 + 1 from rfl, hr0] at this
          refine this.mono ?_
          rintro e w' ⟨rfl, rfl⟩
          refine ⟨ret_int ?_, rfl⟩
          push_cast
          omega
        · rw [if_neg (fun e => e.elim h43 h45)]
          have := word_D p i hp hc c0 hc0 (by simp; omega) (by simp; omega) _ _ rfl w
          rw [hr] at this
          refine this.mono ?_
          rintro e w' ⟨rfl, rfl⟩
          refine ⟨ret_int ?_, rfl⟩
          push_cast
          omega
  · have e : wdT c r = 1 := by simp [wdT, h39, h35]
    rw [e]
    exact word_o p i hp c hc (fun e => h39 (UInt8.toNat_inj.1 e)) (fun e => h35 (UInt8.toNat_inj.1 e)) w
end Go.Proofs.Qxb6500470a
