import Derived.Test.Qxb6500470aWo1
namespace Go.Proofs.Qxb6500470a
open Go.RowKit
theorem digs_all : ∀ (l : List UInt8) (v : Int) (n : Nat), (digs l v n).1 = n + l.length → ∀ c ∈ l, isDg c = true
  | [], _, _, _, c, hc => by cases hc
  | a :: r, v, n, h, c, hc => by
    cases ha : isDg a with
    | true =>
      have e : digs (a :: r) v n = digs r (wrap64 (wrap64 (v * 10) + ((a.toNat : Int) - 48))) (n + 1) := by simp [digs, ha]
      rw [e, List.length_cons] at h
      rcases List.mem_cons.1 hc with rfl | hc
      · exact ha
      · exact digs_all r (wrap64 (wrap64 (v * 10) + ((a.toNat : Int) - 48))) (n + 1) (by omega) c hc
    | false =>
      have e : digs (a :: r) v n = (n, v) := by simp [digs, ha]
      rw [e, List.length_cons] at h
      dsimp only at h
      omega
theorem digs_bd : ∀ (l : List UInt8) (v : Int) (n : Nat), -9223372036854775808 ≤ v → v ≤ 9223372036854775807 → -9223372036854775808 ≤ (digs l v n).2 ∧ (digs l v n).2 ≤ 9223372036854775807
  | [], v, n, h1, h2 => ⟨h1, h2⟩
  | c :: r, v, n, h1, h2 => by
    unfold digs
    split
    · exact digs_bd r _ _ (w64_bounds _).1 (w64_bounds _).2
    · exact ⟨h1, h2⟩
theorem digs_bounds (l : List UInt8) : -9223372036854775808 ≤ (digs l 0 0).2 ∧ (digs l 0 0).2 ≤ 9223372036854775807 := digs_bd l 0 0 (by omega) (by omega)
theorem neg_one (v d : Int) : wrap64 (wrap64 (wrap64 (-v) * 10) + -d) = wrap64 (-(wrap64 (wrap64 (v * 10) + d))) := by
  unfold wrap64
  omega
set_option maxRecDepth 100000 in
set_option maxHeartbeats 4000000 in
theorem lit_0 (p : List UInt8) (h1 : p.length = 1) (w : World) :
    Calls Try.prog 83 #[S p] w fun e w' => e = .returned (.tuple #[I 0, .bool false]) ∧ w' = w := by
  have hz := str_size p
  have hz2 : (str p).size ≤ 24 := by omega
  have q1 : ¬ (1 : Int) < (p.length : Int) := by omega
  have q2 : ¬ (1 : Int) < ((str p).size : Int) := by omega
  go_enter Try.func83, Try.ntmps83
  go_wp2
  go_loopw [6, 7] (fun v k wr => v = I 0 ∧ k = I 1 ∧ wr = w) (fun _ _ _ => 0)
  case atStart => exact ⟨rfl, rfl, rfl⟩
  case round =>
    obtain ⟨rfl, rfl, rfl⟩ := hrel
    go_wp2
    go_ret2
    exact ⟨rfl, rfl⟩
set_option maxRecDepth 100000 in
set_option maxHeartbeats 4000000 in
theorem lit_D (p : List UInt8) (hp : p.length ≤ 24) (c0 : UInt8) (hc0 : p[1]? = some c0) (h43 : ((c0.toNat : Int) == 43) = false) (h45 : ((c0.toNat : Int) == 45) = false) (N : Nat) (V : Int) (HN : digs (p.drop 1) 0 0 = (N, V)) (hall : ∀ j c, 1 ≤ j → p[j]? = some c → isDg c = true) (b : Bool) (hb : b = decide (1 < p.length)) (w : World) :
    Calls Try.prog 83 #[S p] w fun e w' => e = .returned (.tuple #[I (V), .bool b]) ∧ w' = w := by
  have hz := str_size p
  have hz2 : (str p).size ≤ 24 := by omega
  have g1 := str_get p 1 c0 hc0
  have hj : 1 < p.length := (List.getElem?_eq_some_iff.1 hc0).1
  have q1 : (1 : Int) < (p.length : Int) := by omega
  have q2 : (1 : Int) < ((str p).size : Int) := by omega
  have HNN : Hid _ := HN
  have HAL : Hid _ := hall
  have HB : Hid _ := hb
  have HAT : Hid (∀ j, j < p.length → ∃ c : UInt8, p[j]? = some c ∧ ∀ h, ((str p)[j]'h).toNat = c.toNat) := fun j hj => ⟨p[j], List.getElem?_eq_getElem hj, str_get p j _ (List.getElem?_eq_getElem hj)⟩
  clear HN hc0 hall hb
  generalize c0.toNat = c at *
  go_enter Try.func83, Try.ntmps83
  go_wp2
  go_loopw [6, 7] (fun v j wr => ∃ (k : Nat) (x : Int), 1 + k ≤ p.length ∧ j = I (1 + (k : Int)) ∧ v = I (x) ∧ Hid (digs (p.drop (1 + k)) x k = (N, V)) ∧ -9223372036854775808 ≤ x ∧ x ≤ 9223372036854775807 ∧ wr = w) (fun _ j _ => (p.length - intOf j).toNat)
  case atStart => exact ⟨0, 0, by omega, by go_num, by first | rfl | (show I 0 = I _; congr 1; unfold wrap64; omega), HNN.out, by omega, by omega, rfl⟩
  case round =>
    clear g1
    obtain ⟨k, x, hk, rfl, rfl, HX, x1, x2, rfl⟩ := hrel
    have q4 : 0 ≤ 1 + (k : Int) := by omega
    by_cases hlt : 1 + k < p.length
    · have q5 : 1 + (k : Int) < (p.length : Int) := by omega
      have q6 : 1 + (k : Int) < ((str p).size : Int) := by omega
      have hk24 : (k : Int) ≤ 24 := by omega
      obtain ⟨c1, hc1, g2⟩ := HAT.out _ hlt
      have hd : isDg c1 = true := HAL.out _ c1 (by omega) hc1
      have HD : Hid _ := digs_one p _ x k c1 hc1 hd
      obtain ⟨d1, d2⟩ : 48 ≤ c1.toNat ∧ c1.toNat ≤ 57 := by simpa [isDg] using hd
      clear hd hc1
      generalize c1.toNat = c2 at *
      have d1' : (48 : Int) ≤ (c2 : Int) := by omega
      have d2' : (c2 : Int) ≤ 57 := by omega
      go_wp2
      go_roundw
      case rel =>
        obtain ⟨y1, y2⟩ := w64_bounds (wrap64 (x * 10) + ((c2 : Int) - 48))
        refine ⟨k + 1, _, by omega, by go_num, ?_, HD.out.symm.trans HX.out, y1, y2, trivial⟩
        go_num
      case measure => simp [intOf]; omega
    · have q5 : ¬ (1 + (k : Int) < (p.length : Int)) := by omega
      have HE : Hid (k = N ∧ x = V) := by
        have := (digs_end p _ x k (show p.length ≤ 1 + k by omega)).symm.trans HX.out
        show k = N ∧ x = V
        simpa using this
      clear HX
      by_cases hB : 1 < p.length
      · have q7 : (1 : Int) < (p.length : Int) := by omega
        go_wp2
        go_ret2
        rw [HB.out, ← HE.out.2, decide_eq_true hB]
        exact ⟨rfl, rfl⟩
      · exact absurd hj hB
set_option maxRecDepth 100000 in
set_option maxHeartbeats 4000000 in
theorem lit_P (p : List UInt8) (hp : p.length ≤ 24) (c0 : UInt8) (hc0 : p[1]? = some c0) (h43 : c0.toNat = 43) (N : Nat) (V : Int) (HN : digs (p.drop 2) 0 0 = (N, V)) (hall : ∀ j c, 2 ≤ j → p[j]? = some c → isDg c = true) (b : Bool) (hb : b = decide (2 < p.length)) (w : World) :
    Calls Try.prog 83 #[S p] w fun e w' => e = .returned (.tuple #[I (V), .bool b]) ∧ w' = w := by
  have hz := str_size p
  have hz2 : (str p).size ≤ 24 := by omega
  have g1 := str_get p 1 c0 hc0
  have hj : 1 < p.length := (List.getElem?_eq_some_iff.1 hc0).1
  have q1 : (1 : Int) < (p.length : Int) := by omega
  have q2 : (1 : Int) < ((str p).size : Int) := by omega
  have HNN : Hid _ := HN
  have HAL : Hid _ := hall
  have HB : Hid _ := hb
  have HAT : Hid (∀ j, j < p.length → ∃ c : UInt8, p[j]? = some c ∧ ∀ h, ((str p)[j]'h).toNat = c.toNat) := fun j hj => ⟨p[j], List.getElem?_eq_getElem hj, str_get p j _ (List.getElem?_eq_getElem hj)⟩
  rw [h43] at g1
  clear HN hc0 h43 hall hb
  go_enter Try.func83, Try.ntmps83
  go_wp2
  go_loopw [6, 7] (fun v j wr => ∃ (k : Nat) (x : Int), 2 + k ≤ p.length ∧ j = I (2 + (k : Int)) ∧ v = I (x) ∧ Hid (digs (p.drop (2 + k)) x k = (N, V)) ∧ -9223372036854775808 ≤ x ∧ x ≤ 9223372036854775807 ∧ wr = w) (fun _ j _ => (p.length - intOf j).toNat)
  case atStart => exact ⟨0, 0, by omega, by go_num, by first | rfl | (show I 0 = I _; congr 1; unfold wrap64; omega), HNN.out, by omega, by omega, rfl⟩
  case round =>
    clear g1
    obtain ⟨k, x, hk, rfl, rfl, HX, x1, x2, rfl⟩ := hrel
    have q4 : 0 ≤ 2 + (k : Int) := by omega
    by_cases hlt : 2 + k < p.length
    · have q5 : 2 + (k : Int) < (p.length : Int) := by omega
      have q6 : 2 + (k : Int) < ((str p).size : Int) := by omega
      have hk24 : (k : Int) ≤ 24 := by omega
      obtain ⟨c1, hc1, g2⟩ := HAT.out _ hlt
      have hd : isDg c1 = true := HAL.out _ c1 (by omega) hc1
      have HD : Hid _ := digs_one p _ x k c1 hc1 hd
      obtain ⟨d1, d2⟩ : 48 ≤ c1.toNat ∧ c1.toNat ≤ 57 := by simpa [isDg] using hd
      clear hd hc1
      generalize c1.toNat = c2 at *
      have d1' : (48 : Int) ≤ (c2 : Int) := by omega
      have d2' : (c2 : Int) ≤ 57 := by omega
      go_wp2
      go_roundw
      case rel =>
        obtain ⟨y1, y2⟩ := w64_bounds (wrap64 (x * 10) + ((c2 : Int) - 48))
        refine ⟨k + 1, _, by omega, by go_num, ?_, HD.out.symm.trans HX.out, y1, y2, trivial⟩
        go_num
      case measure => simp [intOf]; omega
    · have q5 : ¬ (2 + (k : Int) < (p.length : Int)) := by omega
      have HE : Hid (k = N ∧ x = V) := by
        have := (digs_end p _ x k (show p.length ≤ 2 + k by omega)).symm.trans HX.out
        show k = N ∧ x = V
        simpa using this
      clear HX
      by_cases hB : 2 < p.length
      · have q7 : (2 : Int) < (p.length : Int) := by omega
        go_wp2
        go_ret2
        rw [HB.out, ← HE.out.2, decide_eq_true hB]
        exact ⟨rfl, rfl⟩
      · have q7 : ¬ (2 : Int) < (p.length : Int) := by omega
        go_wp2
        go_ret2
        rw [HB.out, ← HE.out.2, decide_eq_false hB]
        exact ⟨rfl, rfl⟩
set_option maxRecDepth 100000 in
set_option maxHeartbeats 4000000 in
theorem lit_M (p : List UInt8) (hp : p.length ≤ 24) (c0 : UInt8) (hc0 : p[1]? = some c0) (h43 : c0.toNat = 45) (N : Nat) (V : Int) (HN : digs (p.drop 2) 0 0 = (N, V)) (hall : ∀ j c, 2 ≤ j → p[j]? = some c → isDg c = true) (b : Bool) (hb : b = decide (2 < p.length)) (w : World) :
    Calls Try.prog 83 #[S p] w fun e w' => e = .returned (.tuple #[I (wrap64 (-V)), .bool b]) ∧ w' = w := by
  have hz := str_size p
  have hz2 : (str p).size ≤ 24 := by omega
  have g1 := str_get p 1 c0 hc0
  have hj : 1 < p.length := (List.getElem?_eq_some_iff.1 hc0).1
  have q1 : (1 : Int) < (p.length : Int) := by omega
  have q2 : (1 : Int) < ((str p).size : Int) := by omega
  have HNN : Hid _ := HN
  have HAL : Hid _ := hall
  have HB : Hid _ := hb
  have HAT : Hid (∀ j, j < p.length → ∃ c : UInt8, p[j]? = some c ∧ ∀ h, ((str p)[j]'h).toNat = c.toNat) := fun j hj => ⟨p[j], List.getElem?_eq_getElem hj, str_get p j _ (List.getElem?_eq_getElem hj)⟩
  rw [h43] at g1
  clear HN hc0 h43 hall hb
  go_enter Try.func83, Try.ntmps83
  go_wp2
  go_loopw [6, 7] (fun v j wr => ∃ (k : Nat) (x : Int), 2 + k ≤ p.length ∧ j = I (2 + (k : Int)) ∧ v = I (wrap64 (-x)) ∧ Hid (digs (p.drop (2 + k)) x k = (N, V)) ∧ -9223372036854775808 ≤ x ∧ x ≤ 9223372036854775807 ∧ wr = w) (fun _ j _ => (p.length - intOf j).toNat)
  case atStart => exact ⟨0, 0, by omega, by go_num, by first | rfl | (show I 0 = I _; congr 1; unfold wrap64; omega), HNN.out, by omega, by omega, rfl⟩
  case round =>
    clear g1
    obtain ⟨k, x, hk, rfl, rfl, HX, x1, x2, rfl⟩ := hrel
    have q4 : 0 ≤ 2 + (k : Int) := by omega
    by_cases hlt : 2 + k < p.length
    · have q5 : 2 + (k : Int) < (p.length : Int) := by omega
      have q6 : 2 + (k : Int) < ((str p).size : Int) := by omega
      have hk24 : (k : Int) ≤ 24 := by omega
      obtain ⟨c1, hc1, g2⟩ := HAT.out _ hlt
      have hd : isDg c1 = true := HAL.out _ c1 (by omega) hc1
      have HD : Hid _ := digs_one p _ x k c1 hc1 hd
      obtain ⟨d1, d2⟩ : 48 ≤ c1.toNat ∧ c1.toNat ≤ 57 := by simpa [isDg] using hd
      clear hd hc1
      generalize c1.toNat = c2 at *
      have d1' : (48 : Int) ≤ (c2 : Int) := by omega
      have d2' : (c2 : Int) ≤ 57 := by omega
      have HNG : Hid _ := neg_one x ((c2 : Int) - 48)
      obtain ⟨z1, z2⟩ := w64_bounds (-x)
      have HZ : ∃ z, z = wrap64 (-x) := ⟨_, rfl⟩
      obtain ⟨z, hz0⟩ := HZ
      rw [← hz0] at z1 z2 ⊢
      have HZ : Hid (z = wrap64 (-x)) := hz0
      clear hz0
      go_wp2
      go_roundw
      case rel =>
        obtain ⟨y1, y2⟩ := w64_bounds (wrap64 (x * 10) + ((c2 : Int) - 48))
        refine ⟨k + 1, _, by omega, by go_num, ?_, HD.out.symm.trans HX.out, y1, y2, trivial⟩
        rw [HZ.out]
        refine Eq.trans ?_ (congrArg (Value.int .i64) HNG.out)
        go_num
      case measure => simp [intOf]; omega
    · have q5 : ¬ (2 + (k : Int) < (p.length : Int)) := by omega
      have HE : Hid (k = N ∧ x = V) := by
        have := (digs_end p _ x k (show p.length ≤ 2 + k by omega)).symm.trans HX.out
        show k = N ∧ x = V
        simpa using this
      clear HX
      by_cases hB : 2 < p.length
      · have q7 : (2 : Int) < (p.length : Int) := by omega
        go_wp2
        go_ret2
        rw [HB.out, ← HE.out.2, decide_eq_true hB]
        exact ⟨rfl, rfl⟩
      · have q7 : ¬ (2 : Int) < (p.length : Int) := by omega
        go_wp2
        go_ret2
        rw [HB.out, ← HE.out.2, decide_eq_false hB]
        exact ⟨rfl, rfl⟩
theorem lit_w2 (s : List UInt8) (hs : s.length < 24) (hw : wdL s = s.length) (w : World) :
    Calls Try.prog 83 #[S (35 :: s)] w fun e w' => ∃ v, e = .returned (.tuple #[I v, .bool (litL s).isSome]) ∧ (∀ q, litL s = some q → v = q.2) ∧ -9223372036854775808 ≤ v ∧ v ≤ 9223372036854775807 ∧ w' = w := by
  have hp : (35 :: s).length ≤ 24 := by simp; omega
  cases s with
  | nil =>
    refine (lit_0 [35] rfl w).mono ?_
    rintro e w' ⟨rfl, rfl⟩
    exact ⟨0, rfl, (fun q h => by cases h), by omega, by omega, rfl⟩
  | cons c0 r =>
    have hc0 : (35 :: c0 :: r)[1]? = some c0 := rfl
    rw [wdL_cons] at hw
    have hin : ∀ (B : Nat) (l : List UInt8), (35 :: c0 :: r).drop B = l → (∀ c ∈ l, isDg c = true) → ∀ j c, B ≤ j → (35 :: c0 :: r)[j]? = some c → isDg c = true := by
      intro B l hl ha j c hj hc
      refine ha c ?_
      rw [← hl, List.mem_iff_getElem?]
      exact ⟨j - B, by rw [List.getElem?_drop, show B + (j - B) = j from by omega]; exact hc⟩
    by_cases h43 : c0.toNat = 43
    · rw [if_pos (.inl h43), List.length_cons] at hw
      have ha := digs_all r 0 0 (by omega)
      have b := digs_bounds r
      refine (lit_P _ hp c0 hc0 h43 _ _ rfl (hin 2 r rfl ha) _ rfl w).mono ?_
      rintro e w' ⟨rfl, rfl⟩
      have e1 : (litL (c0 :: r)).isSome = decide (2 < (35 :: c0 :: r).length) := by
        rw [litL_cons, if_pos h43]
        cases r with
        | nil => rfl
        | cons a t => rw [if_neg (by simp at hw; omega)]; simp
      rw [e1]
      refine ⟨_, rfl, ?_, b.1, b.2, rfl⟩
      intro q hq
      rw [litL_cons, if_pos h43] at hq
      split at hq
      · cases hq
      · cases hq; rfl
    by_cases h45 : c0.toNat = 45
    · rw [if_pos (.inr h45), List.length_cons] at hw
      have ha := digs_all r 0 0 (by omega)
      have b := w64_bounds (-(digs r 0 0).2)
      refine (lit_M _ hp c0 hc0 h45 _ _ rfl (hin 2 r rfl ha) _ rfl w).mono ?_
      rintro e w' ⟨rfl, rfl⟩
      have e1 : (litL (c0 :: r)).isSome = decide (2 < (35 :: c0 :: r).length) := by
        rw [litL_cons, if_neg h43, if_pos h45]
        cases r with
        | nil => rfl
        | cons a t => rw [if_neg (by simp at hw; omega)]; simp
      rw [e1]
      refine ⟨_, rfl, ?_, b.1, b.2, rfl⟩
      intro q hq
      rw [litL_cons, if_neg h43, if_pos h45] at hq
      split at hq
      · cases hq
      · cases hq; rfl
    rw [if_neg (fun e => e.elim h43 h45)] at hw
    have ha := digs_all (c0 :: r) 0 0 (by omega)
    have b := digs_bounds (c0 :: r)
    have hn : ¬ (digs (c0 :: r) 0 0).1 = 0 := by rw [hw, List.length_cons]; omega
    refine (lit_D _ hp c0 hc0 (by simp; omega) (by simp; omega) _ _ rfl (hin 1 _ rfl ha) _ rfl w).mono ?_
    rintro e w' ⟨rfl, rfl⟩
    have e1 : (litL (c0 :: r)).isSome = decide (1 < (35 :: c0 :: r).length) := by
      rw [litL_cons, if_neg h43, if_neg h45, if_neg hn]
      simp
    rw [e1]
    refine ⟨_, rfl, ?_, b.1, b.2, rfl⟩
    intro q hq
    rw [litL_cons, if_neg h43, if_neg h45, if_neg hn] at hq
    cases hq; rfl
end Go.Proofs.Qxb6500470a
