import Derived.Test.Qxb6500472aKf1
namespace Go.Proofs.Qxb6500472a
open Ieee (Format Datum double single Toward)
theorem kF_word (s : Bool) (r : Nat) (h : r ≤ 2139095040) : kF .f32 (single.word s r) = (if s then -(r : Int) else (r : Int)) ∧ isNan .f32 (single.word s r) = false := by
  obtain ⟨h1, h2⟩ := wordS s r (by omega)
  constructor
  · unfold kF
    rw [show FloatKind.f32.format = single from rfl, h1, h2]
  · rw [nanK, show FloatKind.f32.format = single from rfl, h2]
    simp only [decide_eq_false_iff_not, Nat.not_lt]
    exact h
theorem k_zero : kF .f32 0 = 0 := by decide +kernel
theorem k_one : kF .f32 one32 = 1065353216 := by decide +kernel
theorem n_zero : isNan .f32 0 = false := by decide +kernel
theorem n_one : isNan .f32 one32 = false := by decide +kernel
theorem fin_of_nan {x : Nat} (h : isNan .f32 x = false) (h2 : rung single x ≠ 2139095040) : fin single x := by
  have h1 := num_rung h
  show rung single x < 2139095040
  have h3 : rung single x ≤ 2139095040 := h1
  omega
theorem kFs (x : Nat) : kF .f32 x = if sgn single x then -(rung single x : Int) else (rung single x : Int) := rfl
theorem val_le {x y : Nat} (h : kF .f32 x ≤ kF .f32 y) : val single x ≤ val single y := Int.not_lt.1 fun g => by have := (val_kF .f32 y x).1 g; omega
theorem frac_law (lo P hi : Nat) (hge : ge32 P lo = true) (hle : le32 P hi = true) (hw : gt32 (sub32 hi lo) 0 = true) (hinf : eq32 (add32 (sub32 hi lo) (sub32 hi lo)) (sub32 hi lo) = false) :
    partIn (quo32 (sub32 P lo) (sub32 hi lo)) = true ∧ (eq32 P lo = true → quo32 (sub32 P lo) (sub32 hi lo) = 0 ∨ quo32 (sub32 P lo) (sub32 hi lo) = 2147483648) ∧ (eq32 P hi = true → quo32 (sub32 P lo) (sub32 hi lo) = one32) := by
  obtain ⟨nw, -, kw⟩ := (gt_iffK .f32 _ _).1 hw
  rw [k_zero] at kw
  obtain ⟨nP, nlo, k1⟩ := (ge_iffK .f32 _ _).1 hge
  obtain ⟨-, nhi, k2⟩ := (le_iffK .f32 _ _).1 hle
  have sw : sgn single (sub32 hi lo) = false := by
    rw [kFs] at kw
    cases h : sgn single (sub32 hi lo) with
    | false => rfl
    | true => rw [h] at kw; simp only [if_true] at kw; omega
  have rw0 : rung single (sub32 hi lo) ≠ 0 := by
    rw [kFs, sw] at kw
    simp only [Bool.false_eq_true, if_false] at kw
    omega
  have fw : fin single (sub32 hi lo) := by
    refine fin_of_nan nw fun hr => ?_
    have e := read_inf single _ hr le_inf32
    rw [sw] at e
    have : eq32 (add32 (sub32 hi lo) (sub32 hi lo)) (sub32 hi lo) = true := by
      generalize sub32 hi lo = W at *
      have ea : add32 W W = (((single.read W).sum (single.read W)).map single.write).getD (theNan .f32) := rfl
      rw [ea, e]
      show (single.order _ W == some .eq) = true
      unfold Format.order
      rw [e]
      decide +kernel
    rw [this] at hinf
    cases hinf
  obtain ⟨fhi, flo⟩ := sub_ends fw
  have fP : fin single P := by
    have a1 : rung single lo < 2139095040 := flo
    have a2 : rung single hi < 2139095040 := fhi
    show rung single P < 2139095040
    rw [kFs P, kFs lo] at k1
    rw [kFs P, kFs hi] at k2
    clear sw kw rw0 nw hw hinf fw
    generalize sgn single P = s1 at k1 k2
    generalize sgn single lo = s2 at k1
    generalize sgn single hi = s3 at k2
    cases s1 <;> cases s2 <;> cases s3 <;> simp only [Bool.false_eq_true, if_false, if_true] at k1 k2 <;> omega
  have v1 : val single lo ≤ val single P := val_le k1
  have v2 : val single P ≤ val single hi := val_le k2
  have eP := sub_fin P lo fP flo
  have eW := sub_fin hi lo fhi flo
  have lM := rndm_le single 0 (val single hi - val single lo).natAbs
  have lN := rndm_le single 0 (val single P - val single lo).natAbs
  rw [inf32] at lM lN
  obtain ⟨p1, p2⟩ := wordS (if val single hi - val single lo = 0 then sgn single hi && !sgn single lo else decide (val single hi - val single lo < 0)) _ (show rndm single 0 (val single hi - val single lo).natAbs < 2147483648 by omega)
  obtain ⟨q1, q2⟩ := wordS (if val single P - val single lo = 0 then sgn single P && !sgn single lo else decide (val single P - val single lo < 0)) _ (show rndm single 0 (val single P - val single lo).natAbs < 2147483648 by omega)
  rw [← eW] at p1 p2
  rw [← eP] at q1 q2
  have hmono : rndm single 0 (val single P - val single lo).natAbs ≤ rndm single 0 (val single hi - val single lo).natAbs := rndm_mono single 0 (by omega)
  have fa : fin single (sub32 P lo) := by
    have : rung single (sub32 hi lo) < 2139095040 := fw
    show rung single (sub32 P lo) < 2139095040
    omega
  obtain ⟨r, ef, hr, hz⟩ := quo_law (sub32 P lo) (sub32 hi lo) fa fw rw0 (by omega) sw
  have hsz : sgn single (sub32 P lo) = true → r = 0 := by
    intro hs
    apply hz
    rw [q2]
    rw [q1] at hs
    have : val single P - val single lo = 0 := by
      by_cases h : val single P - val single lo = 0
      · exact h
      · rw [if_neg h] at hs
        have := of_decide_eq_true hs
        omega
    rw [this]
    exact rndm_zero single 0
  refine ⟨?_, ?_, ?_⟩
  · obtain ⟨g1, g2⟩ := kF_word (sgn single (sub32 P lo)) r (by omega)
    rw [← ef] at g1 g2
    have g3 : kF .f32 (quo32 (sub32 P lo) (sub32 hi lo)) = (r : Int) := by
      rw [g1]
      split
      · rename_i h
        have := hsz h
        omega
      · rfl
    unfold partIn
    rw [Bool.and_eq_true]
    exact ⟨(ge_iffK .f32 _ _).2 ⟨g2, n_zero, by rw [k_zero, g3]; omega⟩, (le_iffK .f32 _ _).2 ⟨g2, n_one, by rw [k_one, g3]; omega⟩⟩
  · intro he
    obtain ⟨-, -, k3⟩ := (eq_iffK .f32 _ _).1 he
    have v3 : val single P - val single lo = 0 := by
      have b : val single P ≤ val single lo := val_le (by omega)
      omega
    have : r = 0 := hz (by rw [q2, v3]; exact rndm_zero single 0)
    rw [ef, this]
    cases sgn single (sub32 P lo)
    · exact .inl rfl
    · exact .inr rfl
  · intro he
    obtain ⟨-, -, k3⟩ := (eq_iffK .f32 _ _).1 he
    have v3 : val single P = val single hi := by
      have b : val single hi ≤ val single P := val_le (by omega)
      omega
    have v4 : val single hi - val single lo ≠ 0 := by
      intro h0
      rw [p2, h0] at rw0
      exact rw0 (rndm_zero single 0)
    have : sub32 P lo = sub32 hi lo := by
      rw [eP, eW, v3, if_neg v4, if_neg v4]
    rw [this]
    exact quo_self _ fw rw0 sw
theorem grid_zero : gridI 0 = some 0 ∧ gridI 2147483648 = some 0 ∧ gridI one32 = some 4 := by decide +kernel

/-! ### Clamp -/
def withinF (v lo hi : Nat) : Bool := isNan .f32 v || isNan .f32 lo || isNan .f32 hi || (le32 lo v && le32 v hi)
theorem within_of {v lo hi : Nat} (h : isNan .f32 v = false → isNan .f32 lo = false → isNan .f32 hi = false → kF .f32 lo ≤ kF .f32 v ∧ kF .f32 v ≤ kF .f32 hi) : withinF v lo hi = true := by
  unfold withinF
  cases h1 : isNan .f32 v with
  | true => rfl
  | false =>
    cases h2 : isNan .f32 lo with
    | true => rfl
    | false =>
      cases h3 : isNan .f32 hi with
      | true => rfl
      | false =>
        obtain ⟨a, b⟩ := h h1 h2 h3
        rw [show le32 lo v = true from (le_iffK .f32 _ _).2 ⟨h2, h1, a⟩, show le32 v hi = true from (le_iffK .f32 _ _).2 ⟨h1, h3, b⟩]
        rfl
theorem lt32_iff (x y : Nat) : lt32 x y = true ↔ isNan .f32 x = false ∧ isNan .f32 y = false ∧ kF .f32 x < kF .f32 y := lt_iffK .f32 x y
theorem gt32_iff (x y : Nat) : gt32 x y = true ↔ isNan .f32 x = false ∧ isNan .f32 y = false ∧ kF .f32 y < kF .f32 x := gt_iffK .f32 x y
theorem eq32_iff (x y : Nat) : eq32 x y = true ↔ isNan .f32 x = false ∧ isNan .f32 y = false ∧ kF .f32 x = kF .f32 y := eq_iffK .f32 x y
theorem le32_iff (x y : Nat) : le32 x y = true ↔ isNan .f32 x = false ∧ isNan .f32 y = false ∧ kF .f32 x ≤ kF .f32 y := le_iffK .f32 x y
theorem ge32_iff (x y : Nat) : ge32 x y = true ↔ isNan .f32 x = false ∧ isNan .f32 y = false ∧ kF .f32 y ≤ kF .f32 x := ge_iffK .f32 x y
theorem clamp_law (P lo hi : Nat) (ho : gt32 lo hi = false) (hn : isNan .f32 lo = isNan .f32 hi) :
    withinF (clampF P lo hi) lo hi = true ∧ (isNan .f32 P = true → isNan .f32 (clampF P lo hi) = true) ∧ (lt32 P lo = true → eq32 (clampF P lo hi) lo = true) ∧ (gt32 P hi = true → eq32 (clampF P lo hi) hi = true) ∧ (isNan .f32 lo = false → (ge32 P lo && le32 P hi) = eq32 (clampF P lo hi) P) := by
  have ho' : isNan .f32 lo = false → isNan .f32 hi = false → kF .f32 lo ≤ kF .f32 hi := by
    intro a b
    have : ¬ gt32 lo hi = true := by rw [ho]; simp
    rw [gt32_iff] at this
    by_cases h : kF .f32 hi < kF .f32 lo
    · exact absurd ⟨a, b, h⟩ this
    · omega
  unfold clampF
  by_cases h1 : lt32 P lo = true
  · rw [if_pos h1]
    obtain ⟨a, b, c⟩ := (lt32_iff _ _).1 h1
    have nh : isNan .f32 hi = false := by rw [← hn]; exact b
    have hk := ho' b nh
    refine ⟨within_of fun _ _ _ => ⟨by omega, hk⟩, fun h => (by rw [a] at h; cases h), fun _ => (eq32_iff _ _).2 ⟨b, b, rfl⟩, fun h => ?_, fun _ => ?_⟩
    · obtain ⟨-, -, d⟩ := (gt32_iff _ _).1 h
      omega
    · have e1 : ¬ ge32 P lo = true := by rw [ge32_iff]; omega
      have e2 : ¬ eq32 lo P = true := by rw [eq32_iff]; omega
      simp only [Bool.not_eq_true] at e1 e2
      rw [e1, e2]
      rfl
  · rw [if_neg h1]
    by_cases h2 : gt32 P hi = true
    · rw [if_pos h2]
      obtain ⟨a, b, c⟩ := (gt32_iff _ _).1 h2
      have nl : isNan .f32 lo = false := by rw [hn]; exact b
      have hk := ho' nl b
      refine ⟨within_of fun _ _ _ => ⟨hk, by omega⟩, fun h => (by rw [a] at h; cases h), fun h => absurd h h1, fun _ => (eq32_iff _ _).2 ⟨b, b, rfl⟩, fun _ => ?_⟩
      have e1 : ¬ le32 P hi = true := by rw [le32_iff]; omega
      have e2 : ¬ eq32 hi P = true := by rw [eq32_iff]; omega
      simp only [Bool.not_eq_true] at e1 e2
      rw [e1, e2, Bool.and_false]
    · rw [if_neg h2]
      refine ⟨within_of fun a b c => ?_, fun h => h, fun h => absurd h h1, fun h => absurd h h2, fun b => ?_⟩
      · rw [lt32_iff] at h1
        rw [gt32_iff] at h2
        constructor
        · by_cases h : kF .f32 P < kF .f32 lo
          · exact absurd ⟨a, b, h⟩ h1
          · omega
        · by_cases h : kF .f32 hi < kF .f32 P
          · exact absurd ⟨a, c, h⟩ h2
          · omega
      · have c : isNan .f32 hi = false := by rw [← hn]; exact b
        cases a : isNan .f32 P with
        | true =>
          have e1 : ¬ ge32 P lo = true := by rw [ge32_iff, a]; simp
          have e2 : ¬ eq32 P P = true := by rw [eq32_iff, a]; simp
          simp only [Bool.not_eq_true] at e1 e2
          rw [e1, e2]
          rfl
        | false =>
          rw [lt32_iff] at h1
          rw [gt32_iff] at h2
          have e1 : ge32 P lo = true := (ge32_iff _ _).2 ⟨a, b, by
            by_cases h : kF .f32 P < kF .f32 lo
            · exact absurd ⟨a, b, h⟩ h1
            · omega⟩
          have e2 : le32 P hi = true := (le32_iff _ _).2 ⟨a, c, by
            by_cases h : kF .f32 hi < kF .f32 P
            · exact absurd ⟨a, c, h⟩ h2
            · omega⟩
          rw [e1, e2, show eq32 P P = true from (eq32_iff _ _).2 ⟨a, a, rfl⟩]
          rfl

/-! ### The box holds its points -/
theorem lev_all (A : List Nat) (h0 : isNan .f64 (A.getD 0 0) = false) : ∀ i j, j ≤ i → isNan .f64 (A.getD j 0) = false → kF .f64 (levOf A i).l ≤ kF .f64 (A.getD j 0) ∧ kF .f64 (A.getD j 0) ≤ kF .f64 (levOf A i).h
  | 0, j, hj, hn => by
    obtain rfl : j = 0 := by omega
    exact ⟨Int.le_refl _, Int.le_refl _⟩
  | i + 1, j, hj, hn => by
    obtain ⟨n1, n2⟩ := lev_nan A i
    constructor
    · show kF .f64 (loF (levOf A i).l (A.getD (i + 1) 0)) ≤ _
      unfold loF
      split
      · rename_i h
        obtain ⟨a, b, c⟩ := (ltK _ _).1 h
        by_cases e : j = i + 1
        · subst e; omega
        · have := (lev_all A h0 i j (by omega) hn).1; omega
      · rename_i h
        by_cases e : j = i + 1
        · subst e
          rw [ltK] at h
          by_cases g : kF .f64 (A.getD (i + 1) 0) < kF .f64 (levOf A i).l
          · exact absurd ⟨hn, n1.trans h0, g⟩ h
          · omega
        · exact (lev_all A h0 i j (by omega) hn).1
    · show _ ≤ kF .f64 (hiF (levOf A i).h (A.getD (i + 1) 0))
      unfold hiF
      split
      · rename_i h
        obtain ⟨a, b, c⟩ := (gtK _ _).1 h
        by_cases e : j = i + 1
        · subst e; omega
        · have := (lev_all A h0 i j (by omega) hn).2; omega
      · rename_i h
        by_cases e : j = i + 1
        · subst e
          rw [gtK] at h
          by_cases g : kF .f64 (levOf A i).h < kF .f64 (A.getD (i + 1) 0)
          · exact absurd ⟨hn, n2.trans h0, g⟩ h
          · omega
        · exact (lev_all A h0 i j (by omega) hn).2
theorem lev_some (A : List Nat) : ∀ i, (∃ j, j ≤ i ∧ (levOf A i).l = A.getD j 0) ∧ ∃ j, j ≤ i ∧ (levOf A i).h = A.getD j 0
  | 0 => ⟨⟨0, by omega, rfl⟩, ⟨0, by omega, rfl⟩⟩
  | i + 1 => by
    obtain ⟨⟨j, hj, e⟩, ⟨k, hk, f⟩⟩ := lev_some A i
    constructor
    · show ∃ j, j ≤ i + 1 ∧ loF (levOf A i).l (A.getD (i + 1) 0) = _
      unfold loF
      split
      · exact ⟨i + 1, by omega, rfl⟩
      · exact ⟨j, by omega, e⟩
    · show ∃ j, j ≤ i + 1 ∧ hiF (levOf A i).h (A.getD (i + 1) 0) = _
      unfold hiF
      split
      · exact ⟨i + 1, by omega, rfl⟩
      · exact ⟨k, by omega, f⟩
theorem axF_ends {A : List Nat} (hA : A ≠ []) : (axF A).lo = conv32 (levOf A (A.length - 1)).l ∧ (axF A).hi = conv32 (levOf A (A.length - 1)).h := by
  unfold axF
  rw [if_neg hA]
  unfold spanF minF maxF
  rw [if_neg hA, if_neg hA]
  exact ⟨rfl, rfl⟩
theorem axF_nan {A : List Nat} (hA : A ≠ []) : isNan .f32 (axF A).lo = isNan .f64 (A.getD 0 0) ∧ isNan .f32 (axF A).hi = isNan .f64 (A.getD 0 0) := by
  obtain ⟨e1, e2⟩ := axF_ends hA
  rw [e1, e2, conv32_nan, conv32_nan]
  exact lev_nan A _
theorem box_law (A : List Nat) (hA : A ≠ []) (j : Nat) (hj : j < A.length) : withinF (conv32 (A.getD j 0)) (axF A).lo (axF A).hi = true := by
  refine within_of fun n1 n2 n3 => ?_
  rw [(axF_nan hA).1] at n2
  rw [conv32_nan] at n1
  obtain ⟨h1, h2⟩ := lev_all A n2 (A.length - 1) j (by omega) n1
  obtain ⟨e1, e2⟩ := axF_ends hA
  obtain ⟨m1, m2⟩ := lev_nan A (A.length - 1)
  rw [e1, e2]
  exact ⟨conv32_mono _ _ (m1.trans n2) n1 h1, conv32_mono _ _ n1 (m2.trans n2) h2⟩
theorem tight_law (A : List Nat) (hA : A ≠ []) (hn : isNan .f32 (axF A).lo = false) : (∃ j, j < A.length ∧ eq32 (conv32 (A.getD j 0)) (axF A).lo = true) ∧ ∃ j, j < A.length ∧ eq32 (conv32 (A.getD j 0)) (axF A).hi = true := by
  have hl : 0 < A.length := List.length_pos_iff.2 hA
  have hn2 : isNan .f32 (axF A).hi = false := by rw [(axF_nan hA).2, ← (axF_nan hA).1]; exact hn
  obtain ⟨e1, e2⟩ := axF_ends hA
  obtain ⟨⟨j, hj, e⟩, ⟨k, hk, f⟩⟩ := lev_some A (A.length - 1)
  rw [e] at e1
  rw [f] at e2
  refine ⟨⟨j, by omega, ?_⟩, ⟨k, by omega, ?_⟩⟩
  · rw [← e1]; exact (eq32_iff _ _).2 ⟨hn, hn, rfl⟩
  · rw [← e2]; exact (eq32_iff _ _).2 ⟨hn2, hn2, rfl⟩
theorem ax_okF (A : List Nat) (hA : A ≠ []) : gt32 (axF A).lo (axF A).hi = false ∧ isNan .f32 (axF A).lo = isNan .f32 (axF A).hi := by
  refine ⟨?_, by rw [(axF_nan hA).1, (axF_nan hA).2]⟩
  cases h : gt32 (axF A).lo (axF A).hi with
  | false => rfl
  | true =>
    exfalso
    obtain ⟨a, b, c⟩ := (gt32_iff _ _).1 h
    have h0 : isNan .f64 (A.getD 0 0) = false := by rw [← (axF_nan hA).1]; exact a
    have := lev_key A h0 (A.length - 1)
    obtain ⟨e1, e2⟩ := axF_ends hA
    obtain ⟨m1, m2⟩ := lev_nan A (A.length - 1)
    have := conv32_mono _ _ (m1.trans h0) (m2.trans h0) (by omega)
    rw [← e1, ← e2] at this
    omega
end Go.Proofs.Qxb6500472a
