import Derived.Test.Qxb6500472aKw1
namespace Go.Proofs.Qxb6500472a
open Ieee (Format Datum double single Toward)
theorem partIn_nan {f : Nat} (h : isNan .f32 f = true) : partIn f = false := by
  unfold partIn
  have : ¬ ge32 f 0 = true := by rw [ge32_iff, h]; simp
  simp only [Bool.not_eq_true] at this
  rw [this]
  rfl
theorem quo_nan (x y : Nat) (h : isNan .f32 y = true) : isNan .f32 (quo32 x y) = true := by
  have hr : ∃ s t, single.read y = .nan s t := by
    have h' : (single.read y).isNaN = true := h
    cases e : single.read y with
    | nan s t => exact ⟨s, t, rfl⟩
    | infinity s => rw [e] at h'; cases h'
    | number s m i => rw [e] at h'; cases h'
  obtain ⟨s, t, e⟩ := hr
  have hq : quo32 x y = (((single.read x).quotient 25 (single.read y)).map single.write).getD (theNan .f32) := rfl
  have : quo32 x y = theNan .f32 := by
    rw [hq, e]
    cases single.read x <;> rfl
  rw [this]
  exact isNan_theNan .f32
/-- An infinity is its own double. -/
theorem infTwice32 (W : Nat) (hr : rung single W = 2139095040) : eq32 (add32 W W) W = true := by
  have e := read_inf single W hr le_inf32
  generalize hs : sgn single W = s at e
  have ea : add32 W W = (((single.read W).sum (single.read W)).map single.write).getD (theNan .f32) := rfl
  rw [ea, e]
  show (single.order _ W == some .eq) = true
  unfold Format.order
  rw [e]
  cases s <;> decide +kernel
/-- A width that is no number above 0, and not its own double, parts nothing. -/
theorem nw_law (lo P hi : Nat) (hge : ge32 P lo = true) (hle : le32 P hi = true) (hw : gt32 (sub32 hi lo) 0 = false) (hinf : eq32 (add32 (sub32 hi lo) (sub32 hi lo)) (sub32 hi lo) = false) :
    partIn (quo32 (sub32 P lo) (sub32 hi lo)) = false := by
  cases nw : isNan .f32 (sub32 hi lo) with
  | true => exact partIn_nan (quo_nan _ _ nw)
  | false =>
    exfalso
    obtain ⟨nP, nlo, k1⟩ := (ge_iffK .f32 _ _).1 hge
    obtain ⟨-, nhi, k2⟩ := (le_iffK .f32 _ _).1 hle
    have fw : fin single (sub32 hi lo) := by
      refine fin_of_nan nw fun hr => ?_
      rw [infTwice32 _ hr] at hinf
      cases hinf
    obtain ⟨fhi, flo⟩ := sub_ends fw
    have v1 : val single lo ≤ val single hi := val_le (by omega)
    have eW := sub_fin hi lo fhi flo
    have lM := rndm_le single 0 (val single hi - val single lo).natAbs
    rw [inf32] at lM
    have kw : ¬ 0 < kF .f32 (sub32 hi lo) := by
      intro hk
      have : gt32 (sub32 hi lo) 0 = true := (gt32_iff _ _).2 ⟨nw, n_zero, by rw [k_zero]; exact hk⟩
      rw [this] at hw
      cases hw
    have kk := (kF_word (if val single hi - val single lo = 0 then sgn single hi && !sgn single lo else decide (val single hi - val single lo < 0)) _ lM).1
    rw [← eW] at kk
    have kz : kF .f32 (sub32 hi lo) = 0 := by
      by_cases h0 : val single hi - val single lo = 0
      · rw [kk, h0]
        rw [show rndm single 0 (0 : Int).natAbs = 0 from rndm_zero single 0]
        simp
      · rw [if_neg h0, decide_eq_false (by omega)] at kk
        simp only [Bool.false_eq_true, if_false] at kk
        omega
    have vz : val single (sub32 hi lo) = 0 := by
      have e0 : kF .f32 0 = 0 := k_zero
      have a1 : val single (sub32 hi lo) ≤ val single 0 := val_le (by omega)
      have a2 : val single 0 ≤ val single (sub32 hi lo) := val_le (by omega)
      have a3 : val single 0 = 0 := by decide +kernel
      omega
    obtain ⟨ka, na⟩ := add_to _ _ (sub32 hi lo) fw fw fw (by omega)
    have : eq32 (add32 (sub32 hi lo) (sub32 hi lo)) (sub32 hi lo) = true := (eq32_iff _ _).2 ⟨na, nw, ka⟩
    rw [this] at hinf
    cases hinf
theorem part_axis (lo P hi : Nat) (h : (ge32 P lo && le32 P hi) = true) : (partF (axOf lo hi) P).2 = wideB (sub32 hi lo) ∧ (wideB (sub32 hi lo) = true → partIn (fracF (axOf lo hi) P) = true) := by
  rw [Bool.and_eq_true] at h
  unfold partF wideB
  have ew : (axOf lo hi).wide = !(eq32 (add32 (sub32 hi lo) (sub32 hi lo)) (sub32 hi lo)) := rfl
  have ef : fracF (axOf lo hi) P = quo32 (sub32 P lo) (sub32 hi lo) := rfl
  rw [ew, ef]
  cases h1 : gt32 (sub32 hi lo) 0 with
  | true =>
    cases h2 : eq32 (add32 (sub32 hi lo) (sub32 hi lo)) (sub32 hi lo) with
    | true => simp
    | false =>
      have := (frac_law lo P hi h.1 h.2 h1 h2).1
      rw [this]
      simp
  | false =>
    cases h2 : eq32 (add32 (sub32 hi lo) (sub32 hi lo)) (sub32 hi lo) with
    | true => simp
    | false =>
      have := nw_law lo P hi h.1 h.2 h1 h2
      rw [this]
      simp
def colF (lo hi P : Nat) : Int := if (gridI (fracF (axOf lo hi) P)).getD 0 = 4 then 3 else (gridI (fracF (axOf lo hi) P)).getD 0
theorem col_law (lo P hi : Nat) (h : (ge32 P lo && le32 P hi) = true) (hw : wideB (sub32 hi lo) = true) :
    (partF (axOf lo hi) P).1 = colF lo hi P ∧ 0 ≤ colF lo hi P ∧ colF lo hi P ≤ 3 ∧ (eq32 P lo = true → colF lo hi P = 0) ∧ (eq32 P hi = true → colF lo hi P = 3) := by
  obtain ⟨-, hp⟩ := part_axis lo P hi h
  have hp := hp hw
  have e : (partF (axOf lo hi) P).1 = colF lo hi P := by
    unfold partF colF
    unfold wideB at hw
    have ew : (axOf lo hi).wide = true := by
      show (!(eq32 (add32 (sub32 hi lo) (sub32 hi lo)) (sub32 hi lo))) = true
      rw [Bool.and_eq_true] at hw
      exact hw.2
    rw [ew, hp]
    simp
  have bd := partF_bd grid_law (axOf lo hi) P
  rw [e] at bd
  refine ⟨e, bd.1, bd.2, ?_, ?_⟩
  · intro he
    rw [Bool.and_eq_true] at h
    unfold wideB at hw
    rw [Bool.and_eq_true, Bool.not_eq_true'] at hw
    have := (frac_law lo P hi h.1 h.2 hw.1 hw.2).2.1 he
    have ef : fracF (axOf lo hi) P = quo32 (sub32 P lo) (sub32 hi lo) := rfl
    unfold colF
    rw [ef]
    rcases this with g | g
    · rw [g, grid_zero.1]; rfl
    · rw [g, grid_zero.2.1]; rfl
  · intro he
    rw [Bool.and_eq_true] at h
    unfold wideB at hw
    rw [Bool.and_eq_true, Bool.not_eq_true'] at hw
    have := (frac_law lo P hi h.1 h.2 hw.1 hw.2).2.2 he
    have ef : fracF (axOf lo hi) P = quo32 (sub32 P lo) (sub32 hi lo) := rfl
    unfold colF
    rw [ef, this, grid_zero.2.2]
    rfl
/-- Cell, outright. -/
theorem cell_law (lx hx ly hy P Q : Nat) : cellF (axOf lx hx) (axOf ly hy) P Q = if ((ge32 P lx && le32 P hx) && (ge32 Q ly && le32 Q hy)) then (if wideB (sub32 hx lx) && wideB (sub32 hy ly) then (colF ly hy Q * 4 + colF lx hx P, 0) else (0, 6)) else (0, 5) := by
  have h1 : holdsF (axOf lx hx) P = (ge32 P lx && le32 P hx) := rfl
  have h2 : holdsF (axOf ly hy) Q = (ge32 Q ly && le32 Q hy) := rfl
  unfold cellF
  rw [h1, h2]
  cases e1 : (ge32 P lx && le32 P hx) with
  | false => simp
  | true =>
    cases e2 : (ge32 Q ly && le32 Q hy) with
    | false => simp
    | true =>
      rw [(part_axis lx P hx e1).1, (part_axis ly Q hy e2).1]
      simp only [if_true, Bool.and_self]
      cases w1 : wideB (sub32 hx lx) with
      | false => simp
      | true =>
        cases w2 : wideB (sub32 hy ly) with
        | false => simp
        | true =>
          rw [(col_law lx P hx e1 w1).1, (col_law ly Q hy e2 w2).1]
/-- Where a point lies on an axis, by the words' own tests. -/
def PosAt (nlo nP nC bl ecl bg ech bcp xin : Bool) : Prop :=
  (nlo = true ∧ nP = true ∧ nC = true ∧ bl = false ∧ bg = false) ∨ (nlo = true ∧ nP = false ∧ bl = false ∧ bg = false) ∨
  (nlo = false ∧ nP = true ∧ nC = true ∧ bl = false ∧ bg = false ∧ bcp = false ∧ xin = false) ∨
  (nlo = false ∧ nP = false ∧ bl = true ∧ ecl = true ∧ bg = false ∧ bcp = false ∧ xin = false) ∨
  (nlo = false ∧ nP = false ∧ bl = false ∧ bg = true ∧ ech = true ∧ bcp = false ∧ xin = false) ∨
  (nlo = false ∧ nP = false ∧ bl = false ∧ bg = false ∧ bcp = true ∧ xin = true)
theorem pos_law (P lo hi : Nat) (ho : gt32 lo hi = false) (hn : isNan .f32 lo = isNan .f32 hi) :
    PosAt (isNan .f32 lo) (isNan .f32 P) (isNan .f32 (clampF P lo hi)) (lt32 P lo) (eq32 (clampF P lo hi) lo) (gt32 P hi) (eq32 (clampF P lo hi) hi) (eq32 (clampF P lo hi) P) (ge32 P lo && le32 P hi) := by
  obtain ⟨-, l2, l3, l4, l5⟩ := clamp_law P lo hi ho hn
  have hlt : isNan .f32 lo = true ∨ isNan .f32 P = true → lt32 P lo = false := by
    intro h
    have : ¬ lt32 P lo = true := by
      rw [lt32_iff]
      rintro ⟨a, b, -⟩
      rcases h with h | h
      · rw [h] at b; cases b
      · rw [h] at a; cases a
    simpa using this
  have hgt : isNan .f32 lo = true ∨ isNan .f32 P = true → gt32 P hi = false := by
    intro h
    have : ¬ gt32 P hi = true := by
      rw [gt32_iff, ← hn]
      rintro ⟨a, b, -⟩
      rcases h with h | h
      · rw [h] at b; cases b
      · rw [h] at a; cases a
    simpa using this
  unfold PosAt
  cases n1 : isNan .f32 lo with
  | true =>
    rw [n1] at hlt hgt
    cases n2 : isNan .f32 P with
    | true => exact .inl ⟨rfl, rfl, l2 n2, hlt (.inl rfl), hgt (.inl rfl)⟩
    | false => exact .inr (.inl ⟨rfl, rfl, hlt (.inl rfl), hgt (.inl rfl)⟩)
  | false =>
    have e5 := l5 n1
    cases n2 : isNan .f32 P with
    | true =>
      have x0 : ¬ ge32 P lo = true := by rw [ge32_iff, n2]; simp
      simp only [Bool.not_eq_true] at x0
      rw [x0, Bool.false_and] at e5
      rw [x0, Bool.false_and]
      exact .inr (.inr (.inl ⟨rfl, rfl, l2 n2, hlt (.inr n2), hgt (.inr n2), e5.symm, rfl⟩))
    | false =>
      have n3 : isNan .f32 hi = false := by rw [← hn]; exact n1
      cases b1 : lt32 P lo with
      | true =>
        obtain ⟨-, -, k⟩ := (lt32_iff _ _).1 b1
        have x0 : ¬ ge32 P lo = true := by rw [ge32_iff]; omega
        have x1 : ¬ gt32 P hi = true := by
          intro hg
          obtain ⟨-, -, k2⟩ := (gt32_iff _ _).1 hg
          have : gt32 lo hi = true := (gt32_iff _ _).2 ⟨n1, n3, by omega⟩
          rw [this] at ho
          cases ho
        simp only [Bool.not_eq_true] at x0 x1
        rw [x0, Bool.false_and] at e5
        rw [x0, Bool.false_and, x1]
        exact .inr (.inr (.inr (.inl ⟨rfl, rfl, rfl, l3 b1, rfl, e5.symm, rfl⟩)))
      | false =>
        cases b2 : gt32 P hi with
        | true =>
          obtain ⟨-, -, k⟩ := (gt32_iff _ _).1 b2
          have x0 : ¬ le32 P hi = true := by rw [le32_iff]; omega
          simp only [Bool.not_eq_true] at x0
          rw [x0, Bool.and_false] at e5
          rw [x0, Bool.and_false]
          exact .inr (.inr (.inr (.inr (.inl ⟨rfl, rfl, rfl, rfl, l4 b2, e5.symm, rfl⟩))))
        | false =>
          have x0 : ge32 P lo = true := (ge32_iff _ _).2 ⟨n2, n1, by
            by_cases h : kF .f32 P < kF .f32 lo
            · have : lt32 P lo = true := (lt32_iff _ _).2 ⟨n2, n1, h⟩
              rw [this] at b1; cases b1
            · omega⟩
          have x1 : le32 P hi = true := (le32_iff _ _).2 ⟨n2, n3, by
            by_cases h : kF .f32 hi < kF .f32 P
            · have : gt32 P hi = true := (gt32_iff _ _).2 ⟨n2, n3, h⟩
              rw [this] at b2; cases b2
            · omega⟩
          rw [x0, x1] at e5
          rw [x0, x1]
          exact .inr (.inr (.inr (.inr (.inr ⟨rfl, rfl, rfl, rfl, e5.symm, rfl⟩))))
end Go.Proofs.Qxb6500472a
