import Derived.Test.Qxb6500470aMt6
namespace Go.Proofs.Qxb6500470a
open Go.RowKit
/-- The number's literal that opens at i ('#'): its width and value; none: it breaks off. -/
def litT (s : List UInt8) (i : Nat) : Option (Nat × Int) := match s[i + 1]? with | none => none | some c0 => numG s i c0
abbrev ResT : Type := Nat × Int × Int × List TV
def oneT (acc : Int) (r : List TV × Int) : ResT := (1, r.2, acc, r.1)
/-- The word that opens at s[i] with the byte c: its width, its error, the accumulator, the stack. -/
def stepT (c : UInt8) (s : List UInt8) (i : Nat) (acc : Int) (st : List TV) : ResT :=
  if c = 97 then oneT acc (wAdd st)
  else if c = 99 then oneT acc (wCons st)
  else if c = 100 then oneT acc (wDup st)
  else if c = 102 then oneT acc (wFind st)
  else if c = 108 then oneT acc (wLen st)
  else if c = 110 then oneT acc (wNeg st)
  else if c = 112 then oneT acc (wPair st)
  else if c = 115 then oneT acc (wFold st)
  else if c = 120 then oneT acc (wDrop st)
  else if c = 83 ∨ c = 68 ∨ c = 77 then (1, (regT c acc st).2.2, (regT c acc st).1, (regT c acc st).2.1)
  else if c = 71 then oneT acc (wPush (.int acc) st)
  else if isDg c then oneT acc (extraT ((c.toNat : Int) - 48) st)
  else if c = 91 then oneT acc (wPush .nil st)
  else if c = 59 then (1, 0, acc, [])
  else if c = 33 then (1, 0, 0, [])
  else if c = 35 then (match litT s i with
    | none => (1, 11, acc, st)
    | some r => (r.1, (wPush (.int r.2) st).2, acc, (wPush (.int r.2) st).1))
  else if c = 39 then (match s[i + 1]? with
    | none => (1, 11, acc, st)
    | some c0 => (2, (wPush (.str [c0]) st).2, acc, (wPush (.str [c0]) st).1))
  else (1, 9, acc, st)
theorem number_w (K : Nat → Prop) (w : World) (m p : Nat) (acc : Int) (st : List TV) (h : MacT K w m p acc st) (s : List UInt8) (i : Nat) (hs : s.length ≤ 24) (hi : i < s.length) :
    Calls Try.prog 63 #[ptr m, S s, I i] w fun e w' => (litT s i = none ∧ e = .returned (.tuple #[I 1, I 11]) ∧ w' = w) ∨ (∃ r, litT s i = some r ∧ e = .returned (.tuple #[I r.1, I (wPush (.int r.2) st).2]) ∧ Tm K w m p acc (wPush (.int r.2) st).1 w') := by
  cases hc : s[i + 1]? with
  | none =>
    have hl := List.getElem?_eq_none_iff.1 hc
    refine (number_A w m s i hs (by omega)).mono ?_
    rintro e w' ⟨rfl, rfl⟩
    exact .inl ⟨by simp [litT, hc], rfl, rfl⟩
  | some c0 =>
    have hlit : litT s i = numG s i c0 := by simp [litT, hc]
    rw [hlit]
    unfold numG
    by_cases h43 : c0.toNat = 43
    · rw [if_pos h43]
      refine (numberT_P K w m p acc st h s i hs c0 hc h43 _ _ rfl).mono ?_
      rintro e w' (⟨hN, rfl, rfl⟩ | ⟨hN, rfl, tm⟩)
      · exact .inl ⟨by rw [if_pos hN], rfl, rfl⟩
      · exact .inr ⟨(2 + (digs (s.drop (i + 1 + 1)) 0 0).1, (digs (s.drop (i + 1 + 1)) 0 0).2), by rw [if_neg (by omega)], by simp, tm⟩
    · rw [if_neg h43]
      by_cases h45 : c0.toNat = 45
      · rw [if_pos h45]
        refine (numberT_M K w m p acc st h s i hs c0 hc h45 _ _ rfl).mono ?_
        rintro e w' (⟨hN, rfl, rfl⟩ | ⟨hN, rfl, tm⟩)
        · exact .inl ⟨by rw [if_pos hN], rfl, rfl⟩
        · exact .inr ⟨(2 + (digs (s.drop (i + 1 + 1)) 0 0).1, wrap64 (-(digs (s.drop (i + 1 + 1)) 0 0).2)), by rw [if_neg (by omega)], by simp, tm⟩
      · rw [if_neg h45]
        refine (numberT_D K w m p acc st h s i hs c0 hc (by simp; omega) (by simp; omega) _ _ rfl).mono ?_
        rintro e w' (⟨hN, rfl, rfl⟩ | ⟨hN, rfl, tm⟩)
        · exact .inl ⟨by rw [if_pos hN], rfl, rfl⟩
        · exact .inr ⟨(1 + (digs (s.drop (i + 1)) 0 0).1, (digs (s.drop (i + 1)) 0 0).2), by rw [if_neg (by omega)], by simp, tm⟩
theorem step_w (K : Nat → Prop) (w : World) (m p : Nat) (acc : Int) (st : List TV) (h : MacT K w m p acc st) (s : List UInt8) (i : Nat) (hs : s.length ≤ 24) (c : UInt8) (hc : s[i]? = some c) :
    Calls Try.prog 45 #[ptr m, S s, I i] w fun e w' => e = .returned (.tuple #[I (stepT c s i acc st).1, I (stepT c s i acc st).2.1]) ∧ Tm K w m p (stepT c s i acc st).2.2.1 (stepT c s i acc st).2.2.2 w' := by
  have hi : i < s.length := (List.getElem?_eq_some_iff.1 hc).1
  by_cases h97 : c = 97
  · subst h97
    exact stepT_97 K w m p acc st h s i hs hc
  by_cases h99 : c = 99
  · subst h99
    exact stepT_99 K w m p acc st h s i hs hc
  by_cases h100 : c = 100
  · subst h100
    exact stepT_100 K w m p acc st h s i hs hc
  by_cases h102 : c = 102
  · subst h102
    exact stepT_102 K w m p acc st h s i hs hc
  by_cases h108 : c = 108
  · subst h108
    exact stepT_108 K w m p acc st h s i hs hc
  by_cases h110 : c = 110
  · subst h110
    exact stepT_110 K w m p acc st h s i hs hc
  by_cases h112 : c = 112
  · subst h112
    exact stepT_112 K w m p acc st h s i hs hc
  by_cases h115 : c = 115
  · subst h115
    exact stepT_115 K w m p acc st h s i hs hc
  by_cases h120 : c = 120
  · subst h120
    exact stepT_120 K w m p acc st h s i hs hc
  by_cases h71 : c = 71
  · subst h71
    exact stepT_71 K w m p acc st h s i hs hc
  by_cases h91 : c = 91
  · subst h91
    exact stepT_91 K w m p acc st h s i hs hc
  by_cases h59 : c = 59
  · subst h59
    exact stepT_59 K w m p acc st h s i hs hc
  by_cases h33 : c = 33
  · subst h33
    exact stepT_33 K w m p acc st h s i hs hc
  by_cases h83 : c = 83
  · subst h83
    exact stepT_83 K w m p acc st h s i hs hc
  by_cases h68 : c = 68
  · subst h68
    exact stepT_68 K w m p acc st h s i hs hc
  by_cases h77 : c = 77
  · subst h77
    exact stepT_77 K w m p acc st h s i hs hc
  by_cases h48 : c = 48
  · subst h48
    exact stepT_48 K w m p acc st h s i hs hc
  by_cases h49 : c = 49
  · subst h49
    exact stepT_49 K w m p acc st h s i hs hc
  by_cases h50 : c = 50
  · subst h50
    exact stepT_50 K w m p acc st h s i hs hc
  by_cases h51 : c = 51
  · subst h51
    exact stepT_51 K w m p acc st h s i hs hc
  by_cases h52 : c = 52
  · subst h52
    exact stepT_52 K w m p acc st h s i hs hc
  by_cases h53 : c = 53
  · subst h53
    exact stepT_53 K w m p acc st h s i hs hc
  by_cases h54 : c = 54
  · subst h54
    exact stepT_54 K w m p acc st h s i hs hc
  by_cases h55 : c = 55
  · subst h55
    exact stepT_55 K w m p acc st h s i hs hc
  by_cases h56 : c = 56
  · subst h56
    exact stepT_56 K w m p acc st h s i hs hc
  by_cases h57 : c = 57
  · subst h57
    exact stepT_57 K w m p acc st h s i hs hc
  by_cases h35 : c = 35
  · subst h35
    have e : stepT 35 s i acc st = (match litT s i with
      | none => (1, 11, acc, st)
      | some r => (r.1, (wPush (.int r.2) st).2, acc, (wPush (.int r.2) st).1)) := rfl
    rw [e]
    cases hl : litT s i with
    | none =>
      refine step_num w m s i hs hc 1 11 _ ?_
      refine (number_w K w m p acc st h s i hs hi).mono ?_
      rintro e w' (⟨-, rfl, rfl⟩ | ⟨r, hr, -⟩)
      · exact ⟨rfl, .refl h⟩
      · rw [hl] at hr; cases hr
    | some r =>
      refine step_num w m s i hs hc _ _ _ ?_
      refine (number_w K w m p acc st h s i hs hi).mono ?_
      rintro e w' (⟨hr, -⟩ | ⟨r', hr, rfl, tm⟩)
      · rw [hl] at hr; cases hr
      · rw [hl] at hr
        cases hr
        exact ⟨rfl, tm⟩
  by_cases h39 : c = 39
  · subst h39
    have e : stepT 39 s i acc st = (match s[i + 1]? with
      | none => (1, 11, acc, st)
      | some c0 => (2, (wPush (.str [c0]) st).2, acc, (wPush (.str [c0]) st).1)) := rfl
    rw [e]
    cases hl : s[i + 1]? with
    | none =>
      refine step_let w m s i hs hc 1 11 _ ?_
      have := List.getElem?_eq_none_iff.1 hl
      refine (letter_end w m s i hs (by omega)).mono ?_
      rintro e w' ⟨rfl, rfl⟩
      exact ⟨rfl, .refl h⟩
    | some c0 =>
      refine step_let w m s i hs hc _ _ _ ?_
      exact letterT K w m p acc st h s i hs c0 hl
  have ne : c.toNat ≠ 97 ∧ c.toNat ≠ 99 ∧ c.toNat ≠ 100 ∧ c.toNat ≠ 102 ∧ c.toNat ≠ 108 ∧ c.toNat ≠ 110 ∧ c.toNat ≠ 112 ∧ c.toNat ≠ 115 ∧ c.toNat ≠ 120 ∧ c.toNat ≠ 71 ∧ c.toNat ≠ 91 ∧ c.toNat ≠ 59 ∧ c.toNat ≠ 33 ∧ c.toNat ≠ 83 ∧ c.toNat ≠ 68 ∧ c.toNat ≠ 77 ∧ c.toNat ≠ 48 ∧ c.toNat ≠ 49 ∧ c.toNat ≠ 50 ∧ c.toNat ≠ 51 ∧ c.toNat ≠ 52 ∧ c.toNat ≠ 53 ∧ c.toNat ≠ 54 ∧ c.toNat ≠ 55 ∧ c.toNat ≠ 56 ∧ c.toNat ≠ 57 ∧ c.toNat ≠ 35 ∧ c.toNat ≠ 39 := by
    refine ⟨fun e => h97 (UInt8.toNat_inj.1 e), fun e => h99 (UInt8.toNat_inj.1 e), fun e => h100 (UInt8.toNat_inj.1 e), fun e => h102 (UInt8.toNat_inj.1 e), fun e => h108 (UInt8.toNat_inj.1 e), fun e => h110 (UInt8.toNat_inj.1 e), fun e => h112 (UInt8.toNat_inj.1 e), fun e => h115 (UInt8.toNat_inj.1 e), fun e => h120 (UInt8.toNat_inj.1 e), fun e => h71 (UInt8.toNat_inj.1 e), fun e => h91 (UInt8.toNat_inj.1 e), fun e => h59 (UInt8.toNat_inj.1 e), fun e => h33 (UInt8.toNat_inj.1 e), fun e => h83 (UInt8.toNat_inj.1 e), fun e => h68 (UInt8.toNat_inj.1 e), fun e => h77 (UInt8.toNat_inj.1 e), fun e => h48 (UInt8.toNat_inj.1 e), fun e => h49 (UInt8.toNat_inj.1 e), fun e => h50 (UInt8.toNat_inj.1 e), fun e => h51 (UInt8.toNat_inj.1 e), fun e => h52 (UInt8.toNat_inj.1 e), fun e => h53 (UInt8.toNat_inj.1 e), fun e => h54 (UInt8.toNat_inj.1 e), fun e => h55 (UInt8.toNat_inj.1 e), fun e => h56 (UInt8.toNat_inj.1 e), fun e => h57 (UInt8.toNat_inj.1 e), fun e => h35 (UInt8.toNat_inj.1 e), fun e => h39 (UInt8.toNat_inj.1 e)⟩
  have hdg : isDg c = false := by
    unfold isDg
    simp only [Bool.and_eq_false_iff, decide_eq_false_iff_not]
    omega
  have hout : stepT c s i acc st = (1, 9, acc, st) := by
    simp [stepT, hdg, h97, h99, h100, h102, h108, h110, h112, h115, h120, h71, h91, h59, h33, h83, h68, h77, h35, h39]
  rw [hout]
  by_cases h98 : c = 98
  · subst h98
    exact stepT_98 K w m p acc st h s i hs hc
  by_cases h101 : c = 101
  · subst h101
    exact stepT_101 K w m p acc st h s i hs hc
  by_cases h103 : c = 103
  · subst h103
    exact stepT_103 K w m p acc st h s i hs hc
  by_cases h104 : c = 104
  · subst h104
    exact stepT_104 K w m p acc st h s i hs hc
  by_cases h105 : c = 105
  · subst h105
    exact stepT_105 K w m p acc st h s i hs hc
  by_cases h106 : c = 106
  · subst h106
    exact stepT_106 K w m p acc st h s i hs hc
  by_cases h107 : c = 107
  · subst h107
    exact stepT_107 K w m p acc st h s i hs hc
  by_cases h109 : c = 109
  · subst h109
    exact stepT_109 K w m p acc st h s i hs hc
  by_cases h111 : c = 111
  · subst h111
    exact stepT_111 K w m p acc st h s i hs hc
  by_cases h113 : c = 113
  · subst h113
    exact stepT_113 K w m p acc st h s i hs hc
  by_cases h114 : c = 114
  · subst h114
    exact stepT_114 K w m p acc st h s i hs hc
  by_cases h116 : c = 116
  · subst h116
    exact stepT_116 K w m p acc st h s i hs hc
  by_cases h117 : c = 117
  · subst h117
    exact stepT_117 K w m p acc st h s i hs hc
  by_cases h118 : c = 118
  · subst h118
    exact stepT_118 K w m p acc st h s i hs hc
  by_cases h119 : c = 119
  · subst h119
    exact stepT_119 K w m p acc st h s i hs hc
  by_cases h121 : c = 121
  · subst h121
    exact stepT_121 K w m p acc st h s i hs hc
  by_cases h122 : c = 122
  · subst h122
    exact stepT_122 K w m p acc st h s i hs hc
  have nl : c.toNat ≠ 98 ∧ c.toNat ≠ 101 ∧ c.toNat ≠ 103 ∧ c.toNat ≠ 104 ∧ c.toNat ≠ 105 ∧ c.toNat ≠ 106 ∧ c.toNat ≠ 107 ∧ c.toNat ≠ 109 ∧ c.toNat ≠ 111 ∧ c.toNat ≠ 113 ∧ c.toNat ≠ 114 ∧ c.toNat ≠ 116 ∧ c.toNat ≠ 117 ∧ c.toNat ≠ 118 ∧ c.toNat ≠ 119 ∧ c.toNat ≠ 121 ∧ c.toNat ≠ 122 := by
    refine ⟨fun e => h98 (UInt8.toNat_inj.1 e), fun e => h101 (UInt8.toNat_inj.1 e), fun e => h103 (UInt8.toNat_inj.1 e), fun e => h104 (UInt8.toNat_inj.1 e), fun e => h105 (UInt8.toNat_inj.1 e), fun e => h106 (UInt8.toNat_inj.1 e), fun e => h107 (UInt8.toNat_inj.1 e), fun e => h109 (UInt8.toNat_inj.1 e), fun e => h111 (UInt8.toNat_inj.1 e), fun e => h113 (UInt8.toNat_inj.1 e), fun e => h114 (UInt8.toNat_inj.1 e), fun e => h116 (UInt8.toNat_inj.1 e), fun e => h117 (UInt8.toNat_inj.1 e), fun e => h118 (UInt8.toNat_inj.1 e), fun e => h119 (UInt8.toNat_inj.1 e), fun e => h121 (UInt8.toNat_inj.1 e), fun e => h122 (UInt8.toNat_inj.1 e)⟩
  have hx : c.toNat < 48 ∨ (57 < c.toNat ∧ c.toNat < 65) ∨ (65 ≤ c.toNat ∧ c.toNat ≤ 90) ∨ (90 < c.toNat ∧ c.toNat < 97) ∨ 122 < c.toNat := by omega
  rcases hx with hx | ⟨h1, h2⟩ | ⟨h1, h2⟩ | ⟨h1, h2⟩ | hx
  · exact stepT_oA K w m p acc st h s i hs c hc hx (by omega)
  · exact stepT_oB K w m p acc st h s i hs c hc h1 h2 (by omega)
  · exact stepT_up K w m p acc st h s i hs c hc h1 h2 (by omega) (by omega) (by omega) (by omega)
  · exact stepT_oC K w m p acc st h s i hs c hc h1 h2 (by omega)
  · exact stepT_oD K w m p acc st h s i hs c hc hx
end Go.Proofs.Qxb6500470a
