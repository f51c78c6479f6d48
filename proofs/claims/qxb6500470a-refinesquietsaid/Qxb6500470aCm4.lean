import Derived.Test.Qxb6500470aCm3
import Derived.Test.Qxb6500470aVmp
namespace Go.Proofs.Qxb6500470a
open Go.RowKit
set_option maxRecDepth 100000 in
set_option maxHeartbeats 4000000 in
theorem stepM_115 (K : Nat → Prop) (w : World) (m p : Nat) (acc : Int) (st : List TV) (h : MacM K w m p acc st) (s : List UInt8) (i : Nat) (hs : s.length ≤ 24) (hc0 : s[i]? = some 115) :
    Calls Try.prog 91 #[ptr m, S s, I i] w (StP K w m (oneT acc (wFold st))) := by
  have hz := str_size s
  have hz2 : (str s).size ≤ 24 := by omega
  have hj : i < s.length := (List.getElem?_eq_some_iff.1 hc0).1
  have hj2 : (i : Int) < (s.length : Int) := by omega
  have g0 := str_get s i _ hc0
  obtain ⟨d0, d1, f0, f1, lm⟩ := h.at0
  have hw := mFold_w _ w p st h.st h.ok
  have hfn := wFold_fine st h.ok
  generalize wFold st = R at *
  go_enter Try.func91, Try.ntmps91
  go_wp2_with fail
  refine hw.mono ?_
  rintro e w2 ⟨rfl, tn⟩
  have m2 := h.word tn hfn
  go_wp2
  go_ret2
  exact ⟨1, rfl, fun _ => rfl, m2⟩
theorem stepM_w (K : Nat → Prop) (w : World) (m p : Nat) (acc : Int) (st : List TV) (h : MacM K w m p acc st) (s : List UInt8) (i : Nat) (hs : s.length ≤ 24) (c : UInt8) (hc : s[i]? = some c) :
    Calls Try.prog 91 #[ptr m, S s, I i] w (StP K w m (wT c s i acc st)) := by
  by_cases h97 : c = 97
  · subst h97; exact stepM_97 K w m p acc st h s i hs hc
  by_cases h99 : c = 99
  · subst h99; exact stepM_99 K w m p acc st h s i hs hc
  by_cases h100 : c = 100
  · subst h100; exact stepM_100 K w m p acc st h s i hs hc
  by_cases h102 : c = 102
  · subst h102; exact stepM_102 K w m p acc st h s i hs hc
  by_cases h108 : c = 108
  · subst h108; exact stepM_108 K w m p acc st h s i hs hc
  by_cases h110 : c = 110
  · subst h110; exact stepM_110 K w m p acc st h s i hs hc
  by_cases h112 : c = 112
  · subst h112; exact stepM_112 K w m p acc st h s i hs hc
  by_cases h115 : c = 115
  · subst h115; exact stepM_115 K w m p acc st h s i hs hc
  by_cases h120 : c = 120
  · subst h120; exact stepM_120 K w m p acc st h s i hs hc
  by_cases h83 : c = 83
  · subst h83; exact stepM_83 K w m p acc st h s i hs hc
  by_cases h68 : c = 68
  · subst h68; exact stepM_68 K w m p acc st h s i hs hc
  by_cases h77 : c = 77
  · subst h77; exact stepM_77 K w m p acc st h s i hs hc
  by_cases h71 : c = 71
  · subst h71; exact stepM_71 K w m p acc st h s i hs hc
  by_cases h91 : c = 91
  · subst h91; exact stepM_91 K w m p acc st h s i hs hc
  by_cases h59 : c = 59
  · subst h59; exact stepM_59 K w m p acc st h s i hs hc
  by_cases h33 : c = 33
  · subst h33; exact stepM_33 K w m p acc st h s i hs hc
  by_cases h32 : c = 32
  · subst h32; exact stepM_32 K w m p acc st h s i hs hc
  by_cases h35 : c = 35
  · subst h35; exact stepM_35 K w m p acc st h s i hs hc
  by_cases h48 : c = 48
  · subst h48; exact stepM_48 K w m p acc st h s i hs hc
  by_cases h49 : c = 49
  · subst h49; exact stepM_49 K w m p acc st h s i hs hc
  by_cases h50 : c = 50
  · subst h50; exact stepM_50 K w m p acc st h s i hs hc
  by_cases h51 : c = 51
  · subst h51; exact stepM_51 K w m p acc st h s i hs hc
  by_cases h52 : c = 52
  · subst h52; exact stepM_52 K w m p acc st h s i hs hc
  by_cases h53 : c = 53
  · subst h53; exact stepM_53 K w m p acc st h s i hs hc
  by_cases h54 : c = 54
  · subst h54; exact stepM_54 K w m p acc st h s i hs hc
  by_cases h55 : c = 55
  · subst h55; exact stepM_55 K w m p acc st h s i hs hc
  by_cases h56 : c = 56
  · subst h56; exact stepM_56 K w m p acc st h s i hs hc
  by_cases h57 : c = 57
  · subst h57; exact stepM_57 K w m p acc st h s i hs hc
  by_cases h39 : c = 39
  · subst h39
    have e : wT 39 s i acc st = (match s[i + 1]? with
      | none => (1, 11, acc, st)
      | some c0 => (2, (wPush (.str [c0]) st).2, acc, (wPush (.str [c0]) st).1)) := rfl
    rw [e]
    have hi : i < s.length := (List.getElem?_eq_some_iff.1 hc).1
    cases hl : s[i + 1]? with
    | none =>
      have := List.getElem?_eq_none_iff.1 hl
      exact stepM_39n K w m p acc st h s i hs hc (by omega)
    | some c0 => exact stepM_39s K w m p acc st h s i hs hc c0 hl
  have hd : isDg c = false := by
    cases hd : isDg c with
    | false => rfl
    | true =>
      obtain ⟨d1, d2⟩ : 48 ≤ c.toNat ∧ c.toNat ≤ 57 := by simpa [isDg] using hd
      have e48 : c.toNat ≠ 48 := fun e => h48 (UInt8.toNat_inj.1 e)
      have e49 : c.toNat ≠ 49 := fun e => h49 (UInt8.toNat_inj.1 e)
      have e50 : c.toNat ≠ 50 := fun e => h50 (UInt8.toNat_inj.1 e)
      have e51 : c.toNat ≠ 51 := fun e => h51 (UInt8.toNat_inj.1 e)
      have e52 : c.toNat ≠ 52 := fun e => h52 (UInt8.toNat_inj.1 e)
      have e53 : c.toNat ≠ 53 := fun e => h53 (UInt8.toNat_inj.1 e)
      have e54 : c.toNat ≠ 54 := fun e => h54 (UInt8.toNat_inj.1 e)
      have e55 : c.toNat ≠ 55 := fun e => h55 (UInt8.toNat_inj.1 e)
      have e56 : c.toNat ≠ 56 := fun e => h56 (UInt8.toNat_inj.1 e)
      have e57 : c.toNat ≠ 57 := fun e => h57 (UInt8.toNat_inj.1 e)
      omega
  have e : wT c s i acc st = (1, 9, acc, st) := by simp [wT, stepT, h32, h35, h39, h91, h97, h99, h100, h102, h108, h110, h112, h115, h120, h83, h68, h77, h71, h33, h59, hd]
  rw [e]
  have : ¬ (48 ≤ c.toNat ∧ c.toNat ≤ 57) := by simpa [isDg] using hd
  by_cases h48 : c.toNat < 48
  · exact stepM_oA K w m p acc st h s i hs c hc h48 h32 h35 h39 h91 h97 h99 h100 h102 h108 h110 h112 h115 h120 h83 h68 h77 h71 h33 h59
  · exact stepM_oB K w m p acc st h s i hs c hc (by omega) h32 h35 h39 h91 h97 h99 h100 h102 h108 h110 h112 h115 h120 h83 h68 h77 h71 h33 h59
theorem runT_wT (n : Nat) (s : List UInt8) (i : Nat) (c : UInt8) (hc : s[i]? = some c) (acc : Int) (st : List TV) :
    runT (n + 1) s i acc st = if (wT c s i acc st).2.1 = 0 then runT n s (i + (wT c s i acc st).1) (wT c s i acc st).2.2.1 (wT c s i acc st).2.2.2 else (i, (wT c s i acc st).2.1, (wT c s i acc st).2.2.1, (wT c s i acc st).2.2.2) := by
  show (match s[i]? with
    | none => (s.length, (0 : Int), acc, st)
    | some c' => if c' = 32 then runT n s (i + 1) acc st else
      if (stepT c' s i acc st).2.1 = 0 then runT n s (i + (stepT c' s i acc st).1) (stepT c' s i acc st).2.2.1 (stepT c' s i acc st).2.2.2 else (i, (stepT c' s i acc st).2.1, (stepT c' s i acc st).2.2.1, (stepT c' s i acc st).2.2.2)) = _
  rw [hc]
  unfold wT
  dsimp only
  by_cases h32 : c = 32
  · rw [if_pos h32, if_pos h32, if_pos rfl]
  · rw [if_neg h32, if_neg h32]
theorem wT_wd (c : UInt8) (s : List UInt8) (i : Nat) (acc : Int) (st : List TV) (hi : i < s.length) : 1 ≤ (wT c s i acc st).1 ∧ i + (wT c s i acc st).1 ≤ s.length := by
  unfold wT
  split
  · exact ⟨Nat.le_refl _, hi⟩
  · exact stepT_wd c s i acc st hi
set_option maxRecDepth 100000 in
set_option maxHeartbeats 4000000 in
theorem runM_w (K : Nat → Prop) (w : World) (m p : Nat) (acc : Int) (st : List TV) (h : MacM K w m p acc st) (s : List UInt8) (R : ResT) (hF : runAllT s acc st = R) (hs63 : s.length < 9223372036854775808) :
    Calls Try.prog 71 #[ptr m, S s] w fun r w' => r = .returned (.tuple #[I R.1, I R.2.1]) ∧ TmM K w m R.2.2.1 R.2.2.2 w' := by
  have hz := str_size s
  unfold runAllT at hF
  by_cases h24 : 24 < s.length
  · rw [if_pos h24] at hF
    subst hF
    have q1 : (24 : Int) < (s.length : Int) := by omega
    go_enter Try.func71, Try.ntmps71
    go_wp2
    go_ret2
    exact ⟨rfl, .refl h⟩
  · rw [if_neg h24] at hF
    have hs : s.length ≤ 24 := by omega
    have q1 : ¬ (24 : Int) < (s.length : Int) := by omega
    have q1d : decide ((24 : Int) < (s.length : Int)) = false := decide_eq_false q1
    have hz2 : (str s).size ≤ 24 := by omega
    have HF : Hid (runT 30 s 0 acc st = R) := hF
    clear hF h24
    go_enter Try.func71, Try.ntmps71
    go_wp2
    go_loopw [6, 7, 8] (fun x _ _ wr => ∃ (n i : Nat) (acc1 : Int) (l1 : List TV), x = I (i : Int) ∧ i ≤ s.length ∧ s.length < i + n ∧ Hid (runT n s i acc1 l1 = R) ∧ TmM K w m acc1 l1 wr) (fun x _ _ _ => (s.length - intOf x).toNat)
    case atStart => exact ⟨30, 0, acc, st, rfl, by omega, by omega, HF.out, .refl h⟩
    case round =>
      obtain ⟨n, i, acc1, l1, rfl, hi60, hfu, HR, K1, p1, mm, nn, mr, kr⟩ := hrel
      clear HF
      by_cases hil : i = s.length
      · have hR' : (s.length, 0, acc1, l1) = R := by
          have := HR.out
          subst hil
          cases n with
          | zero => exact this
          | succ n =>
            rw [runT, List.getElem?_eq_none (by omega)] at this
            exact this
        have HRR : Hid ((s.length, 0, acc1, l1) = R) := hR'
        have q2 : ¬ (i : Int) < (s.length : Int) := by omega
        have HI : Hid (i = s.length) := hil
        clear HR hR' hil
        go_wp2
        go_ret2
        rw [← HRR.out, HI.out]
        exact ⟨rfl, K1, p1, mm, nn, mr, kr⟩
      · have hlt : i < s.length := by omega
        have q2 : (i : Int) < (s.length : Int) := by omega
        obtain ⟨c, hc⟩ : ∃ c, s[i]? = some c := ⟨s[i], List.getElem?_eq_getElem hlt⟩
        cases n with
        | zero => omega
        | succ n =>
          have hR := HR.out
          rw [runT_wT n s i c hc] at hR
          obtain ⟨w1d, w2d⟩ := wT_wd c s i acc1 l1 hlt
          have hstep := stepM_w K1 wr m p1 acc1 l1 mr s i hs c hc
          unfold StP at hstep
          generalize wT c s i acc1 l1 = X at *
          obtain ⟨r1, r2, r3, r4⟩ := X
          dsimp only at hR w1d w2d hstep
          clear HR
          by_cases hr2 : r2 = 0
          · subst hr2
            rw [if_pos rfl] at hR
            have HRR : Hid (runT n s (i + r1) r3 r4 = R) := hR
            clear hR
            have w9 := wr64 ((i : Int) + (r1 : Int)) (by omega) (by omega)
            have hstep2 : Calls Try.prog 91 #[ptr m, S s, I i] wr fun e w' => e = .returned (.tuple #[I (r1 : Int), I 0]) ∧ TmM K1 wr m r3 r4 w' := hstep.mono (fun e w' ⟨W, h1, h2, h3⟩ => ⟨by rw [h1, h2 rfl], h3⟩)
            clear hstep
            go_wp2_with fail
            refine hstep2.mono ?_
            rintro r w2 ⟨rfl, t2⟩
            have t3 := TmM.trans mm nn kr t2
            go_wp2
            go_roundw
            case rel => exact ⟨n, i + r1, r3, r4, by go_num, by omega, by omega, HRR.out, t3⟩
            case measure => simp [intOf]; omega
          · rw [if_neg hr2] at hR
            have HRR : Hid ((i, r2, r3, r4) = R) := hR
            have q3 : (r2 != 0) = true := by simpa using hr2
            have q4 : (r2 == 0) = false := by simpa using hr2
            clear hR hr2
            go_wp2_with fail
            refine hstep.mono ?_
            rintro r w2 ⟨W, rfl, -, t2⟩
            have t3 := TmM.trans mm nn kr t2
            go_wp2
            go_ret2
            rw [← HRR.out]
            exact ⟨rfl, t3⟩
set_option maxRecDepth 100000 in
set_option maxHeartbeats 1000000 in
theorem cmShow_w (K : Nat → Prop) (w : World) (m p : Nat) (acc : Int) (st : List TV) (h : MacM K w m p acc st) :
    Calls Try.prog 69 #[ptr m] w fun e w' => e = .returned (S (macTx acc st)) ∧ Below w.heap.size w w' := by
  obtain ⟨c0, c1, f0, f1, lm⟩ := h.at0
  have hpl := stText_len st h.ok h.st.len
  rw [← str_size] at hpl
  have hl := itoa_len acc h.a1 h.a2
  rw [← str_size] at hl
  go_enter Try.func69, Try.ntmps69
  go_wp2_with fail
  refine (itoa_any acc h.a1 h.a2 w).mono ?_
  rintro e w1 ⟨rfl, b1⟩
  have d0 := (b1.cell (p := ⟨m, 0, none⟩) lm).trans c0
  clear c0 c1 f1
  go_wp2_with fail
  refine (mShow_w _ w1 p st (h.st.later b1) h.ok).mono ?_
  rintro e w2 ⟨rfl, b2⟩
  go_wp2
  go_ret
  refine ⟨?_, b1.trans (b2.mono b1.size)⟩
  show Ending.returned (.string (str [97, 99, 99, 61] ++ str (itoa acc) ++ str [32, 124, 32] ++ str (stText st))) = _
  rw [str_append, str_append, str_append]
  rfl
set_option maxRecDepth 100000 in
set_option maxHeartbeats 1000000 in
theorem cmCheck_w (K : Nat → Prop) (w : World) (m p : Nat) (acc : Int) (st : List TV) (h : MacM K w m p acc st) :
    Calls Try.prog 70 #[ptr m] w fun e w' => e = .returned (.bool true) ∧ Below w.heap.size w w' := by
  obtain ⟨c0, c1, f0, f1, lm⟩ := h.at0
  go_enter Try.func70, Try.ntmps70
  go_wp2_with fail
  refine (mCheck_w _ w p st h.st h.ok).mono ?_
  rintro e w2 ⟨rfl, b2⟩
  go_wp2
  go_ret
  exact ⟨rfl, b2⟩
end Go.Proofs.Qxb6500470a
