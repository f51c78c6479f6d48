import Derived.Test.Qxb6500470aMt7
import Derived.Test.Qxb6500470aCal14
namespace Go.Proofs.Qxb6500470a
open Go.RowKit
theorem digs_le : ∀ (r : List UInt8) (v : Int) (n : Nat), (digs r v n).1 ≤ n + r.length
  | [], v, n => by simp [digs]
  | c :: r, v, n => by
    unfold digs
    split
    · have := digs_le r (wrap64 (wrap64 (v * 10) + ((c.toNat : Int) - 48))) (n + 1)
      simp
      omega
    · simp
theorem lit_w (s : List UInt8) (i : Nat) (r : Nat × Int) (h : litT s i = some r) : 1 ≤ r.1 ∧ i + r.1 ≤ s.length := by
  unfold litT at h
  cases hc : s[i + 1]? with
  | none => rw [hc] at h; cases h
  | some c0 =>
    rw [hc] at h
    dsimp only at h
    have hj : i + 1 < s.length := (List.getElem?_eq_some_iff.1 hc).1
    have d1 := digs_le (s.drop (i + 1)) 0 0
    have d2 := digs_le (s.drop (i + 1 + 1)) 0 0
    rw [List.length_drop] at d1 d2
    unfold numG at h
    split at h
    · split at h
      · cases h
      · cases h; dsimp only; omega
    · split at h
      · split at h
        · cases h
        · cases h; dsimp only; omega
      · split at h
        · cases h
        · cases h; dsimp only; omega
theorem stepT_wd (c : UInt8) (s : List UInt8) (i : Nat) (acc : Int) (st : List TV) (hi : i < s.length) : 1 ≤ (stepT c s i acc st).1 ∧ i + (stepT c s i acc st).1 ≤ s.length := by
  by_cases h35 : c = 35
  · subst h35
    have e : stepT 35 s i acc st = (match litT s i with
      | none => (1, 11, acc, st)
      | some r => (r.1, (wPush (.int r.2) st).2, acc, (wPush (.int r.2) st).1)) := rfl
    rw [e]
    cases hl : litT s i with
    | none => exact ⟨Nat.le_refl _, hi⟩
    | some r => exact lit_w s i r hl
  by_cases h39 : c = 39
  · subst h39
    have e : stepT 39 s i acc st = (match s[i + 1]? with
      | none => (1, 11, acc, st)
      | some c0 => (2, (wPush (.str [c0]) st).2, acc, (wPush (.str [c0]) st).1)) := rfl
    rw [e]
    cases hl : s[i + 1]? with
    | none => exact ⟨Nat.le_refl _, hi⟩
    | some c0 =>
      have hj : i + 1 < s.length := (List.getElem?_eq_some_iff.1 hl).1
      exact ⟨by show 1 ≤ 2; omega, by show i + 2 ≤ s.length; omega⟩
  have e : (stepT c s i acc st).1 = 1 := by
    unfold stepT
    simp [h35, h39, apply_ite Prod.fst, oneT]
  rw [e]
  exact ⟨Nat.le_refl _, hi⟩
/-- The run from byte i on: where it stands, its error, the accumulator, the stack. -/
def runT : Nat → List UInt8 → Nat → Int → List TV → ResT
  | 0, s, _, acc, st => (s.length, 0, acc, st)
  | n + 1, s, i, acc, st => match s[i]? with
    | none => (s.length, 0, acc, st)
    | some c => if c = 32 then runT n s (i + 1) acc st else
      if (stepT c s i acc st).2.1 = 0 then runT n s (i + (stepT c s i acc st).1) (stepT c s i acc st).2.2.1 (stepT c s i acc st).2.2.2 else (i, (stepT c s i acc st).2.1, (stepT c s i acc st).2.2.1, (stepT c s i acc st).2.2.2)
def runAllT (s : List UInt8) (acc : Int) (st : List TV) : ResT := if 24 < s.length then (0, 1, acc, st) else runT 30 s 0 acc st
set_option maxRecDepth 100000 in
set_option maxHeartbeats 2000000 in
theorem run_w (K : Nat → Prop) (w : World) (m p : Nat) (acc : Int) (st : List TV) (h : MacT K w m p acc st) (s : List UInt8) (R : ResT) (hF : runAllT s acc st = R) (hs63 : s.length < 9223372036854775808) :
    Calls Try.prog 30 #[ptr m, S s] w fun r w' => r = .returned (.tuple #[I R.1, I R.2.1]) ∧ Tm K w m p R.2.2.1 R.2.2.2 w' := by
  have hz := str_size s
  unfold runAllT at hF
  by_cases h24 : 24 < s.length
  · rw [if_pos h24] at hF
    subst hF
    have q1 : (24 : Int) < (s.length : Int) := by omega
    go_enter Try.func30, Try.ntmps30
    go_wp2
    go_ret2
    exact ⟨rfl, .refl h⟩
  · rw [if_neg h24] at hF
    have hs : s.length ≤ 24 := by omega
    have q1 : ¬ (24 : Int) < (s.length : Int) := by omega
    have hz2 : (str s).size ≤ 24 := by omega
    have HF : Hid (runT 30 s 0 acc st = R) := hF
    clear hF h24
    go_enter Try.func30, Try.ntmps30
    go_wp2
    go_loopw [6, 7, 8] (fun a b x wr => ∃ (n i : Nat) (acc1 wa wb : Int) (l1 : List TV), a = I wa ∧ b = I wb ∧ x = I (i : Int) ∧ i ≤ s.length ∧ s.length ≤ i + n ∧ Hid (runT n s i acc1 l1 = R) ∧ Tm K w m p acc1 l1 wr) (fun _ _ x _ => (s.length - intOf x).toNat)
    case atStart => exact ⟨30, 0, acc, 0, 0, st, rfl, rfl, rfl, by omega, by omega, HF.out, .refl h⟩
    case round =>
      obtain ⟨n, i, acc1, wa, wb, l1, rfl, rfl, rfl, hi60, hfu, HR, K1, mm, nn, mr, kr⟩ := hrel
      have hR := HR.out
      clear HR HF
      by_cases hil : i = s.length
      · have hR' : (s.length, 0, acc1, l1) = R := by
          cases n with
          | zero => exact hR
          | succ n =>
            rw [runT, List.getElem?_eq_none (by omega)] at hR
            exact hR
        clear hR
        have q2 : ¬ (i : Int) < (s.length : Int) := by omega
        have HR : Hid ((s.length, 0, acc1, l1) = R) := hR'
        clear hR' hil
        go_wp2
        go_ret2
        rw [← HR.out]
        exact ⟨rfl, K1, mm, nn, mr, kr⟩
      · cases n with
        | zero => omega
        | succ n =>
          have hi : i < s.length := by omega
          have hc : s[i]? = some s[i] := List.getElem?_eq_getElem hi
          generalize s[i] = c at hc
          rw [runT, hc] at hR
          dsimp only at hR
          have q2 : (i : Int) < (s.length : Int) := by omega
          have g0 := str_get s i _ hc
          by_cases h32 : c = 32
          · rw [if_pos h32] at hR
            subst h32
            have HR : Hid _ := hR
            clear hR hc hil
            have q3 := wr64 ((i : Int) + 1) (by omega) (by omega)
            go_wp2
            refine wp_scope_next 0 rfl (fun Q a w h => wp_skip h) ?_
            go_wp2
            go_step3
            refine ⟨rfl, ?_⟩
            go_wp2
            go_roundw
            case rel => exact ⟨n, i + 1, acc1, 1, wb, l1, rfl, rfl, by go_num, by omega, by omega, HR.out, K1, mm, nn, mr, kr⟩
            case measure => simp [intOf]; omega
          · rw [if_neg h32] at hR
            have hstep := step_w K1 wr m p acc1 l1 mr s i hs c hc
            have hwd := stepT_wd c s i acc1 l1 hi
            have hc32 : ((c.toNat : Int) == 32) = false := by
              have : c.toNat ≠ 32 := fun e => h32 (UInt8.toNat_inj.1 e)
              simp; omega
            generalize stepT c s i acc1 l1 = r at *
            obtain ⟨r1, r2, r3, r4⟩ := r
            dsimp only at *
            generalize c.toNat = c9 at *
            clear hc h32 hil
            by_cases hr2 : r2 = 0
            · rw [if_pos hr2] at hR
              subst hr2
              have HR : Hid _ := hR
              clear hR
              have q3 := wr64 ((i : Int) + (r1 : Int)) (by omega) (by omega)
              go_wp2_with fail
              refine wp_scope_next 0 rfl (fun Q a w h => wp_skip h) ?_
              go_wp2_with fail
              refine hstep.mono ?_
              rintro r w2 ⟨rfl, t2⟩
              have t3 := Tm.trans mm nn kr t2
              go_wp2
              go_step3
              go_wp2
              simp only [Exit.jump]
              go_wp2
              go_roundw
              case rel => exact ⟨n, i + r1, r3, r1, 0, r4, rfl, rfl, by go_num, by omega, by omega, HR.out, t3⟩
              case measure => simp [intOf]; omega
            · rw [if_neg hr2] at hR
              subst hR
              have q3 : (r2 != 0) = true := by simpa using hr2
              go_wp2_with fail
              refine wp_scope_next 0 rfl (fun Q a w h => wp_skip h) ?_
              go_wp2_with fail
              refine hstep.mono ?_
              rintro r w2 ⟨rfl, t2⟩
              have t3 := Tm.trans mm nn kr t2
              go_wp2
              simp only [Exit.jump]
              go_wp2
              go_ret2
              exact ⟨rfl, t3⟩
def macTx (acc : Int) (st : List TV) : List UInt8 := [97, 99, 99, 61] ++ itoa acc ++ [32, 124, 32] ++ stText st
theorem stText_len (st : List TV) (h : Fine st) (h5 : st.length ≤ 5) : (stText st).length ≤ 200 := stTx_len _ _ h.reverse (by simpa using h5)
set_option maxRecDepth 100000 in
set_option maxHeartbeats 1000000 in
theorem macShowT (K : Nat → Prop) (w : World) (m p : Nat) (acc : Int) (st : List TV) (h : MacT K w m p acc st) :
    Calls Try.prog 31 #[ptr m] w fun e w' => e = .returned (S (macTx acc st)) ∧ Below w.heap.size w w' := by
  obtain ⟨c0, c1, f1, lm⟩ := h.at0
  have hpl := stText_len st h.ok h.st.le
  rw [← str_size] at hpl
  have hl := itoa_len acc h.a1 h.a2
  rw [← str_size] at hl
  go_enter Try.func31, Try.ntmps31
  go_wp2_with fail
  refine (itoa_any acc h.a1 h.a2 w).mono ?_
  rintro e w1 ⟨rfl, b1⟩
  have d0 := (b1.cell (p := ⟨m, 0, none⟩) lm).trans c0
  clear c0 c1 f1
  go_wp2_with fail
  refine (stShowT _ w1 p st h.ok (h.st.later b1)).mono ?_
  rintro e w2 ⟨rfl, b2⟩
  go_wp2
  go_ret
  refine ⟨?_, b1.trans (b2.mono b1.size)⟩
  show Ending.returned (.string (str [97, 99, 99, 61] ++ str (itoa acc) ++ str [32, 124, 32] ++ str (stText st))) = _
  rw [str_append, str_append, str_append]
  rfl
set_option maxRecDepth 100000 in
set_option maxHeartbeats 4000000 in
theorem macCheckT (K : Nat → Prop) (w : World) (m p : Nat) (acc : Int) (st : List TV) (h : MacT K w m p acc st) :
    Calls Try.prog 32 #[ptr m] w fun e w' => e = .returned (.bool true) ∧ Below w.heap.size w w' := by
  obtain ⟨c0, c1, f1, lm⟩ := h.at0
  have hq0 : ∀ w, (binOp .neq 42 .nilFunc .nilFunc).run Try.prog w = .ok (.bool false) w := fun _ => by rfl
  have hq1 : ∀ k w, (binOp .neq 42 (Fv k) .nilFunc).run Try.prog w = .ok (.bool true) w := fun _ _ => by rfl
  have hq2 : ∀ k w, (binOp .eql 42 (Fv k) .nilFunc).run Try.prog w = .ok (.bool false) w := fun _ _ => by rfl
  go_enter Try.func32, Try.ntmps32
  go_wp2
  go_loopw [3, 4] (fun n i wr => ∃ k : Nat, k ≤ 26 ∧ n = I (cntT k : Nat) ∧ i = I (k : Int) ∧ wr = w) (fun _ i _ => (26 - intOf i).toNat)
  case atStart => exact ⟨0, by omega, rfl, rfl, rfl⟩
  case round =>
    obtain ⟨k, hk, rfl, rfl, rfl⟩ := hrel
    have hc26 := cntT_le k
    by_cases hlt : k < 26
    · have q1 : (k : Int) < 26 := by omega
      have hs := cntT_succ k hlt
      rcases low_cell p acc k hlt with ⟨e1, e2⟩ | ⟨e1, f, e2⟩
      · have d1 := h.low _ _ e2
        rw [e1] at hs
        have HS : Hid _ := hs
        clear hs e1 e2
        go_wp2
        go_roundw
        case rel => exact ⟨k + 1, by omega, by rw [HS.out]; simp, by go_num, trivial⟩
        case measure => simp [intOf]; omega
      · have d1 := h.low _ _ e2
        rw [e1] at hs
        have HS : Hid _ := hs
        clear hs e1 e2
        go_wp2
        go_roundw
        case rel => exact ⟨k + 1, by omega, by rw [HS.out]; go_num, by go_num, trivial⟩
        case measure => simp [intOf]; omega
    · obtain rfl : k = 26 := by omega
      rw [show cntT 26 = 9 from by decide]
      go_wp2
      go_loopw [5] (fun i wr' => ∃ j : Nat, j ≤ 9 ∧ i = I (j : Int) ∧ MacT K wr' m p acc st ∧ Below wr.heap.size wr wr') (fun i _ => (9 - intOf i).toNat)
      case atStart => exact ⟨0, by omega, rfl, h, Below.refl _ _⟩
      case round =>
        obtain ⟨j, hj, rfl, h', bn⟩ := hrel
        clear c0 c1 f1 lm
        obtain ⟨c0, c1, f1, lm⟩ := h'.at0
        by_cases hlt : j < 9
        · have hjj : j = 0 ∨ j = 1 ∨ j = 2 ∨ j = 3 ∨ j = 4 ∨ j = 5 ∨ j = 6 ∨ j = 7 ∨ j = 8 := by omega
          clear hj
          rcases hjj with rfl | rfl | rfl | rfl | rfl | rfl | rfl | rfl | rfl
          · have d1 := h'.low 2 (Fv _) rfl
            have g1 : ∀ h, ((ByteArray.mk #[97, 99, 100, 102, 108, 110, 112, 115, 120])[0]'h).toNat = 97 := fun _ => rfl
            have g2 : IntKind.u8.wrap ((97 : Int) - 97) = 0 := by decide
            go_wp2
            go_region
            go_wp2
            go_roundw
            case rel => exact ⟨1, by omega, by go_num, h'.drewN 1, bn.drew⟩
            case measure => simp [intOf]
          · have d1 := h'.low 4 (Fv _) rfl
            have g1 : ∀ h, ((ByteArray.mk #[97, 99, 100, 102, 108, 110, 112, 115, 120])[1]'h).toNat = 99 := fun _ => rfl
            have g2 : IntKind.u8.wrap ((99 : Int) - 97) = 2 := by decide
            go_wp2
            go_region
            go_wp2
            go_roundw
            case rel => exact ⟨2, by omega, by go_num, h'.drewN 1, bn.drew⟩
            case measure => simp [intOf]
          · have d1 := h'.low 5 (Fv _) rfl
            have g1 : ∀ h, ((ByteArray.mk #[97, 99, 100, 102, 108, 110, 112, 115, 120])[2]'h).toNat = 100 := fun _ => rfl
            have g2 : IntKind.u8.wrap ((100 : Int) - 97) = 3 := by decide
            go_wp2
            go_region
            go_wp2
            go_roundw
            case rel => exact ⟨3, by omega, by go_num, h'.drewN 1, bn.drew⟩
            case measure => simp [intOf]
          · have d1 := h'.low 7 (Fv _) rfl
            have g1 : ∀ h, ((ByteArray.mk #[97, 99, 100, 102, 108, 110, 112, 115, 120])[3]'h).toNat = 102 := fun _ => rfl
            have g2 : IntKind.u8.wrap ((102 : Int) - 97) = 5 := by decide
            go_wp2
            go_region
            go_wp2
            go_roundw
            case rel => exact ⟨4, by omega, by go_num, h'.drewN 1, bn.drew⟩
            case measure => simp [intOf]
          · have d1 := h'.low 13 (Fv _) rfl
            have g1 : ∀ h, ((ByteArray.mk #[97, 99, 100, 102, 108, 110, 112, 115, 120])[4]'h).toNat = 108 := fun _ => rfl
            have g2 : IntKind.u8.wrap ((108 : Int) - 97) = 11 := by decide
            go_wp2
            go_region
            go_wp2
            go_roundw
            case rel => exact ⟨5, by omega, by go_num, h'.drewN 1, bn.drew⟩
            case measure => simp [intOf]
          · have d1 := h'.low 15 (Fv _) rfl
            have g1 : ∀ h, ((ByteArray.mk #[97, 99, 100, 102, 108, 110, 112, 115, 120])[5]'h).toNat = 110 := fun _ => rfl
            have g2 : IntKind.u8.wrap ((110 : Int) - 97) = 13 := by decide
            go_wp2
            go_region
            go_wp2
            go_roundw
            case rel => exact ⟨6, by omega, by go_num, h'.drewN 1, bn.drew⟩
            case measure => simp [intOf]
          · have d1 := h'.low 17 (Fv _) rfl
            have g1 : ∀ h, ((ByteArray.mk #[97, 99, 100, 102, 108, 110, 112, 115, 120])[6]'h).toNat = 112 := fun _ => rfl
            have g2 : IntKind.u8.wrap ((112 : Int) - 97) = 15 := by decide
            go_wp2
            go_region
            go_wp2
            go_roundw
            case rel => exact ⟨7, by omega, by go_num, h'.drewN 1, bn.drew⟩
            case measure => simp [intOf]
          · have d1 := h'.low 20 (Fv _) rfl
            have g1 : ∀ h, ((ByteArray.mk #[97, 99, 100, 102, 108, 110, 112, 115, 120])[7]'h).toNat = 115 := fun _ => rfl
            have g2 : IntKind.u8.wrap ((115 : Int) - 97) = 18 := by decide
            go_wp2
            go_region
            go_wp2
            go_roundw
            case rel => exact ⟨8, by omega, by go_num, h'.drewN 1, bn.drew⟩
            case measure => simp [intOf]
          · have d1 := h'.low 25 (Fv _) rfl
            have g1 : ∀ h, ((ByteArray.mk #[97, 99, 100, 102, 108, 110, 112, 115, 120])[8]'h).toNat = 120 := fun _ => rfl
            have g2 : IntKind.u8.wrap ((120 : Int) - 97) = 23 := by decide
            go_wp2
            go_region
            go_wp2
            go_roundw
            case rel => exact ⟨9, by omega, by go_num, h'.drewN 1, bn.drew⟩
            case measure => simp [intOf]
        · obtain rfl : j = 9 := by omega
          go_wp2_with fail
          refine (stCheckT _ _ p st h'.ok h'.st).mono ?_
          rintro e w2 ⟨rfl, b2⟩
          go_wp2
          go_ret
          exact ⟨rfl, bn.trans (b2.mono bn.size)⟩
end Go.Proofs.Qxb6500470a
