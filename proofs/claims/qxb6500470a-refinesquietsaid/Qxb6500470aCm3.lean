import Derived.Test.Qxb6500470aCm2
namespace Go.Proofs.Qxb6500470a
open Go.RowKit
/-- The word that opens at s[i] with c: its error, the machine behind it; its width where it did not err. -/
def wT (c : UInt8) (s : List UInt8) (i : Nat) (acc : Int) (st : List TV) : ResT := if c = 32 then (1, 0, acc, st) else stepT c s i acc st
theorem TurnM.kept {K : Nat → Prop} {w w' : World} {p : Nat} {st : List TV} (h : TurnM K w p st w') : Kept K w w' := by
  obtain ⟨K2, -, -, -, k⟩ := h
  exact k
theorem neu8 (c k : UInt8) (h : c ≠ k) : ((c.toNat : Int) == (k.toNat : Int)) = false := by
  have : c.toNat ≠ k.toNat := fun e => h (UInt8.toNat_inj.1 e)
  simp
  omega
def StP (K : Nat → Prop) (w : World) (m : Nat) (R : ResT) : Ending → World → Prop := fun e w' => ∃ W : Int, e = .returned (.tuple #[I W, I R.2.1]) ∧ (R.2.1 = 0 → W = R.1) ∧ TmM K w m R.2.2.1 R.2.2.2 w'
set_option maxRecDepth 100000 in
set_option maxHeartbeats 4000000 in
theorem stepM_97 (K : Nat → Prop) (w : World) (m p : Nat) (acc : Int) (st : List TV) (h : MacM K w m p acc st) (s : List UInt8) (i : Nat) (hs : s.length ≤ 24) (hc0 : s[i]? = some 97) :
    Calls Try.prog 91 #[ptr m, S s, I i] w (StP K w m (oneT acc (wAdd st))) := by
  have hz := str_size s
  have hz2 : (str s).size ≤ 24 := by omega
  have hj : i < s.length := (List.getElem?_eq_some_iff.1 hc0).1
  have hj2 : (i : Int) < (s.length : Int) := by omega
  have g0 := str_get s i _ hc0
  obtain ⟨d0, d1, f0, f1, lm⟩ := h.at0
  have hw := mAdd_w _ w p st h.st h.ok
  go_enter Try.func91, Try.ntmps91
  go_wp2_with fail
  refine hw.mono ?_
  rintro e w2 ⟨rfl, tn⟩
  have m2 := h.word tn (wAdd_fine st h.ok)
  go_wp2
  go_ret2
  exact ⟨1, rfl, fun _ => rfl, m2⟩
set_option maxRecDepth 100000 in
set_option maxHeartbeats 4000000 in
theorem stepM_99 (K : Nat → Prop) (w : World) (m p : Nat) (acc : Int) (st : List TV) (h : MacM K w m p acc st) (s : List UInt8) (i : Nat) (hs : s.length ≤ 24) (hc0 : s[i]? = some 99) :
    Calls Try.prog 91 #[ptr m, S s, I i] w (StP K w m (oneT acc (wCons st))) := by
  have hz := str_size s
  have hz2 : (str s).size ≤ 24 := by omega
  have hj : i < s.length := (List.getElem?_eq_some_iff.1 hc0).1
  have hj2 : (i : Int) < (s.length : Int) := by omega
  have g0 := str_get s i _ hc0
  obtain ⟨d0, d1, f0, f1, lm⟩ := h.at0
  have hw := mCons_w _ w p st h.st h.ok
  go_enter Try.func91, Try.ntmps91
  go_wp2_with fail
  refine hw.mono ?_
  rintro e w2 ⟨rfl, tn⟩
  have m2 := h.word tn (wCons_fine st h.ok)
  go_wp2
  go_ret2
  exact ⟨1, rfl, fun _ => rfl, m2⟩
set_option maxRecDepth 100000 in
set_option maxHeartbeats 4000000 in
theorem stepM_100 (K : Nat → Prop) (w : World) (m p : Nat) (acc : Int) (st : List TV) (h : MacM K w m p acc st) (s : List UInt8) (i : Nat) (hs : s.length ≤ 24) (hc0 : s[i]? = some 100) :
    Calls Try.prog 91 #[ptr m, S s, I i] w (StP K w m (oneT acc (wDup st))) := by
  have hz := str_size s
  have hz2 : (str s).size ≤ 24 := by omega
  have hj : i < s.length := (List.getElem?_eq_some_iff.1 hc0).1
  have hj2 : (i : Int) < (s.length : Int) := by omega
  have g0 := str_get s i _ hc0
  obtain ⟨d0, d1, f0, f1, lm⟩ := h.at0
  have hw := mDup_w _ w p st h.st h.ok
  go_enter Try.func91, Try.ntmps91
  go_wp2_with fail
  refine hw.mono ?_
  rintro e w2 ⟨rfl, tn⟩
  have m2 := h.word tn (wDup_fine st h.ok)
  go_wp2
  go_ret2
  exact ⟨1, rfl, fun _ => rfl, m2⟩
set_option maxRecDepth 100000 in
set_option maxHeartbeats 4000000 in
theorem stepM_102 (K : Nat → Prop) (w : World) (m p : Nat) (acc : Int) (st : List TV) (h : MacM K w m p acc st) (s : List UInt8) (i : Nat) (hs : s.length ≤ 24) (hc0 : s[i]? = some 102) :
    Calls Try.prog 91 #[ptr m, S s, I i] w (StP K w m (oneT acc (wFind st))) := by
  have hz := str_size s
  have hz2 : (str s).size ≤ 24 := by omega
  have hj : i < s.length := (List.getElem?_eq_some_iff.1 hc0).1
  have hj2 : (i : Int) < (s.length : Int) := by omega
  have g0 := str_get s i _ hc0
  obtain ⟨d0, d1, f0, f1, lm⟩ := h.at0
  have hw := mFind_w _ w p st h.st h.ok
  go_enter Try.func91, Try.ntmps91
  go_wp2_with fail
  refine hw.mono ?_
  rintro e w2 ⟨rfl, tn⟩
  have m2 := h.word tn (wFind_fine st h.ok)
  go_wp2
  go_ret2
  exact ⟨1, rfl, fun _ => rfl, m2⟩
set_option maxRecDepth 100000 in
set_option maxHeartbeats 4000000 in
theorem stepM_108 (K : Nat → Prop) (w : World) (m p : Nat) (acc : Int) (st : List TV) (h : MacM K w m p acc st) (s : List UInt8) (i : Nat) (hs : s.length ≤ 24) (hc0 : s[i]? = some 108) :
    Calls Try.prog 91 #[ptr m, S s, I i] w (StP K w m (oneT acc (wLen st))) := by
  have hz := str_size s
  have hz2 : (str s).size ≤ 24 := by omega
  have hj : i < s.length := (List.getElem?_eq_some_iff.1 hc0).1
  have hj2 : (i : Int) < (s.length : Int) := by omega
  have g0 := str_get s i _ hc0
  obtain ⟨d0, d1, f0, f1, lm⟩ := h.at0
  have hw := mLen_w _ w p st h.st h.ok
  go_enter Try.func91, Try.ntmps91
  go_wp2_with fail
  refine hw.mono ?_
  rintro e w2 ⟨rfl, tn⟩
  have m2 := h.word tn (wLen_fine st h.ok)
  go_wp2
  go_ret2
  exact ⟨1, rfl, fun _ => rfl, m2⟩
set_option maxRecDepth 100000 in
set_option maxHeartbeats 4000000 in
theorem stepM_110 (K : Nat → Prop) (w : World) (m p : Nat) (acc : Int) (st : List TV) (h : MacM K w m p acc st) (s : List UInt8) (i : Nat) (hs : s.length ≤ 24) (hc0 : s[i]? = some 110) :
    Calls Try.prog 91 #[ptr m, S s, I i] w (StP K w m (oneT acc (wNeg st))) := by
  have hz := str_size s
  have hz2 : (str s).size ≤ 24 := by omega
  have hj : i < s.length := (List.getElem?_eq_some_iff.1 hc0).1
  have hj2 : (i : Int) < (s.length : Int) := by omega
  have g0 := str_get s i _ hc0
  obtain ⟨d0, d1, f0, f1, lm⟩ := h.at0
  have hw := mNeg_w _ w p st h.st h.ok
  go_enter Try.func91, Try.ntmps91
  go_wp2_with fail
  refine hw.mono ?_
  rintro e w2 ⟨rfl, tn⟩
  have m2 := h.word tn (wNeg_fine st h.ok)
  go_wp2
  go_ret2
  exact ⟨1, rfl, fun _ => rfl, m2⟩
set_option maxRecDepth 100000 in
set_option maxHeartbeats 4000000 in
theorem stepM_112 (K : Nat → Prop) (w : World) (m p : Nat) (acc : Int) (st : List TV) (h : MacM K w m p acc st) (s : List UInt8) (i : Nat) (hs : s.length ≤ 24) (hc0 : s[i]? = some 112) :
    Calls Try.prog 91 #[ptr m, S s, I i] w (StP K w m (oneT acc (wPair st))) := by
  have hz := str_size s
  have hz2 : (str s).size ≤ 24 := by omega
  have hj : i < s.length := (List.getElem?_eq_some_iff.1 hc0).1
  have hj2 : (i : Int) < (s.length : Int) := by omega
  have g0 := str_get s i _ hc0
  obtain ⟨d0, d1, f0, f1, lm⟩ := h.at0
  have hw := mPair_w _ w p st h.st h.ok
  go_enter Try.func91, Try.ntmps91
  go_wp2_with fail
  refine hw.mono ?_
  rintro e w2 ⟨rfl, tn⟩
  have m2 := h.word tn (wPair_fine st h.ok)
  go_wp2
  go_ret2
  exact ⟨1, rfl, fun _ => rfl, m2⟩
set_option maxRecDepth 100000 in
set_option maxHeartbeats 4000000 in
theorem stepM_120 (K : Nat → Prop) (w : World) (m p : Nat) (acc : Int) (st : List TV) (h : MacM K w m p acc st) (s : List UInt8) (i : Nat) (hs : s.length ≤ 24) (hc0 : s[i]? = some 120) :
    Calls Try.prog 91 #[ptr m, S s, I i] w (StP K w m (oneT acc (wDrop st))) := by
  have hz := str_size s
  have hz2 : (str s).size ≤ 24 := by omega
  have hj : i < s.length := (List.getElem?_eq_some_iff.1 hc0).1
  have hj2 : (i : Int) < (s.length : Int) := by omega
  have g0 := str_get s i _ hc0
  obtain ⟨d0, d1, f0, f1, lm⟩ := h.at0
  have hw := mDrop_w _ w p st h.st
  go_enter Try.func91, Try.ntmps91
  go_wp2_with fail
  refine hw.mono ?_
  rintro e w2 ⟨rfl, tn⟩
  have m2 := h.word tn (wDrop_fine st h.ok)
  go_wp2
  go_ret2
  exact ⟨1, rfl, fun _ => rfl, m2⟩
set_option maxRecDepth 100000 in
set_option maxHeartbeats 4000000 in
theorem stepM_48 (K : Nat → Prop) (w : World) (m p : Nat) (acc : Int) (st : List TV) (h : MacM K w m p acc st) (s : List UInt8) (i : Nat) (hs : s.length ≤ 24) (hc0 : s[i]? = some 48) :
    Calls Try.prog 91 #[ptr m, S s, I i] w (StP K w m (oneT acc (extraT 0 st))) := by
  have hz := str_size s
  have hz2 : (str s).size ≤ 24 := by omega
  have hj : i < s.length := (List.getElem?_eq_some_iff.1 hc0).1
  have hj2 : (i : Int) < (s.length : Int) := by omega
  have g0 := str_get s i _ hc0
  obtain ⟨d0, d1, f0, f1, lm⟩ := h.at0
  have hw := mExtra_w _ w p st h.st h.ok 0
  go_enter Try.func91, Try.ntmps91
  go_wp2_with fail
  refine hw.mono ?_
  rintro e w2 ⟨rfl, tn⟩
  have m2 := h.word tn (extra_fine 0 st h.ok)
  go_wp2
  go_ret2
  exact ⟨1, rfl, fun _ => rfl, m2⟩
set_option maxRecDepth 100000 in
set_option maxHeartbeats 4000000 in
theorem stepM_49 (K : Nat → Prop) (w : World) (m p : Nat) (acc : Int) (st : List TV) (h : MacM K w m p acc st) (s : List UInt8) (i : Nat) (hs : s.length ≤ 24) (hc0 : s[i]? = some 49) :
    Calls Try.prog 91 #[ptr m, S s, I i] w (StP K w m (oneT acc (extraT 1 st))) := by
  have hz := str_size s
  have hz2 : (str s).size ≤ 24 := by omega
  have hj : i < s.length := (List.getElem?_eq_some_iff.1 hc0).1
  have hj2 : (i : Int) < (s.length : Int) := by omega
  have g0 := str_get s i _ hc0
  obtain ⟨d0, d1, f0, f1, lm⟩ := h.at0
  have hw := mExtra_w _ w p st h.st h.ok 1
  go_enter Try.func91, Try.ntmps91
  go_wp2_with fail
  refine hw.mono ?_
  rintro e w2 ⟨rfl, tn⟩
  have m2 := h.word tn (extra_fine 1 st h.ok)
  go_wp2
  go_ret2
  exact ⟨1, rfl, fun _ => rfl, m2⟩
set_option maxRecDepth 100000 in
set_option maxHeartbeats 4000000 in
theorem stepM_50 (K : Nat → Prop) (w : World) (m p : Nat) (acc : Int) (st : List TV) (h : MacM K w m p acc st) (s : List UInt8) (i : Nat) (hs : s.length ≤ 24) (hc0 : s[i]? = some 50) :
    Calls Try.prog 91 #[ptr m, S s, I i] w (StP K w m (oneT acc (extraT 2 st))) := by
  have hz := str_size s
  have hz2 : (str s).size ≤ 24 := by omega
  have hj : i < s.length := (List.getElem?_eq_some_iff.1 hc0).1
  have hj2 : (i : Int) < (s.length : Int) := by omega
  have g0 := str_get s i _ hc0
  obtain ⟨d0, d1, f0, f1, lm⟩ := h.at0
  have hw := mExtra_w _ w p st h.st h.ok 2
  go_enter Try.func91, Try.ntmps91
  go_wp2_with fail
  refine hw.mono ?_
  rintro e w2 ⟨rfl, tn⟩
  have m2 := h.word tn (extra_fine 2 st h.ok)
  go_wp2
  go_ret2
  exact ⟨1, rfl, fun _ => rfl, m2⟩
set_option maxRecDepth 100000 in
set_option maxHeartbeats 4000000 in
theorem stepM_51 (K : Nat → Prop) (w : World) (m p : Nat) (acc : Int) (st : List TV) (h : MacM K w m p acc st) (s : List UInt8) (i : Nat) (hs : s.length ≤ 24) (hc0 : s[i]? = some 51) :
    Calls Try.prog 91 #[ptr m, S s, I i] w (StP K w m (oneT acc (extraT 3 st))) := by
  have hz := str_size s
  have hz2 : (str s).size ≤ 24 := by omega
  have hj : i < s.length := (List.getElem?_eq_some_iff.1 hc0).1
  have hj2 : (i : Int) < (s.length : Int) := by omega
  have g0 := str_get s i _ hc0
  obtain ⟨d0, d1, f0, f1, lm⟩ := h.at0
  have hw := mExtra_w _ w p st h.st h.ok 3
  go_enter Try.func91, Try.ntmps91
  go_wp2_with fail
  refine hw.mono ?_
  rintro e w2 ⟨rfl, tn⟩
  have m2 := h.word tn (extra_fine 3 st h.ok)
  go_wp2
  go_ret2
  exact ⟨1, rfl, fun _ => rfl, m2⟩
set_option maxRecDepth 100000 in
set_option maxHeartbeats 4000000 in
theorem stepM_52 (K : Nat → Prop) (w : World) (m p : Nat) (acc : Int) (st : List TV) (h : MacM K w m p acc st) (s : List UInt8) (i : Nat) (hs : s.length ≤ 24) (hc0 : s[i]? = some 52) :
    Calls Try.prog 91 #[ptr m, S s, I i] w (StP K w m (oneT acc (extraT 4 st))) := by
  have hz := str_size s
  have hz2 : (str s).size ≤ 24 := by omega
  have hj : i < s.length := (List.getElem?_eq_some_iff.1 hc0).1
  have hj2 : (i : Int) < (s.length : Int) := by omega
  have g0 := str_get s i _ hc0
  obtain ⟨d0, d1, f0, f1, lm⟩ := h.at0
  have hw := mExtra_w _ w p st h.st h.ok 4
  go_enter Try.func91, Try.ntmps91
  go_wp2_with fail
  refine hw.mono ?_
  rintro e w2 ⟨rfl, tn⟩
  have m2 := h.word tn (extra_fine 4 st h.ok)
  go_wp2
  go_ret2
  exact ⟨1, rfl, fun _ => rfl, m2⟩
set_option maxRecDepth 100000 in
set_option maxHeartbeats 4000000 in
theorem stepM_53 (K : Nat → Prop) (w : World) (m p : Nat) (acc : Int) (st : List TV) (h : MacM K w m p acc st) (s : List UInt8) (i : Nat) (hs : s.length ≤ 24) (hc0 : s[i]? = some 53) :
    Calls Try.prog 91 #[ptr m, S s, I i] w (StP K w m (oneT acc (extraT 5 st))) := by
  have hz := str_size s
  have hz2 : (str s).size ≤ 24 := by omega
  have hj : i < s.length := (List.getElem?_eq_some_iff.1 hc0).1
  have hj2 : (i : Int) < (s.length : Int) := by omega
  have g0 := str_get s i _ hc0
  obtain ⟨d0, d1, f0, f1, lm⟩ := h.at0
  have hw := mExtra_w _ w p st h.st h.ok 5
  go_enter Try.func91, Try.ntmps91
  go_wp2_with fail
  refine hw.mono ?_
  rintro e w2 ⟨rfl, tn⟩
  have m2 := h.word tn (extra_fine 5 st h.ok)
  go_wp2
  go_ret2
  exact ⟨1, rfl, fun _ => rfl, m2⟩
set_option maxRecDepth 100000 in
set_option maxHeartbeats 4000000 in
theorem stepM_54 (K : Nat → Prop) (w : World) (m p : Nat) (acc : Int) (st : List TV) (h : MacM K w m p acc st) (s : List UInt8) (i : Nat) (hs : s.length ≤ 24) (hc0 : s[i]? = some 54) :
    Calls Try.prog 91 #[ptr m, S s, I i] w (StP K w m (oneT acc (extraT 6 st))) := by
  have hz := str_size s
  have hz2 : (str s).size ≤ 24 := by omega
  have hj : i < s.length := (List.getElem?_eq_some_iff.1 hc0).1
  have hj2 : (i : Int) < (s.length : Int) := by omega
  have g0 := str_get s i _ hc0
  obtain ⟨d0, d1, f0, f1, lm⟩ := h.at0
  have hw := mExtra_w _ w p st h.st h.ok 6
  go_enter Try.func91, Try.ntmps91
  go_wp2_with fail
  refine hw.mono ?_
  rintro e w2 ⟨rfl, tn⟩
  have m2 := h.word tn (extra_fine 6 st h.ok)
  go_wp2
  go_ret2
  exact ⟨1, rfl, fun _ => rfl, m2⟩
set_option maxRecDepth 100000 in
set_option maxHeartbeats 4000000 in
theorem stepM_55 (K : Nat → Prop) (w : World) (m p : Nat) (acc : Int) (st : List TV) (h : MacM K w m p acc st) (s : List UInt8) (i : Nat) (hs : s.length ≤ 24) (hc0 : s[i]? = some 55) :
    Calls Try.prog 91 #[ptr m, S s, I i] w (StP K w m (oneT acc (extraT 7 st))) := by
  have hz := str_size s
  have hz2 : (str s).size ≤ 24 := by omega
  have hj : i < s.length := (List.getElem?_eq_some_iff.1 hc0).1
  have hj2 : (i : Int) < (s.length : Int) := by omega
  have g0 := str_get s i _ hc0
  obtain ⟨d0, d1, f0, f1, lm⟩ := h.at0
  have hw := mExtra_w _ w p st h.st h.ok 7
  go_enter Try.func91, Try.ntmps91
  go_wp2_with fail
  refine hw.mono ?_
  rintro e w2 ⟨rfl, tn⟩
  have m2 := h.word tn (extra_fine 7 st h.ok)
  go_wp2
  go_ret2
  exact ⟨1, rfl, fun _ => rfl, m2⟩
set_option maxRecDepth 100000 in
set_option maxHeartbeats 4000000 in
theorem stepM_56 (K : Nat → Prop) (w : World) (m p : Nat) (acc : Int) (st : List TV) (h : MacM K w m p acc st) (s : List UInt8) (i : Nat) (hs : s.length ≤ 24) (hc0 : s[i]? = some 56) :
    Calls Try.prog 91 #[ptr m, S s, I i] w (StP K w m (oneT acc (extraT 8 st))) := by
  have hz := str_size s
  have hz2 : (str s).size ≤ 24 := by omega
  have hj : i < s.length := (List.getElem?_eq_some_iff.1 hc0).1
  have hj2 : (i : Int) < (s.length : Int) := by omega
  have g0 := str_get s i _ hc0
  obtain ⟨d0, d1, f0, f1, lm⟩ := h.at0
  have hw := mExtra_w _ w p st h.st h.ok 8
  go_enter Try.func91, Try.ntmps91
  go_wp2_with fail
  refine hw.mono ?_
  rintro e w2 ⟨rfl, tn⟩
  have m2 := h.word tn (extra_fine 8 st h.ok)
  go_wp2
  go_ret2
  exact ⟨1, rfl, fun _ => rfl, m2⟩
set_option maxRecDepth 100000 in
set_option maxHeartbeats 4000000 in
theorem stepM_57 (K : Nat → Prop) (w : World) (m p : Nat) (acc : Int) (st : List TV) (h : MacM K w m p acc st) (s : List UInt8) (i : Nat) (hs : s.length ≤ 24) (hc0 : s[i]? = some 57) :
    Calls Try.prog 91 #[ptr m, S s, I i] w (StP K w m (oneT acc (extraT 9 st))) := by
  have hz := str_size s
  have hz2 : (str s).size ≤ 24 := by omega
  have hj : i < s.length := (List.getElem?_eq_some_iff.1 hc0).1
  have hj2 : (i : Int) < (s.length : Int) := by omega
  have g0 := str_get s i _ hc0
  obtain ⟨d0, d1, f0, f1, lm⟩ := h.at0
  have hw := mExtra_w _ w p st h.st h.ok 9
  go_enter Try.func91, Try.ntmps91
  go_wp2_with fail
  refine hw.mono ?_
  rintro e w2 ⟨rfl, tn⟩
  have m2 := h.word tn (extra_fine 9 st h.ok)
  go_wp2
  go_ret2
  exact ⟨1, rfl, fun _ => rfl, m2⟩
set_option maxRecDepth 100000 in
set_option maxHeartbeats 4000000 in
theorem stepM_91 (K : Nat → Prop) (w : World) (m p : Nat) (acc : Int) (st : List TV) (h : MacM K w m p acc st) (s : List UInt8) (i : Nat) (hs : s.length ≤ 24) (hc0 : s[i]? = some 91) :
    Calls Try.prog 91 #[ptr m, S s, I i] w (StP K w m (oneT acc (wPush .nil st))) := by
  have hz := str_size s
  have hz2 : (str s).size ≤ 24 := by omega
  have hj : i < s.length := (List.getElem?_eq_some_iff.1 hc0).1
  have hj2 : (i : Int) < (s.length : Int) := by omega
  have g0 := str_get s i _ hc0
  obtain ⟨d0, d1, f0, f1, lm⟩ := h.at0
  have hw := mPushL _ w p st h.st
  go_enter Try.func91, Try.ntmps91
  go_wp2_with fail
  refine hw.mono ?_
  rintro e w2 ⟨rfl, tn⟩
  have m2 := h.word tn (wPush_fine _ _ (by decide) h.ok)
  go_wp2
  go_ret2
  exact ⟨1, rfl, fun _ => rfl, m2⟩
set_option maxRecDepth 100000 in
set_option maxHeartbeats 4000000 in
theorem stepM_32 (K : Nat → Prop) (w : World) (m p : Nat) (acc : Int) (st : List TV) (h : MacM K w m p acc st) (s : List UInt8) (i : Nat) (hs : s.length ≤ 24) (hc0 : s[i]? = some 32) :
    Calls Try.prog 91 #[ptr m, S s, I i] w (StP K w m (1, 0, acc, st)) := by
  have hz := str_size s
  have hz2 : (str s).size ≤ 24 := by omega
  have hj : i < s.length := (List.getElem?_eq_some_iff.1 hc0).1
  have hj2 : (i : Int) < (s.length : Int) := by omega
  have g0 := str_get s i _ hc0
  obtain ⟨d0, d1, f0, f1, lm⟩ := h.at0
  go_enter Try.func91, Try.ntmps91
  go_wp2
  go_ret2
  exact ⟨1, rfl, fun _ => rfl, .refl h⟩
set_option maxRecDepth 100000 in
set_option maxHeartbeats 4000000 in
theorem stepM_35 (K : Nat → Prop) (w : World) (m p : Nat) (acc : Int) (st : List TV) (h : MacM K w m p acc st) (s : List UInt8) (i : Nat) (hs : s.length ≤ 24) (hc0 : s[i]? = some 35) :
    Calls Try.prog 91 #[ptr m, S s, I i] w (StP K w m (stepT 35 s i acc st)) := by
  have hz := str_size s
  have hz2 : (str s).size ≤ 24 := by omega
  have hj : i < s.length := (List.getElem?_eq_some_iff.1 hc0).1
  have hj2 : (i : Int) < (s.length : Int) := by omega
  have g0 := str_get s i _ hc0
  obtain ⟨d0, d1, f0, f1, lm⟩ := h.at0
  have hw := numberM_w K w m p acc st h s i hs hj
  have e : stepT 35 s i acc st = (match litT s i with
      | none => (1, 11, acc, st)
      | some r => (r.1, (wPush (.int r.2) st).2, acc, (wPush (.int r.2) st).1)) := rfl
  rw [e]
  have HM : Hid (MacM K w m p acc st) := h
  clear e h
  cases hl : litT s i with
  | none =>
    rw [hl] at hw
    dsimp only
    have hw2 : Calls Try.prog 101 #[ptr m, S s, I i] w fun e w' => e = .returned (.tuple #[I 0, I 11]) ∧ w' = w := hw.mono (fun e w' h => by
      rcases h with ⟨-, h1, h2⟩ | ⟨r, h1, -⟩
      · exact ⟨h1, h2⟩
      · cases h1)
    go_enter Try.func91, Try.ntmps91
    go_wp2_with fail
    refine hw2.mono ?_
    rintro e w2 ⟨rfl, rfl⟩
    go_wp2
    go_ret2
    exact ⟨0, rfl, (fun e => by cases e), .refl HM.out⟩
  | some r =>
    rw [hl] at hw
    dsimp only
    have hw2 : Calls Try.prog 101 #[ptr m, S s, I i] w fun e w' => e = .returned (.tuple #[I r.1, I (wPush (.int r.2) st).2]) ∧ TmM K w m acc (wPush (.int r.2) st).1 w' := hw.mono (fun e w' h => by
      rcases h with ⟨h1, -⟩ | ⟨q, h1, h2, h3⟩
      · cases h1
      · cases h1; exact ⟨h2, h3⟩)
    go_enter Try.func91, Try.ntmps91
    go_wp2_with fail
    refine hw2.mono ?_
    rintro e w2 ⟨rfl, tm⟩
    go_wp2
    go_ret2
    exact ⟨r.1, rfl, fun _ => rfl, tm⟩
set_option maxRecDepth 100000 in
set_option maxHeartbeats 4000000 in
theorem stepM_39n (K : Nat → Prop) (w : World) (m p : Nat) (acc : Int) (st : List TV) (h : MacM K w m p acc st) (s : List UInt8) (i : Nat) (hs : s.length ≤ 24) (hc0 : s[i]? = some 39) (hn : i + 1 = s.length) :
    Calls Try.prog 91 #[ptr m, S s, I i] w (StP K w m (1, 11, acc, st)) := by
  have hz := str_size s
  have hz2 : (str s).size ≤ 24 := by omega
  have hj : i < s.length := (List.getElem?_eq_some_iff.1 hc0).1
  have hj2 : (i : Int) < (s.length : Int) := by omega
  have g0 := str_get s i _ hc0
  obtain ⟨d0, d1, f0, f1, lm⟩ := h.at0
  have q1 : (s.length : Int) ≤ (i : Int) + 1 := by omega
  have r1 := wr64 ((i : Int) + 1) (by omega) (by omega)
  clear hc0 hn
  go_enter Try.func91, Try.ntmps91
  go_wp2
  go_ret2
  exact ⟨0, rfl, (fun e => by cases e), .refl h⟩
set_option maxRecDepth 100000 in
set_option maxHeartbeats 4000000 in
theorem stepM_39s (K : Nat → Prop) (w : World) (m p : Nat) (acc : Int) (st : List TV) (h : MacM K w m p acc st) (s : List UInt8) (i : Nat) (hs : s.length ≤ 24) (hcq : s[i]? = some 39) (c0 : UInt8) (hc0 : s[i + 1]? = some c0) :
    Calls Try.prog 91 #[ptr m, S s, I i] w (StP K w m (2, (wPush (.str [c0]) st).2, acc, (wPush (.str [c0]) st).1)) := by
  have hz := str_size s
  have hz2 : (str s).size ≤ 24 := by omega
  have hj : i + 1 < s.length := (List.getElem?_eq_some_iff.1 hc0).1
  have hj0 : (i : Int) < (s.length : Int) := by omega
  have hj2 : ¬ (s.length : Int) ≤ ((i : Int) + 1) := by omega
  have g0 := str_get s i _ hcq
  obtain ⟨d0, d1, f0, f1, lm⟩ := h.at0
  have hf := wPush_fine (.str [c0]) st (by rw [str_text]; have := itoa_len (([c0] : List UInt8).length : Int) (by simp) (by simp); simp at *; omega) h.ok
  have hsl : (str s).extract (i + 1) (i + 2) = str [c0] := by
    obtain ⟨hl, e⟩ := List.getElem?_eq_some_iff.1 hc0
    apply ByteArray.ext
    rw [ByteArray.data_extract]
    show s.toArray.extract (i + 1) (i + 2) = #[c0]
    rw [List.extract_toArray, List.extract_eq_take_drop]
    rw [List.drop_eq_getElem_cons hl, show i + 2 - (i + 1) = 1 from by omega, List.take_succ_cons, List.take_zero, e]
  have hsr : ∀ W, (Instr.slice 9 (S s) (some (.int .i64 ((i : Int) + 1))) (some (.int .i64 ((i : Int) + 2))) none).run Try.prog W = .ok (S [c0]) W := by
    intro W
    rw [run_slice_string (P := Try.prog) W 9 (str s) .i64 .i64 ((i : Int) + 1) ((i : Int) + 2) Try.underlying9 (by omega) (by omega) (by omega)]
    rw [show ((i : Int) + 1).toNat = i + 1 from by omega, show ((i : Int) + 2).toNat = i + 2 from by omega, hsl]
  clear hsl hc0 hcq
  have q1 : (i : Int) + 1 ≤ (i : Int) + 2 := by omega
  have q2 : (i : Int) + 2 ≤ (s.length : Int) := by omega
  have q3 : (i : Int) + 2 ≤ ((str s).size : Int) := by omega
  have q4 : 0 ≤ (i : Int) + 1 := by omega
  have r1 := wr64 ((i : Int) + 1) (by omega) (by omega)
  have r2 := wr64 ((i : Int) + 2) (by omega) (by omega)
  have HH : ∀ W, MacM K W m p acc st → Calls Try.prog 102 #[ptr p, I 2, I 0, S [c0]] W (Wm (fun k => K k ∨ k = m) W p (wPush (.str [c0]) st)) := fun W hW => mPushS _ W p st hW.st [c0] (by simp)
  go_enter Try.func91, Try.ntmps91
  go_wp2_with fail
  go_region_held3 (fun W => W.cell? ⟨m, 0, none⟩ = some (ptr p)) (go_keep) (first | (go_at_call 102; refine (HH _ (by first | exact h | exact h.drewN 1)).mono ?_; rintro e w2 ⟨rfl, tn⟩; have q0 := ((h.drewN 1).head.kept tn.kept (.inr rfl)).cell 0; have tm := (h.drewN 1).word tn hf; clear tn))
  go_wp2
  go_ret2
  exact ⟨2, rfl, fun _ => rfl, .trans (fun _ h => h) (fun _ h => .inl h) ((Kept.refl K w).drewN 1) tm⟩
set_option maxRecDepth 100000 in
set_option maxHeartbeats 4000000 in
theorem stepM_71 (K : Nat → Prop) (w : World) (m p : Nat) (acc : Int) (st : List TV) (h : MacM K w m p acc st) (s : List UInt8) (i : Nat) (hs : s.length ≤ 24) (hc0 : s[i]? = some 71) :
    Calls Try.prog 91 #[ptr m, S s, I i] w (StP K w m (oneT acc (wPush (.int acc) st))) := by
  have hz := str_size s
  have hz2 : (str s).size ≤ 24 := by omega
  have hj : i < s.length := (List.getElem?_eq_some_iff.1 hc0).1
  have hj2 : (i : Int) < (s.length : Int) := by omega
  have g0 := str_get s i _ hc0
  obtain ⟨d0, d1, f0, f1, lm⟩ := h.at0
  have hf := wPush_fine (.int acc) st (int_fine _ h.a1 h.a2) h.ok
  have HH : ∀ W, MacM K W m p acc st → Calls Try.prog 102 #[ptr p, I 1, I acc, S []] W (Wm (fun k => K k ∨ k = m) W p (wPush (.int acc) st)) := fun W hW => mPushI _ W p st hW.st acc hW.a1 hW.a2
  go_enter Try.func91, Try.ntmps91
  go_wp2_with fail
  go_region_held3 (fun W => W.cell? ⟨m, 0, none⟩ = some (ptr p) ∧ W.cell? ⟨m, 1, none⟩ = some (I acc)) (go_keep) (first | (go_at_call 102; refine (HH _ (by first | exact h | exact h.drewN 1)).mono ?_; rintro e w2 ⟨rfl, tn⟩; have q0 := ((h.drewN 1).head.kept tn.kept (.inr rfl)).cell 0; have q1 := ((h.drewN 1).head.kept tn.kept (.inr rfl)).cell 1; have tm := (h.drewN 1).word tn hf; clear tn))
  go_wp2
  go_ret2
  exact ⟨1, rfl, fun _ => rfl, .trans (fun _ h => h) (fun _ h => .inl h) ((Kept.refl K w).drewN 1) tm⟩
set_option maxRecDepth 100000 in
set_option maxHeartbeats 4000000 in
theorem stepM_83 (K : Nat → Prop) (w : World) (m p : Nat) (acc : Int) (st : List TV) (h : MacM K w m p acc st) (s : List UInt8) (i : Nat) (hs : s.length ≤ 24) (hc0 : s[i]? = some 83) :
    Calls Try.prog 91 #[ptr m, S s, I i] w (StP K w m (1, (regT 83 acc st).2.2, (regT 83 acc st).1, (regT 83 acc st).2.1)) := by
  have hz := str_size s
  have hz2 : (str s).size ≤ 24 := by omega
  have hj : i < s.length := (List.getElem?_eq_some_iff.1 hc0).1
  have hj2 : (i : Int) < (s.length : Int) := by omega
  have g0 := str_get s i _ hc0
  obtain ⟨d0, d1, f0, f1, lm⟩ := h.at0
  have hw := reg_w K w m p acc st h 83 (by decide)
  generalize regT 83 acc st = R at *
  go_enter Try.func91, Try.ntmps91
  go_wp2_with fail
  refine hw.mono ?_
  rintro e w2 ⟨rfl, tm⟩
  go_wp2
  go_ret2
  exact ⟨1, rfl, fun _ => rfl, tm⟩
set_option maxRecDepth 100000 in
set_option maxHeartbeats 4000000 in
theorem stepM_68 (K : Nat → Prop) (w : World) (m p : Nat) (acc : Int) (st : List TV) (h : MacM K w m p acc st) (s : List UInt8) (i : Nat) (hs : s.length ≤ 24) (hc0 : s[i]? = some 68) :
    Calls Try.prog 91 #[ptr m, S s, I i] w (StP K w m (1, (regT 68 acc st).2.2, (regT 68 acc st).1, (regT 68 acc st).2.1)) := by
  have hz := str_size s
  have hz2 : (str s).size ≤ 24 := by omega
  have hj : i < s.length := (List.getElem?_eq_some_iff.1 hc0).1
  have hj2 : (i : Int) < (s.length : Int) := by omega
  have g0 := str_get s i _ hc0
  obtain ⟨d0, d1, f0, f1, lm⟩ := h.at0
  have hw := reg_w K w m p acc st h 68 (by decide)
  generalize regT 68 acc st = R at *
  go_enter Try.func91, Try.ntmps91
  go_wp2_with fail
  refine hw.mono ?_
  rintro e w2 ⟨rfl, tm⟩
  go_wp2
  go_ret2
  exact ⟨1, rfl, fun _ => rfl, tm⟩
set_option maxRecDepth 100000 in
set_option maxHeartbeats 4000000 in
theorem stepM_77 (K : Nat → Prop) (w : World) (m p : Nat) (acc : Int) (st : List TV) (h : MacM K w m p acc st) (s : List UInt8) (i : Nat) (hs : s.length ≤ 24) (hc0 : s[i]? = some 77) :
    Calls Try.prog 91 #[ptr m, S s, I i] w (StP K w m (1, (regT 77 acc st).2.2, (regT 77 acc st).1, (regT 77 acc st).2.1)) := by
  have hz := str_size s
  have hz2 : (str s).size ≤ 24 := by omega
  have hj : i < s.length := (List.getElem?_eq_some_iff.1 hc0).1
  have hj2 : (i : Int) < (s.length : Int) := by omega
  have g0 := str_get s i _ hc0
  obtain ⟨d0, d1, f0, f1, lm⟩ := h.at0
  have hw := reg_w K w m p acc st h 77 (by decide)
  generalize regT 77 acc st = R at *
  go_enter Try.func91, Try.ntmps91
  go_wp2_with fail
  refine hw.mono ?_
  rintro e w2 ⟨rfl, tm⟩
  go_wp2
  go_ret2
  exact ⟨1, rfl, fun _ => rfl, tm⟩
theorem MacM.fresh {K : Nat → Prop} {w w1 : World} {m p : Nat} {acc : Int} {st : List TV} (h : MacM K w m p acc st) (t : MT (· < w.heap.size) w1 w.heap.size []) (b : Below w.heap.size w w1) : TmM K w m acc [] (w1.setCell ⟨m, 0, none⟩ (ptr w.heap.size)) := by
  have lm := h.head.lt
  have kk : Kept K w (w1.setCell ⟨m, 0, none⟩ (ptr w.heap.size)) := (Kept.of_below b h.ks).setCell h.km _
  refine ⟨K, w.heap.size, fun _ h => h, fun _ h => .inl h, ⟨(h.head.below b lm).set (i := 0) _, ?_, h.km, fine0, h.a1, h.a2⟩, kk⟩
  obtain ⟨a, cap, cs, hA⟩ := t
  have hs := b.size
  have hl := hA.head.lt
  have hne : w.heap.size ≠ m := by omega
  have kset : Kept (fun k => k ≠ m) w1 (w1.setCell ⟨m, 0, none⟩ (ptr w.heap.size)) := ⟨rfl, rfl, rfl, by simp [World.setCell], fun k hk => Below.heap_setCell _ _ _ _ hk⟩
  have hv : cs = [] := hA.vals
  subst hv
  refine ⟨a, cap, [], hA.head.kept kset hne, own_kept hA.own kset (fun g hg e => hA.ka g hg (by subst e; exact lm)), rfl, hA.far, ?_, ?_, ?_, hA.le⟩
  · rintro (e | e)
    · have := h.ks _ e; omega
    · omega
  · rintro g hg (e | e)
    · exact hA.ka g hg (h.ks g e)
    · exact hA.ka g hg (by subst e; exact lm)
  · rintro k (e | rfl)
    · exact Nat.lt_of_lt_of_le (h.ks k e) kk.size
    · exact Nat.lt_of_lt_of_le lm kk.size
set_option maxRecDepth 100000 in
set_option maxHeartbeats 4000000 in
theorem stepM_59 (K : Nat → Prop) (w : World) (m p : Nat) (acc : Int) (st : List TV) (h : MacM K w m p acc st) (s : List UInt8) (i : Nat) (hs : s.length ≤ 24) (hc0 : s[i]? = some 59) :
    Calls Try.prog 91 #[ptr m, S s, I i] w (StP K w m (1, 0, acc, [])) := by
  have hz := str_size s
  have hz2 : (str s).size ≤ 24 := by omega
  have hj : i < s.length := (List.getElem?_eq_some_iff.1 hc0).1
  have hj2 : (i : Int) < (s.length : Int) := by omega
  have g0 := str_get s i _ hc0
  obtain ⟨d0, d1, f0, f1, lm⟩ := h.at0
  have HM : Hid (MacM K w m p acc st) := h
  go_enter Try.func91, Try.ntmps91
  go_wp2_with fail
  refine (vmNew_any w).mono ?_
  rintro e w1 ⟨rfl, t1, b1⟩
  have fin := HM.out.fresh t1 b1
  have hd := HM.out.head.below b1 lm
  have e0 := hd.cell 0
  have e1 := hd.frozen 0
  clear t1
  go_wp2
  go_ret2
  exact ⟨1, rfl, fun _ => rfl, fin⟩
set_option maxRecDepth 100000 in
set_option maxHeartbeats 4000000 in
theorem stepM_33 (K : Nat → Prop) (w : World) (m p : Nat) (acc : Int) (st : List TV) (h : MacM K w m p acc st) (s : List UInt8) (i : Nat) (hs : s.length ≤ 24) (hc0 : s[i]? = some 33) :
    Calls Try.prog 91 #[ptr m, S s, I i] w (StP K w m (1, 0, 0, [])) := by
  have hz := str_size s
  have hz2 : (str s).size ≤ 24 := by omega
  have hj : i < s.length := (List.getElem?_eq_some_iff.1 hc0).1
  have hj2 : (i : Int) < (s.length : Int) := by omega
  have g0 := str_get s i _ hc0
  obtain ⟨d0, d1, f0, f1, lm⟩ := h.at0
  have hm := h.acc (acc' := 0) (by omega) (by omega)
  have HM : Hid _ := hm
  have lm2 := hm.1.head.lt
  go_enter Try.func91, Try.ntmps91
  go_wp2_with fail
  refine (vmNew_any _).mono ?_
  rintro e w1 ⟨rfl, t1, b1⟩
  have fin := TmM.trans (fun _ h => h) (fun _ h => .inl h) HM.out.2 (HM.out.1.fresh t1 b1)
  rw [show (w.setCell ⟨m, 1, none⟩ (I 0)).heap.size = w.heap.size from by simp [World.setCell]] at fin
  have hd := HM.out.1.head.below b1 lm2
  have e0 := hd.cell 0
  have e1 := hd.frozen 0
  clear t1
  go_wp2
  go_ret2
  exact ⟨1, rfl, fun _ => rfl, fin⟩
set_option maxRecDepth 100000 in
set_option maxHeartbeats 4000000 in
theorem stepM_oA (K : Nat → Prop) (w : World) (m p : Nat) (acc : Int) (st : List TV) (h : MacM K w m p acc st) (s : List UInt8) (i : Nat) (hs : s.length ≤ 24) (c : UInt8) (hc0 : s[i]? = some c) (b1 : c.toNat < 48) (n32 : c ≠ 32) (n35 : c ≠ 35) (n39 : c ≠ 39) (n91 : c ≠ 91) (n97 : c ≠ 97) (n99 : c ≠ 99) (n100 : c ≠ 100) (n102 : c ≠ 102) (n108 : c ≠ 108) (n110 : c ≠ 110) (n112 : c ≠ 112) (n115 : c ≠ 115) (n120 : c ≠ 120) (n83 : c ≠ 83) (n68 : c ≠ 68) (n77 : c ≠ 77) (n71 : c ≠ 71) (n33 : c ≠ 33) (n59 : c ≠ 59) :
    Calls Try.prog 91 #[ptr m, S s, I i] w (StP K w m (1, 9, acc, st)) := by
  have hz := str_size s
  have hz2 : (str s).size ≤ 24 := by omega
  have hj : i < s.length := (List.getElem?_eq_some_iff.1 hc0).1
  have hj2 : (i : Int) < (s.length : Int) := by omega
  have g0 := str_get s i _ hc0
  obtain ⟨d0, d1, f0, f1, lm⟩ := h.at0
  have u0 : ¬ (48 : Int) ≤ (c.toNat : Int) := by omega
  have q32 : ((c.toNat : Int) == 32) = false := neu8 c 32 n32
  have q35 : ((c.toNat : Int) == 35) = false := neu8 c 35 n35
  have q39 : ((c.toNat : Int) == 39) = false := neu8 c 39 n39
  have q91 : ((c.toNat : Int) == 91) = false := neu8 c 91 n91
  have q97 : ((c.toNat : Int) == 97) = false := neu8 c 97 n97
  have q99 : ((c.toNat : Int) == 99) = false := neu8 c 99 n99
  have q100 : ((c.toNat : Int) == 100) = false := neu8 c 100 n100
  have q102 : ((c.toNat : Int) == 102) = false := neu8 c 102 n102
  have q108 : ((c.toNat : Int) == 108) = false := neu8 c 108 n108
  have q110 : ((c.toNat : Int) == 110) = false := neu8 c 110 n110
  have q112 : ((c.toNat : Int) == 112) = false := neu8 c 112 n112
  have q115 : ((c.toNat : Int) == 115) = false := neu8 c 115 n115
  have q120 : ((c.toNat : Int) == 120) = false := neu8 c 120 n120
  have q83 : ((c.toNat : Int) == 83) = false := neu8 c 83 n83
  have q68 : ((c.toNat : Int) == 68) = false := neu8 c 68 n68
  have q77 : ((c.toNat : Int) == 77) = false := neu8 c 77 n77
  have q71 : ((c.toNat : Int) == 71) = false := neu8 c 71 n71
  have q33 : ((c.toNat : Int) == 33) = false := neu8 c 33 n33
  have q59 : ((c.toNat : Int) == 59) = false := neu8 c 59 n59
  clear hc0 n32 n35 n39 n91 n97 n99 n100 n102 n108 n110 n112 n115 n120 n83 n68 n77 n71 n33 n59
  generalize c.toNat = n at *
  go_enter Try.func91, Try.ntmps91
  go_wp2
  go_ret2
  exact ⟨0, rfl, (fun e => by cases e), .refl h⟩
set_option maxRecDepth 100000 in
set_option maxHeartbeats 4000000 in
theorem stepM_oB (K : Nat → Prop) (w : World) (m p : Nat) (acc : Int) (st : List TV) (h : MacM K w m p acc st) (s : List UInt8) (i : Nat) (hs : s.length ≤ 24) (c : UInt8) (hc0 : s[i]? = some c) (b1 : 57 < c.toNat) (n32 : c ≠ 32) (n35 : c ≠ 35) (n39 : c ≠ 39) (n91 : c ≠ 91) (n97 : c ≠ 97) (n99 : c ≠ 99) (n100 : c ≠ 100) (n102 : c ≠ 102) (n108 : c ≠ 108) (n110 : c ≠ 110) (n112 : c ≠ 112) (n115 : c ≠ 115) (n120 : c ≠ 120) (n83 : c ≠ 83) (n68 : c ≠ 68) (n77 : c ≠ 77) (n71 : c ≠ 71) (n33 : c ≠ 33) (n59 : c ≠ 59) :
    Calls Try.prog 91 #[ptr m, S s, I i] w (StP K w m (1, 9, acc, st)) := by
  have hz := str_size s
  have hz2 : (str s).size ≤ 24 := by omega
  have hj : i < s.length := (List.getElem?_eq_some_iff.1 hc0).1
  have hj2 : (i : Int) < (s.length : Int) := by omega
  have g0 := str_get s i _ hc0
  obtain ⟨d0, d1, f0, f1, lm⟩ := h.at0
  have u0 : (48 : Int) ≤ (c.toNat : Int) := by omega
  have u1 : ¬ (c.toNat : Int) ≤ 57 := by omega
  have q32 : ((c.toNat : Int) == 32) = false := neu8 c 32 n32
  have q35 : ((c.toNat : Int) == 35) = false := neu8 c 35 n35
  have q39 : ((c.toNat : Int) == 39) = false := neu8 c 39 n39
  have q91 : ((c.toNat : Int) == 91) = false := neu8 c 91 n91
  have q97 : ((c.toNat : Int) == 97) = false := neu8 c 97 n97
  have q99 : ((c.toNat : Int) == 99) = false := neu8 c 99 n99
  have q100 : ((c.toNat : Int) == 100) = false := neu8 c 100 n100
  have q102 : ((c.toNat : Int) == 102) = false := neu8 c 102 n102
  have q108 : ((c.toNat : Int) == 108) = false := neu8 c 108 n108
  have q110 : ((c.toNat : Int) == 110) = false := neu8 c 110 n110
  have q112 : ((c.toNat : Int) == 112) = false := neu8 c 112 n112
  have q115 : ((c.toNat : Int) == 115) = false := neu8 c 115 n115
  have q120 : ((c.toNat : Int) == 120) = false := neu8 c 120 n120
  have q83 : ((c.toNat : Int) == 83) = false := neu8 c 83 n83
  have q68 : ((c.toNat : Int) == 68) = false := neu8 c 68 n68
  have q77 : ((c.toNat : Int) == 77) = false := neu8 c 77 n77
  have q71 : ((c.toNat : Int) == 71) = false := neu8 c 71 n71
  have q33 : ((c.toNat : Int) == 33) = false := neu8 c 33 n33
  have q59 : ((c.toNat : Int) == 59) = false := neu8 c 59 n59
  clear hc0 n32 n35 n39 n91 n97 n99 n100 n102 n108 n110 n112 n115 n120 n83 n68 n77 n71 n33 n59
  generalize c.toNat = n at *
  go_enter Try.func91, Try.ntmps91
  go_wp2
  go_ret2
  exact ⟨0, rfl, (fun e => by cases e), .refl h⟩
end Go.Proofs.Qxb6500470a
