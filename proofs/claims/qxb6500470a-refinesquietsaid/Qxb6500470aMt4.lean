import Derived.Test.Qxb6500470aMt3
namespace Go.Proofs.Qxb6500470a
open Go.RowKit
set_option maxRecDepth 100000 in
set_option maxHeartbeats 2000000 in
theorem stepT_97 (K : Nat → Prop) (w : World) (m p : Nat) (acc : Int) (st : List TV) (h : MacT K w m p acc st) (s : List UInt8) (i : Nat) (hs : s.length ≤ 24) (hc0 : s[i]? = some 97) :
    Calls Try.prog 45 #[ptr m, S s, I i] w fun e w' => e = .returned (.tuple #[I 1, I (wAdd st).2]) ∧ Tm K w m p acc (wAdd st).1 w' := by
  have hz := str_size s
  have hz2 : (str s).size ≤ 24 := by omega
  have hj : i < s.length := (List.getElem?_eq_some_iff.1 hc0).1
  have hj2 : (i : Int) < (s.length : Int) := by omega
  have g0 := str_get s i _ hc0
  have d0 := h.at0.1
  have d1 : w.cell? ⟨m, 2, none⟩ = some (Fv 36) := h.low 2 _ rfl
  have hq : ∀ w, (binOp .neq 42 (Fv 36) .nilFunc).run Try.prog w = .ok (.bool true) w := fun _ => by rfl
  have hw := add_w _ w p st h.st h.ok
  go_enter Try.func45, Try.ntmps45
  go_wp2_with fail
  refine hw.mono ?_
  rintro e w2 ⟨rfl, tn⟩
  have m2 := h.word tn (wAdd_fine st h.ok)
  go_wp2
  go_ret2
  exact ⟨rfl, m2⟩
set_option maxRecDepth 100000 in
set_option maxHeartbeats 2000000 in
theorem stepT_99 (K : Nat → Prop) (w : World) (m p : Nat) (acc : Int) (st : List TV) (h : MacT K w m p acc st) (s : List UInt8) (i : Nat) (hs : s.length ≤ 24) (hc0 : s[i]? = some 99) :
    Calls Try.prog 45 #[ptr m, S s, I i] w fun e w' => e = .returned (.tuple #[I 1, I (wCons st).2]) ∧ Tm K w m p acc (wCons st).1 w' := by
  have hz := str_size s
  have hz2 : (str s).size ≤ 24 := by omega
  have hj : i < s.length := (List.getElem?_eq_some_iff.1 hc0).1
  have hj2 : (i : Int) < (s.length : Int) := by omega
  have g0 := str_get s i _ hc0
  have d0 := h.at0.1
  have d1 : w.cell? ⟨m, 4, none⟩ = some (Fv 37) := h.low 4 _ rfl
  have hq : ∀ w, (binOp .neq 42 (Fv 37) .nilFunc).run Try.prog w = .ok (.bool true) w := fun _ => by rfl
  have hw := cons_w _ w p st h.st h.ok
  go_enter Try.func45, Try.ntmps45
  go_wp2_with fail
  refine hw.mono ?_
  rintro e w2 ⟨rfl, tn⟩
  have m2 := h.word tn (wCons_fine st h.ok)
  go_wp2
  go_ret2
  exact ⟨rfl, m2⟩
set_option maxRecDepth 100000 in
set_option maxHeartbeats 2000000 in
theorem stepT_100 (K : Nat → Prop) (w : World) (m p : Nat) (acc : Int) (st : List TV) (h : MacT K w m p acc st) (s : List UInt8) (i : Nat) (hs : s.length ≤ 24) (hc0 : s[i]? = some 100) :
    Calls Try.prog 45 #[ptr m, S s, I i] w fun e w' => e = .returned (.tuple #[I 1, I (wDup st).2]) ∧ Tm K w m p acc (wDup st).1 w' := by
  have hz := str_size s
  have hz2 : (str s).size ≤ 24 := by omega
  have hj : i < s.length := (List.getElem?_eq_some_iff.1 hc0).1
  have hj2 : (i : Int) < (s.length : Int) := by omega
  have g0 := str_get s i _ hc0
  have d0 := h.at0.1
  have d1 : w.cell? ⟨m, 5, none⟩ = some (Fv 38) := h.low 5 _ rfl
  have hq : ∀ w, (binOp .neq 42 (Fv 38) .nilFunc).run Try.prog w = .ok (.bool true) w := fun _ => by rfl
  have hw := dup_w _ w p st h.st
  go_enter Try.func45, Try.ntmps45
  go_wp2_with fail
  refine hw.mono ?_
  rintro e w2 ⟨rfl, tn⟩
  have m2 := h.word tn (wDup_fine st h.ok)
  go_wp2
  go_ret2
  exact ⟨rfl, m2⟩
set_option maxRecDepth 100000 in
set_option maxHeartbeats 2000000 in
theorem stepT_102 (K : Nat → Prop) (w : World) (m p : Nat) (acc : Int) (st : List TV) (h : MacT K w m p acc st) (s : List UInt8) (i : Nat) (hs : s.length ≤ 24) (hc0 : s[i]? = some 102) :
    Calls Try.prog 45 #[ptr m, S s, I i] w fun e w' => e = .returned (.tuple #[I 1, I (wFind st).2]) ∧ Tm K w m p acc (wFind st).1 w' := by
  have hz := str_size s
  have hz2 : (str s).size ≤ 24 := by omega
  have hj : i < s.length := (List.getElem?_eq_some_iff.1 hc0).1
  have hj2 : (i : Int) < (s.length : Int) := by omega
  have g0 := str_get s i _ hc0
  have d0 := h.at0.1
  have d1 : w.cell? ⟨m, 7, none⟩ = some (Fv 39) := h.low 7 _ rfl
  have hq : ∀ w, (binOp .neq 42 (Fv 39) .nilFunc).run Try.prog w = .ok (.bool true) w := fun _ => by rfl
  have hw := find_w _ w p st h.st h.ok
  go_enter Try.func45, Try.ntmps45
  go_wp2_with fail
  refine hw.mono ?_
  rintro e w2 ⟨rfl, tn⟩
  have m2 := h.word tn (wFind_fine st h.ok)
  go_wp2
  go_ret2
  exact ⟨rfl, m2⟩
set_option maxRecDepth 100000 in
set_option maxHeartbeats 2000000 in
theorem stepT_108 (K : Nat → Prop) (w : World) (m p : Nat) (acc : Int) (st : List TV) (h : MacT K w m p acc st) (s : List UInt8) (i : Nat) (hs : s.length ≤ 24) (hc0 : s[i]? = some 108) :
    Calls Try.prog 45 #[ptr m, S s, I i] w fun e w' => e = .returned (.tuple #[I 1, I (wLen st).2]) ∧ Tm K w m p acc (wLen st).1 w' := by
  have hz := str_size s
  have hz2 : (str s).size ≤ 24 := by omega
  have hj : i < s.length := (List.getElem?_eq_some_iff.1 hc0).1
  have hj2 : (i : Int) < (s.length : Int) := by omega
  have g0 := str_get s i _ hc0
  have d0 := h.at0.1
  have d1 : w.cell? ⟨m, 13, none⟩ = some (Fv 40) := h.low 13 _ rfl
  have hq : ∀ w, (binOp .neq 42 (Fv 40) .nilFunc).run Try.prog w = .ok (.bool true) w := fun _ => by rfl
  have hw := len_w _ w p st h.st h.ok
  go_enter Try.func45, Try.ntmps45
  go_wp2_with fail
  refine hw.mono ?_
  rintro e w2 ⟨rfl, tn⟩
  have m2 := h.word tn (wLen_fine st h.ok)
  go_wp2
  go_ret2
  exact ⟨rfl, m2⟩
set_option maxRecDepth 100000 in
set_option maxHeartbeats 2000000 in
theorem stepT_110 (K : Nat → Prop) (w : World) (m p : Nat) (acc : Int) (st : List TV) (h : MacT K w m p acc st) (s : List UInt8) (i : Nat) (hs : s.length ≤ 24) (hc0 : s[i]? = some 110) :
    Calls Try.prog 45 #[ptr m, S s, I i] w fun e w' => e = .returned (.tuple #[I 1, I (wNeg st).2]) ∧ Tm K w m p acc (wNeg st).1 w' := by
  have hz := str_size s
  have hz2 : (str s).size ≤ 24 := by omega
  have hj : i < s.length := (List.getElem?_eq_some_iff.1 hc0).1
  have hj2 : (i : Int) < (s.length : Int) := by omega
  have g0 := str_get s i _ hc0
  have d0 := h.at0.1
  have d1 : w.cell? ⟨m, 15, none⟩ = some (Fv 41) := h.low 15 _ rfl
  have hq : ∀ w, (binOp .neq 42 (Fv 41) .nilFunc).run Try.prog w = .ok (.bool true) w := fun _ => by rfl
  have hw := neg_w _ w p st h.st
  go_enter Try.func45, Try.ntmps45
  go_wp2_with fail
  refine hw.mono ?_
  rintro e w2 ⟨rfl, tn⟩
  have m2 := h.word tn (wNeg_fine st h.ok)
  go_wp2
  go_ret2
  exact ⟨rfl, m2⟩
set_option maxRecDepth 100000 in
set_option maxHeartbeats 2000000 in
theorem stepT_112 (K : Nat → Prop) (w : World) (m p : Nat) (acc : Int) (st : List TV) (h : MacT K w m p acc st) (s : List UInt8) (i : Nat) (hs : s.length ≤ 24) (hc0 : s[i]? = some 112) :
    Calls Try.prog 45 #[ptr m, S s, I i] w fun e w' => e = .returned (.tuple #[I 1, I (wPair st).2]) ∧ Tm K w m p acc (wPair st).1 w' := by
  have hz := str_size s
  have hz2 : (str s).size ≤ 24 := by omega
  have hj : i < s.length := (List.getElem?_eq_some_iff.1 hc0).1
  have hj2 : (i : Int) < (s.length : Int) := by omega
  have g0 := str_get s i _ hc0
  have d0 := h.at0.1
  have d1 : w.cell? ⟨m, 17, none⟩ = some (Fv 42) := h.low 17 _ rfl
  have hq : ∀ w, (binOp .neq 42 (Fv 42) .nilFunc).run Try.prog w = .ok (.bool true) w := fun _ => by rfl
  have hw := pair_w _ w p st h.st h.ok
  go_enter Try.func45, Try.ntmps45
  go_wp2_with fail
  refine hw.mono ?_
  rintro e w2 ⟨rfl, tn⟩
  have m2 := h.word tn (wPair_fine st h.ok)
  go_wp2
  go_ret2
  exact ⟨rfl, m2⟩
set_option maxRecDepth 100000 in
set_option maxHeartbeats 2000000 in
theorem stepT_115 (K : Nat → Prop) (w : World) (m p : Nat) (acc : Int) (st : List TV) (h : MacT K w m p acc st) (s : List UInt8) (i : Nat) (hs : s.length ≤ 24) (hc0 : s[i]? = some 115) :
    Calls Try.prog 45 #[ptr m, S s, I i] w fun e w' => e = .returned (.tuple #[I 1, I (wFold st).2]) ∧ Tm K w m p acc (wFold st).1 w' := by
  have hz := str_size s
  have hz2 : (str s).size ≤ 24 := by omega
  have hj : i < s.length := (List.getElem?_eq_some_iff.1 hc0).1
  have hj2 : (i : Int) < (s.length : Int) := by omega
  have g0 := str_get s i _ hc0
  have d0 := h.at0.1
  have d1 : w.cell? ⟨m, 20, none⟩ = some (Fv 43) := h.low 20 _ rfl
  have hq : ∀ w, (binOp .neq 42 (Fv 43) .nilFunc).run Try.prog w = .ok (.bool true) w := fun _ => by rfl
  have hw := fold_w _ w p st h.st h.ok
  go_enter Try.func45, Try.ntmps45
  go_wp2_with fail
  refine hw.mono ?_
  rintro e w2 ⟨rfl, tn⟩
  have m2 := h.word tn (wFold_fine st h.ok)
  go_wp2
  go_ret2
  exact ⟨rfl, m2⟩
set_option maxRecDepth 100000 in
set_option maxHeartbeats 2000000 in
theorem stepT_120 (K : Nat → Prop) (w : World) (m p : Nat) (acc : Int) (st : List TV) (h : MacT K w m p acc st) (s : List UInt8) (i : Nat) (hs : s.length ≤ 24) (hc0 : s[i]? = some 120) :
    Calls Try.prog 45 #[ptr m, S s, I i] w fun e w' => e = .returned (.tuple #[I 1, I (wDrop st).2]) ∧ Tm K w m p acc (wDrop st).1 w' := by
  have hz := str_size s
  have hz2 : (str s).size ≤ 24 := by omega
  have hj : i < s.length := (List.getElem?_eq_some_iff.1 hc0).1
  have hj2 : (i : Int) < (s.length : Int) := by omega
  have g0 := str_get s i _ hc0
  have d0 := h.at0.1
  have d1 : w.cell? ⟨m, 25, none⟩ = some (Fv 44) := h.low 25 _ rfl
  have hq : ∀ w, (binOp .neq 42 (Fv 44) .nilFunc).run Try.prog w = .ok (.bool true) w := fun _ => by rfl
  have hw := drop_w _ w p st h.st
  go_enter Try.func45, Try.ntmps45
  go_wp2_with fail
  refine hw.mono ?_
  rintro e w2 ⟨rfl, tn⟩
  have m2 := h.word tn (wDrop_fine st h.ok)
  go_wp2
  go_ret2
  exact ⟨rfl, m2⟩
set_option maxRecDepth 100000 in
set_option maxHeartbeats 2000000 in
theorem stepT_48 (K : Nat → Prop) (w : World) (m p : Nat) (acc : Int) (st : List TV) (h : MacT K w m p acc st) (s : List UInt8) (i : Nat) (hs : s.length ≤ 24) (hc0 : s[i]? = some 48) :
    Calls Try.prog 45 #[ptr m, S s, I i] w fun e w' => e = .returned (.tuple #[I 1, I (extraT 0 st).2]) ∧ Tm K w m p acc (extraT 0 st).1 w' := by
  have hz := str_size s
  have hz2 : (str s).size ≤ 24 := by omega
  have hj : i < s.length := (List.getElem?_eq_some_iff.1 hc0).1
  have hj2 : (i : Int) < (s.length : Int) := by omega
  have g0 := str_get s i _ hc0
  have d0 := h.at0.1
  have hq : ∀ w, (binOp .neq 42 .nilFunc .nilFunc).run Try.prog w = .ok (.bool false) w := fun _ => by rfl
  have hw := extra_w _ w p st h.st h.ok 0
  go_enter Try.func45, Try.ntmps45
  go_wp2_with fail
  refine hw.mono ?_
  rintro e w2 ⟨rfl, tn⟩
  have m2 := h.word tn (extra_fine 0 st h.ok)
  go_wp2
  go_ret2
  exact ⟨rfl, m2⟩
set_option maxRecDepth 100000 in
set_option maxHeartbeats 2000000 in
theorem stepT_49 (K : Nat → Prop) (w : World) (m p : Nat) (acc : Int) (st : List TV) (h : MacT K w m p acc st) (s : List UInt8) (i : Nat) (hs : s.length ≤ 24) (hc0 : s[i]? = some 49) :
    Calls Try.prog 45 #[ptr m, S s, I i] w fun e w' => e = .returned (.tuple #[I 1, I (extraT 1 st).2]) ∧ Tm K w m p acc (extraT 1 st).1 w' := by
  have hz := str_size s
  have hz2 : (str s).size ≤ 24 := by omega
  have hj : i < s.length := (List.getElem?_eq_some_iff.1 hc0).1
  have hj2 : (i : Int) < (s.length : Int) := by omega
  have g0 := str_get s i _ hc0
  have d0 := h.at0.1
  have hq : ∀ w, (binOp .neq 42 .nilFunc .nilFunc).run Try.prog w = .ok (.bool false) w := fun _ => by rfl
  have hw := extra_w _ w p st h.st h.ok 1
  go_enter Try.func45, Try.ntmps45
  go_wp2_with fail
  refine hw.mono ?_
  rintro e w2 ⟨rfl, tn⟩
  have m2 := h.word tn (extra_fine 1 st h.ok)
  go_wp2
  go_ret2
  exact ⟨rfl, m2⟩
set_option maxRecDepth 100000 in
set_option maxHeartbeats 2000000 in
theorem stepT_50 (K : Nat → Prop) (w : World) (m p : Nat) (acc : Int) (st : List TV) (h : MacT K w m p acc st) (s : List UInt8) (i : Nat) (hs : s.length ≤ 24) (hc0 : s[i]? = some 50) :
    Calls Try.prog 45 #[ptr m, S s, I i] w fun e w' => e = .returned (.tuple #[I 1, I (extraT 2 st).2]) ∧ Tm K w m p acc (extraT 2 st).1 w' := by
  have hz := str_size s
  have hz2 : (str s).size ≤ 24 := by omega
  have hj : i < s.length := (List.getElem?_eq_some_iff.1 hc0).1
  have hj2 : (i : Int) < (s.length : Int) := by omega
  have g0 := str_get s i _ hc0
  have d0 := h.at0.1
  have hq : ∀ w, (binOp .neq 42 .nilFunc .nilFunc).run Try.prog w = .ok (.bool false) w := fun _ => by rfl
  have hw := extra_w _ w p st h.st h.ok 2
  go_enter Try.func45, Try.ntmps45
  go_wp2_with fail
  refine hw.mono ?_
  rintro e w2 ⟨rfl, tn⟩
  have m2 := h.word tn (extra_fine 2 st h.ok)
  go_wp2
  go_ret2
  exact ⟨rfl, m2⟩
set_option maxRecDepth 100000 in
set_option maxHeartbeats 2000000 in
theorem stepT_51 (K : Nat → Prop) (w : World) (m p : Nat) (acc : Int) (st : List TV) (h : MacT K w m p acc st) (s : List UInt8) (i : Nat) (hs : s.length ≤ 24) (hc0 : s[i]? = some 51) :
    Calls Try.prog 45 #[ptr m, S s, I i] w fun e w' => e = .returned (.tuple #[I 1, I (extraT 3 st).2]) ∧ Tm K w m p acc (extraT 3 st).1 w' := by
  have hz := str_size s
  have hz2 : (str s).size ≤ 24 := by omega
  have hj : i < s.length := (List.getElem?_eq_some_iff.1 hc0).1
  have hj2 : (i : Int) < (s.length : Int) := by omega
  have g0 := str_get s i _ hc0
  have d0 := h.at0.1
  have hq : ∀ w, (binOp .neq 42 .nilFunc .nilFunc).run Try.prog w = .ok (.bool false) w := fun _ => by rfl
  have hw := extra_w _ w p st h.st h.ok 3
  go_enter Try.func45, Try.ntmps45
  go_wp2_with fail
  refine hw.mono ?_
  rintro e w2 ⟨rfl, tn⟩
  have m2 := h.word tn (extra_fine 3 st h.ok)
  go_wp2
  go_ret2
  exact ⟨rfl, m2⟩
set_option maxRecDepth 100000 in
set_option maxHeartbeats 2000000 in
theorem stepT_52 (K : Nat → Prop) (w : World) (m p : Nat) (acc : Int) (st : List TV) (h : MacT K w m p acc st) (s : List UInt8) (i : Nat) (hs : s.length ≤ 24) (hc0 : s[i]? = some 52) :
    Calls Try.prog 45 #[ptr m, S s, I i] w fun e w' => e = .returned (.tuple #[I 1, I (extraT 4 st).2]) ∧ Tm K w m p acc (extraT 4 st).1 w' := by
  have hz := str_size s
  have hz2 : (str s).size ≤ 24 := by omega
  have hj : i < s.length := (List.getElem?_eq_some_iff.1 hc0).1
  have hj2 : (i : Int) < (s.length : Int) := by omega
  have g0 := str_get s i _ hc0
  have d0 := h.at0.1
  have hq : ∀ w, (binOp .neq 42 .nilFunc .nilFunc).run Try.prog w = .ok (.bool false) w := fun _ => by rfl
  have hw := extra_w _ w p st h.st h.ok 4
  go_enter Try.func45, Try.ntmps45
  go_wp2_with fail
  refine hw.mono ?_
  rintro e w2 ⟨rfl, tn⟩
  have m2 := h.word tn (extra_fine 4 st h.ok)
  go_wp2
  go_ret2
  exact ⟨rfl, m2⟩
set_option maxRecDepth 100000 in
set_option maxHeartbeats 2000000 in
theorem stepT_53 (K : Nat → Prop) (w : World) (m p : Nat) (acc : Int) (st : List TV) (h : MacT K w m p acc st) (s : List UInt8) (i : Nat) (hs : s.length ≤ 24) (hc0 : s[i]? = some 53) :
    Calls Try.prog 45 #[ptr m, S s, I i] w fun e w' => e = .returned (.tuple #[I 1, I (extraT 5 st).2]) ∧ Tm K w m p acc (extraT 5 st).1 w' := by
  have hz := str_size s
  have hz2 : (str s).size ≤ 24 := by omega
  have hj : i < s.length := (List.getElem?_eq_some_iff.1 hc0).1
  have hj2 : (i : Int) < (s.length : Int) := by omega
  have g0 := str_get s i _ hc0
  have d0 := h.at0.1
  have hq : ∀ w, (binOp .neq 42 .nilFunc .nilFunc).run Try.prog w = .ok (.bool false) w := fun _ => by rfl
  have hw := extra_w _ w p st h.st h.ok 5
  go_enter Try.func45, Try.ntmps45
  go_wp2_with fail
  refine hw.mono ?_
  rintro e w2 ⟨rfl, tn⟩
  have m2 := h.word tn (extra_fine 5 st h.ok)
  go_wp2
  go_ret2
  exact ⟨rfl, m2⟩
set_option maxRecDepth 100000 in
set_option maxHeartbeats 2000000 in
theorem stepT_54 (K : Nat → Prop) (w : World) (m p : Nat) (acc : Int) (st : List TV) (h : MacT K w m p acc st) (s : List UInt8) (i : Nat) (hs : s.length ≤ 24) (hc0 : s[i]? = some 54) :
    Calls Try.prog 45 #[ptr m, S s, I i] w fun e w' => e = .returned (.tuple #[I 1, I (extraT 6 st).2]) ∧ Tm K w m p acc (extraT 6 st).1 w' := by
  have hz := str_size s
  have hz2 : (str s).size ≤ 24 := by omega
  have hj : i < s.length := (List.getElem?_eq_some_iff.1 hc0).1
  have hj2 : (i : Int) < (s.length : Int) := by omega
  have g0 := str_get s i _ hc0
  have d0 := h.at0.1
  have hq : ∀ w, (binOp .neq 42 .nilFunc .nilFunc).run Try.prog w = .ok (.bool false) w := fun _ => by rfl
  have hw := extra_w _ w p st h.st h.ok 6
  go_enter Try.func45, Try.ntmps45
  go_wp2_with fail
  refine hw.mono ?_
  rintro e w2 ⟨rfl, tn⟩
  have m2 := h.word tn (extra_fine 6 st h.ok)
  go_wp2
  go_ret2
  exact ⟨rfl, m2⟩
set_option maxRecDepth 100000 in
set_option maxHeartbeats 2000000 in
theorem stepT_55 (K : Nat → Prop) (w : World) (m p : Nat) (acc : Int) (st : List TV) (h : MacT K w m p acc st) (s : List UInt8) (i : Nat) (hs : s.length ≤ 24) (hc0 : s[i]? = some 55) :
    Calls Try.prog 45 #[ptr m, S s, I i] w fun e w' => e = .returned (.tuple #[I 1, I (extraT 7 st).2]) ∧ Tm K w m p acc (extraT 7 st).1 w' := by
  have hz := str_size s
  have hz2 : (str s).size ≤ 24 := by omega
  have hj : i < s.length := (List.getElem?_eq_some_iff.1 hc0).1
  have hj2 : (i : Int) < (s.length : Int) := by omega
  have g0 := str_get s i _ hc0
  have d0 := h.at0.1
  have hq : ∀ w, (binOp .neq 42 .nilFunc .nilFunc).run Try.prog w = .ok (.bool false) w := fun _ => by rfl
  have hw := extra_w _ w p st h.st h.ok 7
  go_enter Try.func45, Try.ntmps45
  go_wp2_with fail
  refine hw.mono ?_
  rintro e w2 ⟨rfl, tn⟩
  have m2 := h.word tn (extra_fine 7 st h.ok)
  go_wp2
  go_ret2
  exact ⟨rfl, m2⟩
set_option maxRecDepth 100000 in
set_option maxHeartbeats 2000000 in
theorem stepT_56 (K : Nat → Prop) (w : World) (m p : Nat) (acc : Int) (st : List TV) (h : MacT K w m p acc st) (s : List UInt8) (i : Nat) (hs : s.length ≤ 24) (hc0 : s[i]? = some 56) :
    Calls Try.prog 45 #[ptr m, S s, I i] w fun e w' => e = .returned (.tuple #[I 1, I (extraT 8 st).2]) ∧ Tm K w m p acc (extraT 8 st).1 w' := by
  have hz := str_size s
  have hz2 : (str s).size ≤ 24 := by omega
  have hj : i < s.length := (List.getElem?_eq_some_iff.1 hc0).1
  have hj2 : (i : Int) < (s.length : Int) := by omega
  have g0 := str_get s i _ hc0
  have d0 := h.at0.1
  have hq : ∀ w, (binOp .neq 42 .nilFunc .nilFunc).run Try.prog w = .ok (.bool false) w := fun _ => by rfl
  have hw := extra_w _ w p st h.st h.ok 8
  go_enter Try.func45, Try.ntmps45
  go_wp2_with fail
  refine hw.mono ?_
  rintro e w2 ⟨rfl, tn⟩
  have m2 := h.word tn (extra_fine 8 st h.ok)
  go_wp2
  go_ret2
  exact ⟨rfl, m2⟩
set_option maxRecDepth 100000 in
set_option maxHeartbeats 2000000 in
theorem stepT_57 (K : Nat → Prop) (w : World) (m p : Nat) (acc : Int) (st : List TV) (h : MacT K w m p acc st) (s : List UInt8) (i : Nat) (hs : s.length ≤ 24) (hc0 : s[i]? = some 57) :
    Calls Try.prog 45 #[ptr m, S s, I i] w fun e w' => e = .returned (.tuple #[I 1, I (extraT 9 st).2]) ∧ Tm K w m p acc (extraT 9 st).1 w' := by
  have hz := str_size s
  have hz2 : (str s).size ≤ 24 := by omega
  have hj : i < s.length := (List.getElem?_eq_some_iff.1 hc0).1
  have hj2 : (i : Int) < (s.length : Int) := by omega
  have g0 := str_get s i _ hc0
  have d0 := h.at0.1
  have hq : ∀ w, (binOp .neq 42 .nilFunc .nilFunc).run Try.prog w = .ok (.bool false) w := fun _ => by rfl
  have hw := extra_w _ w p st h.st h.ok 9
  go_enter Try.func45, Try.ntmps45
  go_wp2_with fail
  refine hw.mono ?_
  rintro e w2 ⟨rfl, tn⟩
  have m2 := h.word tn (extra_fine 9 st h.ok)
  go_wp2
  go_ret2
  exact ⟨rfl, m2⟩
end Go.Proofs.Qxb6500470a
