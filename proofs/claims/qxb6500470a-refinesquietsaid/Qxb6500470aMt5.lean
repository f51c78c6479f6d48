import Derived.Test.Qxb6500470aMt4
namespace Go.Proofs.Qxb6500470a
open Go.RowKit
set_option maxRecDepth 100000 in
set_option maxHeartbeats 2000000 in
theorem stepT_98 (K : Nat → Prop) (w : World) (m p : Nat) (acc : Int) (st : List TV) (h : MacT K w m p acc st) (s : List UInt8) (i : Nat) (hs : s.length ≤ 24) (hc0 : s[i]? = some 98) :
    Calls Try.prog 45 #[ptr m, S s, I i] w fun e w' => e = .returned (.tuple #[I 1, I 9]) ∧ Tm K w m p acc st w' := by
  have hz := str_size s
  have hz2 : (str s).size ≤ 24 := by omega
  have hj : i < s.length := (List.getElem?_eq_some_iff.1 hc0).1
  have hj2 : (i : Int) < (s.length : Int) := by omega
  have g0 := str_get s i _ hc0
  have d0 := h.at0.1
  have d1 : w.cell? ⟨m, 3, none⟩ = some .nilFunc := h.low 3 _ rfl
  have hq : ∀ w, (binOp .neq 42 .nilFunc .nilFunc).run Try.prog w = .ok (.bool false) w := fun _ => by rfl
  go_enter Try.func45, Try.ntmps45
  go_wp2
  go_ret2
  exact ⟨rfl, .refl h⟩
set_option maxRecDepth 100000 in
set_option maxHeartbeats 2000000 in
theorem stepT_101 (K : Nat → Prop) (w : World) (m p : Nat) (acc : Int) (st : List TV) (h : MacT K w m p acc st) (s : List UInt8) (i : Nat) (hs : s.length ≤ 24) (hc0 : s[i]? = some 101) :
    Calls Try.prog 45 #[ptr m, S s, I i] w fun e w' => e = .returned (.tuple #[I 1, I 9]) ∧ Tm K w m p acc st w' := by
  have hz := str_size s
  have hz2 : (str s).size ≤ 24 := by omega
  have hj : i < s.length := (List.getElem?_eq_some_iff.1 hc0).1
  have hj2 : (i : Int) < (s.length : Int) := by omega
  have g0 := str_get s i _ hc0
  have d0 := h.at0.1
  have d1 : w.cell? ⟨m, 6, none⟩ = some .nilFunc := h.low 6 _ rfl
  have hq : ∀ w, (binOp .neq 42 .nilFunc .nilFunc).run Try.prog w = .ok (.bool false) w := fun _ => by rfl
  go_enter Try.func45, Try.ntmps45
  go_wp2
  go_ret2
  exact ⟨rfl, .refl h⟩
set_option maxRecDepth 100000 in
set_option maxHeartbeats 2000000 in
theorem stepT_103 (K : Nat → Prop) (w : World) (m p : Nat) (acc : Int) (st : List TV) (h : MacT K w m p acc st) (s : List UInt8) (i : Nat) (hs : s.length ≤ 24) (hc0 : s[i]? = some 103) :
    Calls Try.prog 45 #[ptr m, S s, I i] w fun e w' => e = .returned (.tuple #[I 1, I 9]) ∧ Tm K w m p acc st w' := by
  have hz := str_size s
  have hz2 : (str s).size ≤ 24 := by omega
  have hj : i < s.length := (List.getElem?_eq_some_iff.1 hc0).1
  have hj2 : (i : Int) < (s.length : Int) := by omega
  have g0 := str_get s i _ hc0
  have d0 := h.at0.1
  have d1 : w.cell? ⟨m, 8, none⟩ = some .nilFunc := h.low 8 _ rfl
  have hq : ∀ w, (binOp .neq 42 .nilFunc .nilFunc).run Try.prog w = .ok (.bool false) w := fun _ => by rfl
  go_enter Try.func45, Try.ntmps45
  go_wp2
  go_ret2
  exact ⟨rfl, .refl h⟩
set_option maxRecDepth 100000 in
set_option maxHeartbeats 2000000 in
theorem stepT_104 (K : Nat → Prop) (w : World) (m p : Nat) (acc : Int) (st : List TV) (h : MacT K w m p acc st) (s : List UInt8) (i : Nat) (hs : s.length ≤ 24) (hc0 : s[i]? = some 104) :
    Calls Try.prog 45 #[ptr m, S s, I i] w fun e w' => e = .returned (.tuple #[I 1, I 9]) ∧ Tm K w m p acc st w' := by
  have hz := str_size s
  have hz2 : (str s).size ≤ 24 := by omega
  have hj : i < s.length := (List.getElem?_eq_some_iff.1 hc0).1
  have hj2 : (i : Int) < (s.length : Int) := by omega
  have g0 := str_get s i _ hc0
  have d0 := h.at0.1
  have d1 : w.cell? ⟨m, 9, none⟩ = some .nilFunc := h.low 9 _ rfl
  have hq : ∀ w, (binOp .neq 42 .nilFunc .nilFunc).run Try.prog w = .ok (.bool false) w := fun _ => by rfl
  go_enter Try.func45, Try.ntmps45
  go_wp2
  go_ret2
  exact ⟨rfl, .refl h⟩
set_option maxRecDepth 100000 in
set_option maxHeartbeats 2000000 in
theorem stepT_105 (K : Nat → Prop) (w : World) (m p : Nat) (acc : Int) (st : List TV) (h : MacT K w m p acc st) (s : List UInt8) (i : Nat) (hs : s.length ≤ 24) (hc0 : s[i]? = some 105) :
    Calls Try.prog 45 #[ptr m, S s, I i] w fun e w' => e = .returned (.tuple #[I 1, I 9]) ∧ Tm K w m p acc st w' := by
  have hz := str_size s
  have hz2 : (str s).size ≤ 24 := by omega
  have hj : i < s.length := (List.getElem?_eq_some_iff.1 hc0).1
  have hj2 : (i : Int) < (s.length : Int) := by omega
  have g0 := str_get s i _ hc0
  have d0 := h.at0.1
  have d1 : w.cell? ⟨m, 10, none⟩ = some .nilFunc := h.low 10 _ rfl
  have hq : ∀ w, (binOp .neq 42 .nilFunc .nilFunc).run Try.prog w = .ok (.bool false) w := fun _ => by rfl
  go_enter Try.func45, Try.ntmps45
  go_wp2
  go_ret2
  exact ⟨rfl, .refl h⟩
set_option maxRecDepth 100000 in
set_option maxHeartbeats 2000000 in
theorem stepT_106 (K : Nat → Prop) (w : World) (m p : Nat) (acc : Int) (st : List TV) (h : MacT K w m p acc st) (s : List UInt8) (i : Nat) (hs : s.length ≤ 24) (hc0 : s[i]? = some 106) :
    Calls Try.prog 45 #[ptr m, S s, I i] w fun e w' => e = .returned (.tuple #[I 1, I 9]) ∧ Tm K w m p acc st w' := by
  have hz := str_size s
  have hz2 : (str s).size ≤ 24 := by omega
  have hj : i < s.length := (List.getElem?_eq_some_iff.1 hc0).1
  have hj2 : (i : Int) < (s.length : Int) := by omega
  have g0 := str_get s i _ hc0
  have d0 := h.at0.1
  have d1 : w.cell? ⟨m, 11, none⟩ = some .nilFunc := h.low 11 _ rfl
  have hq : ∀ w, (binOp .neq 42 .nilFunc .nilFunc).run Try.prog w = .ok (.bool false) w := fun _ => by rfl
  go_enter Try.func45, Try.ntmps45
  go_wp2
  go_ret2
  exact ⟨rfl, .refl h⟩
set_option maxRecDepth 100000 in
set_option maxHeartbeats 2000000 in
theorem stepT_107 (K : Nat → Prop) (w : World) (m p : Nat) (acc : Int) (st : List TV) (h : MacT K w m p acc st) (s : List UInt8) (i : Nat) (hs : s.length ≤ 24) (hc0 : s[i]? = some 107) :
    Calls Try.prog 45 #[ptr m, S s, I i] w fun e w' => e = .returned (.tuple #[I 1, I 9]) ∧ Tm K w m p acc st w' := by
  have hz := str_size s
  have hz2 : (str s).size ≤ 24 := by omega
  have hj : i < s.length := (List.getElem?_eq_some_iff.1 hc0).1
  have hj2 : (i : Int) < (s.length : Int) := by omega
  have g0 := str_get s i _ hc0
  have d0 := h.at0.1
  have d1 : w.cell? ⟨m, 12, none⟩ = some .nilFunc := h.low 12 _ rfl
  have hq : ∀ w, (binOp .neq 42 .nilFunc .nilFunc).run Try.prog w = .ok (.bool false) w := fun _ => by rfl
  go_enter Try.func45, Try.ntmps45
  go_wp2
  go_ret2
  exact ⟨rfl, .refl h⟩
set_option maxRecDepth 100000 in
set_option maxHeartbeats 2000000 in
theorem stepT_109 (K : Nat → Prop) (w : World) (m p : Nat) (acc : Int) (st : List TV) (h : MacT K w m p acc st) (s : List UInt8) (i : Nat) (hs : s.length ≤ 24) (hc0 : s[i]? = some 109) :
    Calls Try.prog 45 #[ptr m, S s, I i] w fun e w' => e = .returned (.tuple #[I 1, I 9]) ∧ Tm K w m p acc st w' := by
  have hz := str_size s
  have hz2 : (str s).size ≤ 24 := by omega
  have hj : i < s.length := (List.getElem?_eq_some_iff.1 hc0).1
  have hj2 : (i : Int) < (s.length : Int) := by omega
  have g0 := str_get s i _ hc0
  have d0 := h.at0.1
  have d1 : w.cell? ⟨m, 14, none⟩ = some .nilFunc := h.low 14 _ rfl
  have hq : ∀ w, (binOp .neq 42 .nilFunc .nilFunc).run Try.prog w = .ok (.bool false) w := fun _ => by rfl
  go_enter Try.func45, Try.ntmps45
  go_wp2
  go_ret2
  exact ⟨rfl, .refl h⟩
set_option maxRecDepth 100000 in
set_option maxHeartbeats 2000000 in
theorem stepT_111 (K : Nat → Prop) (w : World) (m p : Nat) (acc : Int) (st : List TV) (h : MacT K w m p acc st) (s : List UInt8) (i : Nat) (hs : s.length ≤ 24) (hc0 : s[i]? = some 111) :
    Calls Try.prog 45 #[ptr m, S s, I i] w fun e w' => e = .returned (.tuple #[I 1, I 9]) ∧ Tm K w m p acc st w' := by
  have hz := str_size s
  have hz2 : (str s).size ≤ 24 := by omega
  have hj : i < s.length := (List.getElem?_eq_some_iff.1 hc0).1
  have hj2 : (i : Int) < (s.length : Int) := by omega
  have g0 := str_get s i _ hc0
  have d0 := h.at0.1
  have d1 : w.cell? ⟨m, 16, none⟩ = some .nilFunc := h.low 16 _ rfl
  have hq : ∀ w, (binOp .neq 42 .nilFunc .nilFunc).run Try.prog w = .ok (.bool false) w := fun _ => by rfl
  go_enter Try.func45, Try.ntmps45
  go_wp2
  go_ret2
  exact ⟨rfl, .refl h⟩
set_option maxRecDepth 100000 in
set_option maxHeartbeats 2000000 in
theorem stepT_113 (K : Nat → Prop) (w : World) (m p : Nat) (acc : Int) (st : List TV) (h : MacT K w m p acc st) (s : List UInt8) (i : Nat) (hs : s.length ≤ 24) (hc0 : s[i]? = some 113) :
    Calls Try.prog 45 #[ptr m, S s, I i] w fun e w' => e = .returned (.tuple #[I 1, I 9]) ∧ Tm K w m p acc st w' := by
  have hz := str_size s
  have hz2 : (str s).size ≤ 24 := by omega
  have hj : i < s.length := (List.getElem?_eq_some_iff.1 hc0).1
  have hj2 : (i : Int) < (s.length : Int) := by omega
  have g0 := str_get s i _ hc0
  have d0 := h.at0.1
  have d1 : w.cell? ⟨m, 18, none⟩ = some .nilFunc := h.low 18 _ rfl
  have hq : ∀ w, (binOp .neq 42 .nilFunc .nilFunc).run Try.prog w = .ok (.bool false) w := fun _ => by rfl
  go_enter Try.func45, Try.ntmps45
  go_wp2
  go_ret2
  exact ⟨rfl, .refl h⟩
set_option maxRecDepth 100000 in
set_option maxHeartbeats 2000000 in
theorem stepT_114 (K : Nat → Prop) (w : World) (m p : Nat) (acc : Int) (st : List TV) (h : MacT K w m p acc st) (s : List UInt8) (i : Nat) (hs : s.length ≤ 24) (hc0 : s[i]? = some 114) :
    Calls Try.prog 45 #[ptr m, S s, I i] w fun e w' => e = .returned (.tuple #[I 1, I 9]) ∧ Tm K w m p acc st w' := by
  have hz := str_size s
  have hz2 : (str s).size ≤ 24 := by omega
  have hj : i < s.length := (List.getElem?_eq_some_iff.1 hc0).1
  have hj2 : (i : Int) < (s.length : Int) := by omega
  have g0 := str_get s i _ hc0
  have d0 := h.at0.1
  have d1 : w.cell? ⟨m, 19, none⟩ = some .nilFunc := h.low 19 _ rfl
  have hq : ∀ w, (binOp .neq 42 .nilFunc .nilFunc).run Try.prog w = .ok (.bool false) w := fun _ => by rfl
  go_enter Try.func45, Try.ntmps45
  go_wp2
  go_ret2
  exact ⟨rfl, .refl h⟩
set_option maxRecDepth 100000 in
set_option maxHeartbeats 2000000 in
theorem stepT_116 (K : Nat → Prop) (w : World) (m p : Nat) (acc : Int) (st : List TV) (h : MacT K w m p acc st) (s : List UInt8) (i : Nat) (hs : s.length ≤ 24) (hc0 : s[i]? = some 116) :
    Calls Try.prog 45 #[ptr m, S s, I i] w fun e w' => e = .returned (.tuple #[I 1, I 9]) ∧ Tm K w m p acc st w' := by
  have hz := str_size s
  have hz2 : (str s).size ≤ 24 := by omega
  have hj : i < s.length := (List.getElem?_eq_some_iff.1 hc0).1
  have hj2 : (i : Int) < (s.length : Int) := by omega
  have g0 := str_get s i _ hc0
  have d0 := h.at0.1
  have d1 : w.cell? ⟨m, 21, none⟩ = some .nilFunc := h.low 21 _ rfl
  have hq : ∀ w, (binOp .neq 42 .nilFunc .nilFunc).run Try.prog w = .ok (.bool false) w := fun _ => by rfl
  go_enter Try.func45, Try.ntmps45
  go_wp2
  go_ret2
  exact ⟨rfl, .refl h⟩
set_option maxRecDepth 100000 in
set_option maxHeartbeats 2000000 in
theorem stepT_117 (K : Nat → Prop) (w : World) (m p : Nat) (acc : Int) (st : List TV) (h : MacT K w m p acc st) (s : List UInt8) (i : Nat) (hs : s.length ≤ 24) (hc0 : s[i]? = some 117) :
    Calls Try.prog 45 #[ptr m, S s, I i] w fun e w' => e = .returned (.tuple #[I 1, I 9]) ∧ Tm K w m p acc st w' := by
  have hz := str_size s
  have hz2 : (str s).size ≤ 24 := by omega
  have hj : i < s.length := (List.getElem?_eq_some_iff.1 hc0).1
  have hj2 : (i : Int) < (s.length : Int) := by omega
  have g0 := str_get s i _ hc0
  have d0 := h.at0.1
  have d1 : w.cell? ⟨m, 22, none⟩ = some .nilFunc := h.low 22 _ rfl
  have hq : ∀ w, (binOp .neq 42 .nilFunc .nilFunc).run Try.prog w = .ok (.bool false) w := fun _ => by rfl
  go_enter Try.func45, Try.ntmps45
  go_wp2
  go_ret2
  exact ⟨rfl, .refl h⟩
set_option maxRecDepth 100000 in
set_option maxHeartbeats 2000000 in
theorem stepT_118 (K : Nat → Prop) (w : World) (m p : Nat) (acc : Int) (st : List TV) (h : MacT K w m p acc st) (s : List UInt8) (i : Nat) (hs : s.length ≤ 24) (hc0 : s[i]? = some 118) :
    Calls Try.prog 45 #[ptr m, S s, I i] w fun e w' => e = .returned (.tuple #[I 1, I 9]) ∧ Tm K w m p acc st w' := by
  have hz := str_size s
  have hz2 : (str s).size ≤ 24 := by omega
  have hj : i < s.length := (List.getElem?_eq_some_iff.1 hc0).1
  have hj2 : (i : Int) < (s.length : Int) := by omega
  have g0 := str_get s i _ hc0
  have d0 := h.at0.1
  have d1 : w.cell? ⟨m, 23, none⟩ = some .nilFunc := h.low 23 _ rfl
  have hq : ∀ w, (binOp .neq 42 .nilFunc .nilFunc).run Try.prog w = .ok (.bool false) w := fun _ => by rfl
  go_enter Try.func45, Try.ntmps45
  go_wp2
  go_ret2
  exact ⟨rfl, .refl h⟩
set_option maxRecDepth 100000 in
set_option maxHeartbeats 2000000 in
theorem stepT_119 (K : Nat → Prop) (w : World) (m p : Nat) (acc : Int) (st : List TV) (h : MacT K w m p acc st) (s : List UInt8) (i : Nat) (hs : s.length ≤ 24) (hc0 : s[i]? = some 119) :
    Calls Try.prog 45 #[ptr m, S s, I i] w fun e w' => e = .returned (.tuple #[I 1, I 9]) ∧ Tm K w m p acc st w' := by
  have hz := str_size s
  have hz2 : (str s).size ≤ 24 := by omega
  have hj : i < s.length := (List.getElem?_eq_some_iff.1 hc0).1
  have hj2 : (i : Int) < (s.length : Int) := by omega
  have g0 := str_get s i _ hc0
  have d0 := h.at0.1
  have d1 : w.cell? ⟨m, 24, none⟩ = some .nilFunc := h.low 24 _ rfl
  have hq : ∀ w, (binOp .neq 42 .nilFunc .nilFunc).run Try.prog w = .ok (.bool false) w := fun _ => by rfl
  go_enter Try.func45, Try.ntmps45
  go_wp2
  go_ret2
  exact ⟨rfl, .refl h⟩
set_option maxRecDepth 100000 in
set_option maxHeartbeats 2000000 in
theorem stepT_121 (K : Nat → Prop) (w : World) (m p : Nat) (acc : Int) (st : List TV) (h : MacT K w m p acc st) (s : List UInt8) (i : Nat) (hs : s.length ≤ 24) (hc0 : s[i]? = some 121) :
    Calls Try.prog 45 #[ptr m, S s, I i] w fun e w' => e = .returned (.tuple #[I 1, I 9]) ∧ Tm K w m p acc st w' := by
  have hz := str_size s
  have hz2 : (str s).size ≤ 24 := by omega
  have hj : i < s.length := (List.getElem?_eq_some_iff.1 hc0).1
  have hj2 : (i : Int) < (s.length : Int) := by omega
  have g0 := str_get s i _ hc0
  have d0 := h.at0.1
  have d1 : w.cell? ⟨m, 26, none⟩ = some .nilFunc := h.low 26 _ rfl
  have hq : ∀ w, (binOp .neq 42 .nilFunc .nilFunc).run Try.prog w = .ok (.bool false) w := fun _ => by rfl
  go_enter Try.func45, Try.ntmps45
  go_wp2
  go_ret2
  exact ⟨rfl, .refl h⟩
set_option maxRecDepth 100000 in
set_option maxHeartbeats 2000000 in
theorem stepT_122 (K : Nat → Prop) (w : World) (m p : Nat) (acc : Int) (st : List TV) (h : MacT K w m p acc st) (s : List UInt8) (i : Nat) (hs : s.length ≤ 24) (hc0 : s[i]? = some 122) :
    Calls Try.prog 45 #[ptr m, S s, I i] w fun e w' => e = .returned (.tuple #[I 1, I 9]) ∧ Tm K w m p acc st w' := by
  have hz := str_size s
  have hz2 : (str s).size ≤ 24 := by omega
  have hj : i < s.length := (List.getElem?_eq_some_iff.1 hc0).1
  have hj2 : (i : Int) < (s.length : Int) := by omega
  have g0 := str_get s i _ hc0
  have d0 := h.at0.1
  have d1 : w.cell? ⟨m, 27, none⟩ = some .nilFunc := h.low 27 _ rfl
  have hq : ∀ w, (binOp .neq 42 .nilFunc .nilFunc).run Try.prog w = .ok (.bool false) w := fun _ => by rfl
  go_enter Try.func45, Try.ntmps45
  go_wp2
  go_ret2
  exact ⟨rfl, .refl h⟩
set_option maxRecDepth 100000 in
set_option maxHeartbeats 2000000 in
theorem own_no (w : World) (c : Nat) (h1 : ((c : Int) == 83) = false) (h2 : ((c : Int) == 71) = false) (h3 : ((c : Int) == 68) = false) (h4 : ((c : Int) == 77) = false) : Calls Try.prog 59 #[.int .u8 (c : Int)] w fun e w' => e = .returned .nilFunc ∧ w' = w := by
  go_enter Try.func59, Try.ntmps59
  go_wp2
  go_ret
  exact ⟨rfl, rfl⟩
set_option maxRecDepth 100000 in
set_option maxHeartbeats 2000000 in
theorem stepT_up (K : Nat → Prop) (w : World) (m p : Nat) (acc : Int) (st : List TV) (h : MacT K w m p acc st) (s : List UInt8) (i : Nat) (hs : s.length ≤ 24) (c : UInt8) (hc0 : s[i]? = some c) (b1 : 65 ≤ c.toNat) (b2 : c.toNat ≤ 90) (n1 : c.toNat ≠ 83) (n2 : c.toNat ≠ 71) (n3 : c.toNat ≠ 68) (n4 : c.toNat ≠ 77) :
    Calls Try.prog 45 #[ptr m, S s, I i] w fun e w' => e = .returned (.tuple #[I 1, I 9]) ∧ Tm K w m p acc st w' := by
  have hz := str_size s
  have hz2 : (str s).size ≤ 24 := by omega
  have hj : i < s.length := (List.getElem?_eq_some_iff.1 hc0).1
  have hj2 : (i : Int) < (s.length : Int) := by omega
  have g0 := str_get s i _ hc0
  have hq : ∀ w, (binOp .neq 42 .nilFunc .nilFunc).run Try.prog w = .ok (.bool false) w := fun _ => by rfl
  have hr : ∀ w, (binOp .eql 92 .nilFunc .nilFunc).run Try.prog w = .ok (.bool true) w := fun _ => by rfl
  clear hc0
  generalize c.toNat = n at *
  have ho := own_no w n (by simp; omega) (by simp; omega) (by simp; omega) (by simp; omega)
  have u1 : ¬ (97 : Int) ≤ (n : Int) := by omega
  have u2 : (65 : Int) ≤ (n : Int) := by omega
  have u3 : (n : Int) ≤ 90 := by omega
  clear b1 b2 n1 n2 n3 n4
  go_enter Try.func45, Try.ntmps45
  go_wp2_with fail
  refine ho.mono ?_
  rintro e w2 ⟨rfl, rfl⟩
  go_wp2
  go_ret2
  exact ⟨rfl, .refl h⟩
set_option maxRecDepth 100000 in
set_option maxHeartbeats 2000000 in
theorem stepT_oA (K : Nat → Prop) (w : World) (m p : Nat) (acc : Int) (st : List TV) (h : MacT K w m p acc st) (s : List UInt8) (i : Nat) (hs : s.length ≤ 24) (c : UInt8) (hc0 : s[i]? = some c) (b1 : c.toNat < 48) (ne : c.toNat ≠ 33 ∧ c.toNat ≠ 59 ∧ c.toNat ≠ 91 ∧ c.toNat ≠ 35 ∧ c.toNat ≠ 39) :
    Calls Try.prog 45 #[ptr m, S s, I i] w fun e w' => e = .returned (.tuple #[I 1, I 9]) ∧ Tm K w m p acc st w' := by
  have hz := str_size s
  have hz2 : (str s).size ≤ 24 := by omega
  have hj : i < s.length := (List.getElem?_eq_some_iff.1 hc0).1
  have hj2 : (i : Int) < (s.length : Int) := by omega
  have g0 := str_get s i _ hc0
  have hq : ∀ w, (binOp .neq 42 .nilFunc .nilFunc).run Try.prog w = .ok (.bool false) w := fun _ => by rfl
  clear hc0
  generalize c.toNat = n at *
  have e1 : ((n : Int) == 33) = false := by simp; omega
  have e2 : ((n : Int) == 59) = false := by simp; omega
  have e3 : ((n : Int) == 91) = false := by simp; omega
  have e4 : ((n : Int) == 35) = false := by simp; omega
  have e5 : ((n : Int) == 39) = false := by simp; omega
  have u0 : ¬ (97 : Int) ≤ (n : Int) := by omega
  have u1 : ¬ (65 : Int) ≤ (n : Int) := by omega
  have u2 : ¬ (48 : Int) ≤ (n : Int) := by omega
  clear ne
  go_enter Try.func45, Try.ntmps45
  go_wp2
  go_ret2
  exact ⟨rfl, .refl h⟩
set_option maxRecDepth 100000 in
set_option maxHeartbeats 2000000 in
theorem stepT_oB (K : Nat → Prop) (w : World) (m p : Nat) (acc : Int) (st : List TV) (h : MacT K w m p acc st) (s : List UInt8) (i : Nat) (hs : s.length ≤ 24) (c : UInt8) (hc0 : s[i]? = some c) (b1 : 57 < c.toNat) (b2 : c.toNat < 65) (ne : c.toNat ≠ 33 ∧ c.toNat ≠ 59 ∧ c.toNat ≠ 91 ∧ c.toNat ≠ 35 ∧ c.toNat ≠ 39) :
    Calls Try.prog 45 #[ptr m, S s, I i] w fun e w' => e = .returned (.tuple #[I 1, I 9]) ∧ Tm K w m p acc st w' := by
  have hz := str_size s
  have hz2 : (str s).size ≤ 24 := by omega
  have hj : i < s.length := (List.getElem?_eq_some_iff.1 hc0).1
  have hj2 : (i : Int) < (s.length : Int) := by omega
  have g0 := str_get s i _ hc0
  have hq : ∀ w, (binOp .neq 42 .nilFunc .nilFunc).run Try.prog w = .ok (.bool false) w := fun _ => by rfl
  clear hc0
  generalize c.toNat = n at *
  have e1 : ((n : Int) == 33) = false := by simp; omega
  have e2 : ((n : Int) == 59) = false := by simp; omega
  have e3 : ((n : Int) == 91) = false := by simp; omega
  have e4 : ((n : Int) == 35) = false := by simp; omega
  have e5 : ((n : Int) == 39) = false := by simp; omega
  have u0 : ¬ (97 : Int) ≤ (n : Int) := by omega
  have u1 : ¬ (65 : Int) ≤ (n : Int) := by omega
  have u2 : (48 : Int) ≤ (n : Int) := by omega
  have u3 : ¬ (n : Int) ≤ 57 := by omega
  clear ne
  go_enter Try.func45, Try.ntmps45
  go_wp2
  go_ret2
  exact ⟨rfl, .refl h⟩
set_option maxRecDepth 100000 in
set_option maxHeartbeats 2000000 in
theorem stepT_oC (K : Nat → Prop) (w : World) (m p : Nat) (acc : Int) (st : List TV) (h : MacT K w m p acc st) (s : List UInt8) (i : Nat) (hs : s.length ≤ 24) (c : UInt8) (hc0 : s[i]? = some c) (b1 : 90 < c.toNat) (b2 : c.toNat < 97) (ne : c.toNat ≠ 33 ∧ c.toNat ≠ 59 ∧ c.toNat ≠ 91 ∧ c.toNat ≠ 35 ∧ c.toNat ≠ 39) :
    Calls Try.prog 45 #[ptr m, S s, I i] w fun e w' => e = .returned (.tuple #[I 1, I 9]) ∧ Tm K w m p acc st w' := by
  have hz := str_size s
  have hz2 : (str s).size ≤ 24 := by omega
  have hj : i < s.length := (List.getElem?_eq_some_iff.1 hc0).1
  have hj2 : (i : Int) < (s.length : Int) := by omega
  have g0 := str_get s i _ hc0
  have hq : ∀ w, (binOp .neq 42 .nilFunc .nilFunc).run Try.prog w = .ok (.bool false) w := fun _ => by rfl
  clear hc0
  generalize c.toNat = n at *
  have e1 : ((n : Int) == 33) = false := by simp; omega
  have e2 : ((n : Int) == 59) = false := by simp; omega
  have e3 : ((n : Int) == 91) = false := by simp; omega
  have e4 : ((n : Int) == 35) = false := by simp; omega
  have e5 : ((n : Int) == 39) = false := by simp; omega
  have u0 : ¬ (97 : Int) ≤ (n : Int) := by omega
  have u1 : (65 : Int) ≤ (n : Int) := by omega
  have u2 : ¬ (n : Int) ≤ 90 := by omega
  have u3 : (48 : Int) ≤ (n : Int) := by omega
  have u4 : ¬ (n : Int) ≤ 57 := by omega
  clear ne
  go_enter Try.func45, Try.ntmps45
  go_wp2
  go_ret2
  exact ⟨rfl, .refl h⟩
set_option maxRecDepth 100000 in
set_option maxHeartbeats 2000000 in
theorem stepT_oD (K : Nat → Prop) (w : World) (m p : Nat) (acc : Int) (st : List TV) (h : MacT K w m p acc st) (s : List UInt8) (i : Nat) (hs : s.length ≤ 24) (c : UInt8) (hc0 : s[i]? = some c) (b1 : 122 < c.toNat) :
    Calls Try.prog 45 #[ptr m, S s, I i] w fun e w' => e = .returned (.tuple #[I 1, I 9]) ∧ Tm K w m p acc st w' := by
  have hz := str_size s
  have hz2 : (str s).size ≤ 24 := by omega
  have hj : i < s.length := (List.getElem?_eq_some_iff.1 hc0).1
  have hj2 : (i : Int) < (s.length : Int) := by omega
  have g0 := str_get s i _ hc0
  have hq : ∀ w, (binOp .neq 42 .nilFunc .nilFunc).run Try.prog w = .ok (.bool false) w := fun _ => by rfl
  clear hc0
  generalize c.toNat = n at *
  have e1 : ((n : Int) == 33) = false := by simp; omega
  have e2 : ((n : Int) == 59) = false := by simp; omega
  have e3 : ((n : Int) == 91) = false := by simp; omega
  have e4 : ((n : Int) == 35) = false := by simp; omega
  have e5 : ((n : Int) == 39) = false := by simp; omega
  have u0 : (97 : Int) ≤ (n : Int) := by omega
  have u1 : ¬ (n : Int) ≤ 122 := by omega
  have u2 : (65 : Int) ≤ (n : Int) := by omega
  have u3 : ¬ (n : Int) ≤ 90 := by omega
  have u4 : (48 : Int) ≤ (n : Int) := by omega
  have u5 : ¬ (n : Int) ≤ 57 := by omega
  go_enter Try.func45, Try.ntmps45
  go_wp2
  go_ret2
  exact ⟨rfl, .refl h⟩
end Go.Proofs.Qxb6500470a
