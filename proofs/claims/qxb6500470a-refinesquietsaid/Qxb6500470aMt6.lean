import Derived.Test.Qxb6500470aMt5
namespace Go.Proofs.Qxb6500470a
open Go.RowKit
set_option maxRecDepth 100000 in
set_option maxHeartbeats 2000000 in
theorem stepT_83 (K : Nat → Prop) (w : World) (m p : Nat) (acc : Int) (st : List TV) (h : MacT K w m p acc st) (s : List UInt8) (i : Nat) (hs : s.length ≤ 24) (hc0 : s[i]? = some 83) :
    Calls Try.prog 45 #[ptr m, S s, I i] w fun e w' => e = .returned (.tuple #[I 1, I (regT 83 acc st).2.2]) ∧ Tm K w m p (regT 83 acc st).1 (regT 83 acc st).2.1 w' := by
  have hz := str_size s
  have hz2 : (str s).size ≤ 24 := by omega
  have hj : i < s.length := (List.getElem?_eq_some_iff.1 hc0).1
  have hj2 : (i : Int) < (s.length : Int) := by omega
  have g0 := str_get s i _ hc0
  have hq : ∀ w, (binOp .neq 42 .nilFunc .nilFunc).run Try.prog w = .ok (.bool false) w := fun _ => by rfl
  have hr : ∀ w, (binOp .eql 92 (Fv 72) .nilFunc).run Try.prog w = .ok (.bool false) w := fun _ => by rfl
  have hw := set_w K w m p acc st h
  go_enter Try.func45, Try.ntmps45
  go_wp2_with fail
  refine (own_S w).mono ?_
  rintro e w2 ⟨rfl, rfl⟩
  go_wp2_with fail
  refine hw.mono ?_
  rintro e w3 ⟨rfl, m2⟩
  go_wp2
  go_ret2
  exact ⟨rfl, m2⟩
set_option maxRecDepth 100000 in
set_option maxHeartbeats 2000000 in
theorem stepT_68 (K : Nat → Prop) (w : World) (m p : Nat) (acc : Int) (st : List TV) (h : MacT K w m p acc st) (s : List UInt8) (i : Nat) (hs : s.length ≤ 24) (hc0 : s[i]? = some 68) :
    Calls Try.prog 45 #[ptr m, S s, I i] w fun e w' => e = .returned (.tuple #[I 1, I (regT 68 acc st).2.2]) ∧ Tm K w m p (regT 68 acc st).1 (regT 68 acc st).2.1 w' := by
  have hz := str_size s
  have hz2 : (str s).size ≤ 24 := by omega
  have hj : i < s.length := (List.getElem?_eq_some_iff.1 hc0).1
  have hj2 : (i : Int) < (s.length : Int) := by omega
  have g0 := str_get s i _ hc0
  have hq : ∀ w, (binOp .neq 42 .nilFunc .nilFunc).run Try.prog w = .ok (.bool false) w := fun _ => by rfl
  have hr : ∀ w, (binOp .eql 92 (Fv 74) .nilFunc).run Try.prog w = .ok (.bool false) w := fun _ => by rfl
  have hw := div_w K w m p acc st h
  go_enter Try.func45, Try.ntmps45
  go_wp2_with fail
  refine (own_D w).mono ?_
  rintro e w2 ⟨rfl, rfl⟩
  go_wp2_with fail
  refine hw.mono ?_
  rintro e w3 ⟨rfl, m2⟩
  go_wp2
  go_ret2
  exact ⟨rfl, m2⟩
set_option maxRecDepth 100000 in
set_option maxHeartbeats 2000000 in
theorem stepT_77 (K : Nat → Prop) (w : World) (m p : Nat) (acc : Int) (st : List TV) (h : MacT K w m p acc st) (s : List UInt8) (i : Nat) (hs : s.length ≤ 24) (hc0 : s[i]? = some 77) :
    Calls Try.prog 45 #[ptr m, S s, I i] w fun e w' => e = .returned (.tuple #[I 1, I (regT 77 acc st).2.2]) ∧ Tm K w m p (regT 77 acc st).1 (regT 77 acc st).2.1 w' := by
  have hz := str_size s
  have hz2 : (str s).size ≤ 24 := by omega
  have hj : i < s.length := (List.getElem?_eq_some_iff.1 hc0).1
  have hj2 : (i : Int) < (s.length : Int) := by omega
  have g0 := str_get s i _ hc0
  have hq : ∀ w, (binOp .neq 42 .nilFunc .nilFunc).run Try.prog w = .ok (.bool false) w := fun _ => by rfl
  have hr : ∀ w, (binOp .eql 92 (Fv 75) .nilFunc).run Try.prog w = .ok (.bool false) w := fun _ => by rfl
  have hw := mod_w K w m p acc st h
  go_enter Try.func45, Try.ntmps45
  go_wp2_with fail
  refine (own_M w).mono ?_
  rintro e w2 ⟨rfl, rfl⟩
  go_wp2_with fail
  refine hw.mono ?_
  rintro e w3 ⟨rfl, m2⟩
  go_wp2
  go_ret2
  exact ⟨rfl, m2⟩
set_option maxRecDepth 100000 in
set_option maxHeartbeats 2000000 in
theorem stepT_71 (K : Nat → Prop) (w : World) (m p : Nat) (acc : Int) (st : List TV) (h : MacT K w m p acc st) (s : List UInt8) (i : Nat) (hs : s.length ≤ 24) (hc0 : s[i]? = some 71) :
    Calls Try.prog 45 #[ptr m, S s, I i] w fun e w' => e = .returned (.tuple #[I 1, I (wPush (.int acc) st).2]) ∧ Tm K w m p acc (wPush (.int acc) st).1 w' := by
  have hz := str_size s
  have hz2 : (str s).size ≤ 24 := by omega
  have hj : i < s.length := (List.getElem?_eq_some_iff.1 hc0).1
  have hj2 : (i : Int) < (s.length : Int) := by omega
  have g0 := str_get s i _ hc0
  have hq : ∀ w, (binOp .neq 42 .nilFunc .nilFunc).run Try.prog w = .ok (.bool false) w := fun _ => by rfl
  have hr : ∀ w, (binOp .eql 92 (Fv 73) .nilFunc).run Try.prog w = .ok (.bool false) w := fun _ => by rfl
  have hw := get_w K w m p acc st h
  go_enter Try.func45, Try.ntmps45
  go_wp2_with fail
  refine (own_G w).mono ?_
  rintro e w2 ⟨rfl, rfl⟩
  go_wp2_with fail
  refine hw.mono ?_
  rintro e w3 ⟨rfl, m2⟩
  go_wp2
  go_ret2
  exact ⟨rfl, m2⟩
set_option maxRecDepth 100000 in
set_option maxHeartbeats 2000000 in
theorem stepT_91 (K : Nat → Prop) (w : World) (m p : Nat) (acc : Int) (st : List TV) (h : MacT K w m p acc st) (s : List UInt8) (i : Nat) (hs : s.length ≤ 24) (hc0 : s[i]? = some 91) :
    Calls Try.prog 45 #[ptr m, S s, I i] w fun e w' => e = .returned (.tuple #[I 1, I (wPush .nil st).2]) ∧ Tm K w m p acc (wPush .nil st).1 w' := by
  have hz := str_size s
  have hz2 : (str s).size ≤ 24 := by omega
  have hj : i < s.length := (List.getElem?_eq_some_iff.1 hc0).1
  have hj2 : (i : Int) < (s.length : Int) := by omega
  have g0 := str_get s i _ hc0
  have hq : ∀ w, (binOp .neq 42 .nilFunc .nilFunc).run Try.prog w = .ok (.bool false) w := fun _ => by rfl
  have d0 := h.at0.1
  have hw := pushL_w _ w p st h.st
  go_enter Try.func45, Try.ntmps45
  go_wp2_with fail
  refine hw.mono ?_
  rintro e w2 ⟨rfl, tn⟩
  have m2 := h.word tn (wPush_fine .nil st (by decide) h.ok)
  go_wp2
  go_ret2
  exact ⟨rfl, m2⟩
theorem SRep.len {K : Nat → Prop} {w : World} {p : Nat} {st : List TV} (h : SRep K w p st) : stLen w p = st.length := by
  obtain ⟨vs, ⟨a, cap, hA⟩, r⟩ := h
  unfold stLen
  rw [hA.at0.1]
  simpa using r.len
theorem depth_w (K : Nat → Prop) (w : World) (p : Nat) (st : List TV) (h : SRep K w p st) :
    Calls Try.prog 61 #[ptr p] w fun e w' => e = .returned (I st.length) ∧ w' = w := by
  obtain ⟨vs, hs, r⟩ := h
  have := depth_any K w p _ hs
  rw [List.length_reverse, r.len] at this
  exact this
set_option maxRecDepth 100000 in
set_option maxHeartbeats 2000000 in
theorem stepT_59 (K : Nat → Prop) (w : World) (m p : Nat) (acc : Int) (st : List TV) (h : MacT K w m p acc st) (s : List UInt8) (i : Nat) (hs : s.length ≤ 24) (hc0 : s[i]? = some 59) :
    Calls Try.prog 45 #[ptr m, S s, I i] w fun e w' => e = .returned (.tuple #[I 1, I 0]) ∧ Tm K w m p acc [] w' := by
  have hz := str_size s
  have hz2 : (str s).size ≤ 24 := by omega
  have hj : i < s.length := (List.getElem?_eq_some_iff.1 hc0).1
  have hj2 : (i : Int) < (s.length : Int) := by omega
  have g0 := str_get s i _ hc0
  have hq : ∀ w, (binOp .neq 42 .nilFunc .nilFunc).run Try.prog w = .ok (.bool false) w := fun _ => by rfl
  have d0 := h.at0.1
  go_enter Try.func45, Try.ntmps45
  go_wp2
  go_loopw [] (fun wr => ∃ st' : List TV, Tm K w m p acc st' wr) (fun wr => stLen wr p)
  case atStart => exact ⟨st, .refl h⟩
  case round =>
    clear d0
    obtain ⟨st', K1, mm, nn, mr, kr⟩ := hrel
    have d0 := mr.at0.1
    have hD := depth_w _ wr p _ mr.st
    cases st' with
    | nil =>
      go_wp2_with fail
      refine hD.mono ?_
      rintro e w2 ⟨rfl, rfl⟩
      go_wp2
      go_ret2
      exact ⟨rfl, K1, mm, nn, mr, kr⟩
    | cons x st' =>
      have hpos : (0 : Int) < ((x :: st').length : Int) := by simp
      have hp2 : (0 : Int) < ((st'.length : Int) + 1) := by omega
      have hX := drop_w _ wr p _ mr.st
      go_wp2_with fail
      refine hD.mono ?_
      rintro e w2 ⟨rfl, rfl⟩
      go_wp2_with fail
      refine hX.mono ?_
      rintro e w3 ⟨rfl, tn⟩
      rw [show wDrop (x :: st') = (st', 0) from rfl] at tn ⊢
      have t3 := mr.word tn mr.ok.tail
      have hl := mr.st.len
      have t4 := Tm.trans mm nn kr t3
      obtain ⟨K2, m2, n2, mt, k2⟩ := t3
      have hl3 := mt.st.len
      go_wp2
      go_roundw
      case rel => exact ⟨st', t4⟩
      case measure => rw [hl3, hl]; simp
set_option maxRecDepth 100000 in
set_option maxHeartbeats 2000000 in
theorem stepT_33 (K : Nat → Prop) (w : World) (m p : Nat) (acc : Int) (st : List TV) (h : MacT K w m p acc st) (s : List UInt8) (i : Nat) (hs : s.length ≤ 24) (hc0 : s[i]? = some 33) :
    Calls Try.prog 45 #[ptr m, S s, I i] w fun e w' => e = .returned (.tuple #[I 1, I 0]) ∧ Tm K w m p 0 [] w' := by
  have hz := str_size s
  have hz2 : (str s).size ≤ 24 := by omega
  have hj : i < s.length := (List.getElem?_eq_some_iff.1 hc0).1
  have hj2 : (i : Int) < (s.length : Int) := by omega
  have g0 := str_get s i _ hc0
  have hq : ∀ w, (binOp .neq 42 .nilFunc .nilFunc).run Try.prog w = .ok (.bool false) w := fun _ => by rfl
  have d0 := h.at0.1
  have hm := h.acc (acc' := 0) (by decide) (by decide)
  have d1 := h.at0.2.1
  have d2 := h.at0.2.2.1
  have d3 := hm.1.at0.1
  go_enter Try.func45, Try.ntmps45
  go_wp2
  go_loopw [] (fun wr => ∃ st' : List TV, Tm K w m p 0 st' wr) (fun wr => stLen wr p)
  case atStart => exact ⟨st, K, fun _ h => h, fun _ h => .inl h, hm.1, hm.2⟩
  case round =>
    clear d0 d1 d2 d3
    obtain ⟨st', K1, mm, nn, mr, kr⟩ := hrel
    have d0 := mr.at0.1
    have hD := depth_w _ wr p _ mr.st
    cases st' with
    | nil =>
      go_wp2_with fail
      refine hD.mono ?_
      rintro e w2 ⟨rfl, rfl⟩
      go_wp2
      go_ret2
      exact ⟨rfl, K1, mm, nn, mr, kr⟩
    | cons x st' =>
      have hpos : (0 : Int) < ((x :: st').length : Int) := by simp
      have hp2 : (0 : Int) < ((st'.length : Int) + 1) := by omega
      have hX := drop_w _ wr p _ mr.st
      go_wp2_with fail
      refine hD.mono ?_
      rintro e w2 ⟨rfl, rfl⟩
      go_wp2_with fail
      refine hX.mono ?_
      rintro e w3 ⟨rfl, tn⟩
      rw [show wDrop (x :: st') = (st', 0) from rfl] at tn ⊢
      have t3 := mr.word tn mr.ok.tail
      have hl := mr.st.len
      have t4 := Tm.trans mm nn kr t3
      obtain ⟨K2, m2, n2, mt, k2⟩ := t3
      have hl3 := mt.st.len
      go_wp2
      go_roundw
      case rel => exact ⟨st', t4⟩
      case measure => rw [hl3, hl]; simp
end Go.Proofs.Qxb6500470a
