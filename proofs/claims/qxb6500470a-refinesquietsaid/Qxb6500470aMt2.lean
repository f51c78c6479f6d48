import Derived.Test.Qxb6500470aMt1
namespace Go.Proofs.Qxb6500470a
open Go.RowKit
set_option maxRecDepth 100000 in
set_option maxHeartbeats 1000000 in
theorem set_bad (K : Nat → Prop) (w : World) (m p : Nat) (acc : Int) (st : List TV) (h : MacT K w m p acc st) (ht : (topT st).2 ≠ 0) :
    Calls Try.prog 72 #[ptr m] w fun e w' => e = .returned (I (topT st).2) ∧ w' = w := by
  obtain ⟨c0, c1, f1, lm⟩ := h.at0
  have hT := topInt_w _ w p st h.st
  have e0 : ((topT st).2 != 0) = true := by simpa using ht
  generalize topT st = T at *
  obtain ⟨a, b⟩ := T
  dsimp only at *
  go_enter Try.func72, Try.ntmps72
  go_wp2_with fail
  refine hT.mono ?_
  rintro e w1 ⟨rfl, rfl⟩
  go_wp2
  go_ret
  exact ⟨rfl, rfl⟩
set_option maxRecDepth 100000 in
set_option maxHeartbeats 1000000 in
theorem set_ok (K : Nat → Prop) (w : World) (m p : Nat) (acc n : Int) (st : List TV) (h : MacT K w m p acc (.int n :: st)) :
    Calls Try.prog 72 #[ptr m] w fun e w' => e = .returned (I 0) ∧ Tm K w m p n st w' := by
  obtain ⟨c0, c1, f1, lm⟩ := h.at0
  obtain ⟨n1, n2⟩ := h.st.topB
  have hT := topInt_w _ w p _ h.st
  have hm := h.acc (acc' := n) n1 n2
  have d0 := hm.1.at0.1
  have hD := drop_w _ _ p _ hm.1.st
  go_enter Try.func72, Try.ntmps72
  go_wp2_with fail
  refine hT.mono ?_
  rintro e w1 ⟨rfl, rfl⟩
  rw [show topT (.int n :: st) = (n, 0) from rfl]
  go_wp2_with fail
  refine hD.mono ?_
  rintro e w2 ⟨rfl, tn⟩
  rw [show wDrop (.int n :: st) = (st, 0) from rfl] at tn ⊢
  have m2 := hm.1.word tn h.ok.tail
  go_wp2
  go_ret
  exact ⟨rfl, .trans (fun _ h => h) (fun _ h => .inl h) hm.2 m2⟩
theorem set_w (K : Nat → Prop) (w : World) (m p : Nat) (acc : Int) (st : List TV) (h : MacT K w m p acc st) :
    Calls Try.prog 72 #[ptr m] w fun e w' => e = .returned (I (regT 83 acc st).2.2) ∧ Tm K w m p (regT 83 acc st).1 (regT 83 acc st).2.1 w' := by
  by_cases ht : (topT st).2 = 0
  · obtain ⟨n, r, rfl, e⟩ := topT_zero ht
    exact set_ok K w m p acc n r h
  · have e : regT 83 acc st = (acc, st, (topT st).2) := by simp [regT, ht]
    rw [e]
    refine (set_bad K w m p acc st h ht).mono ?_
    rintro e w' ⟨rfl, rfl⟩
    exact ⟨rfl, .refl h⟩
set_option maxRecDepth 100000 in
set_option maxHeartbeats 1000000 in
theorem div_bad (K : Nat → Prop) (w : World) (m p : Nat) (acc : Int) (st : List TV) (h : MacT K w m p acc st) (ht : (topT st).2 ≠ 0) :
    Calls Try.prog 74 #[ptr m] w fun e w' => e = .returned (I (topT st).2) ∧ w' = w := by
  obtain ⟨c0, c1, f1, lm⟩ := h.at0
  have hT := topInt_w _ w p st h.st
  have e0 : ((topT st).2 != 0) = true := by simpa using ht
  generalize topT st = T at *
  obtain ⟨a, b⟩ := T
  dsimp only at *
  go_enter Try.func74, Try.ntmps74
  go_wp2_with fail
  refine hT.mono ?_
  rintro e w1 ⟨rfl, rfl⟩
  go_wp2
  go_ret
  exact ⟨rfl, rfl⟩
set_option maxRecDepth 100000 in
set_option maxHeartbeats 1000000 in
theorem div_zeroT (K : Nat → Prop) (w : World) (m p : Nat) (acc : Int) (st : List TV) (h : MacT K w m p acc (.int 0 :: st)) :
    Calls Try.prog 74 #[ptr m] w fun e w' => e = .returned (I 10) ∧ w' = w := by
  obtain ⟨c0, c1, f1, lm⟩ := h.at0
  have hT := topInt_w _ w p _ h.st
  go_enter Try.func74, Try.ntmps74
  go_wp2_with fail
  refine hT.mono ?_
  rintro e w1 ⟨rfl, rfl⟩
  rw [show topT (.int 0 :: st) = (0, 0) from rfl]
  go_wp2
  go_ret
  exact ⟨rfl, rfl⟩
set_option maxRecDepth 100000 in
set_option maxHeartbeats 1000000 in
theorem div_ok (K : Nat → Prop) (w : World) (m p : Nat) (acc n : Int) (st : List TV) (h : MacT K w m p acc (.int n :: st)) (hn : n ≠ 0) :
    Calls Try.prog 74 #[ptr m] w fun e w' => e = .returned (I 0) ∧ Tm K w m p (wrap64 (acc.tdiv n)) st w' := by
  obtain ⟨c0, c1, f1, lm⟩ := h.at0
  obtain ⟨n1, n2⟩ := h.st.topB
  have hT := topInt_w _ w p _ h.st
  have hm := h.acc (w64_bounds (acc.tdiv n)).1 (w64_bounds (acc.tdiv n)).2
  have d0 := hm.1.at0.1
  have hn0 : (n == 0) = false := by simpa using hn
  have hD := drop_w _ _ p _ hm.1.st
  go_enter Try.func74, Try.ntmps74
  go_wp2_with fail
  refine hT.mono ?_
  rintro e w1 ⟨rfl, rfl⟩
  rw [show topT (.int n :: st) = (n, 0) from rfl]
  go_wp2_with fail
  refine hD.mono ?_
  rintro e w2 ⟨rfl, tn⟩
  rw [show wDrop (.int n :: st) = (st, 0) from rfl] at tn ⊢
  have m2 := hm.1.word tn h.ok.tail
  go_wp2
  go_ret
  exact ⟨rfl, .trans (fun _ h => h) (fun _ h => .inl h) hm.2 m2⟩
theorem div_w (K : Nat → Prop) (w : World) (m p : Nat) (acc : Int) (st : List TV) (h : MacT K w m p acc st) :
    Calls Try.prog 74 #[ptr m] w fun e w' => e = .returned (I (regT 68 acc st).2.2) ∧ Tm K w m p (regT 68 acc st).1 (regT 68 acc st).2.1 w' := by
  by_cases ht : (topT st).2 = 0
  · obtain ⟨n, r, rfl, e⟩ := topT_zero ht
    by_cases hn : n = 0
    · subst hn
      refine (div_zeroT K w m p acc r h).mono ?_
      rintro e w' ⟨rfl, rfl⟩
      exact ⟨rfl, .refl h⟩
    · have e : regT 68 acc (.int n :: r) = ((wrap64 (acc.tdiv n)), r, 0) := by simp [regT, topT, hn]
      rw [e]
      exact div_ok K w m p acc n r h hn
  · have e : regT 68 acc st = (acc, st, (topT st).2) := by simp [regT, ht]
    rw [e]
    refine (div_bad K w m p acc st h ht).mono ?_
    rintro e w' ⟨rfl, rfl⟩
    exact ⟨rfl, .refl h⟩
set_option maxRecDepth 100000 in
set_option maxHeartbeats 1000000 in
theorem mod_bad (K : Nat → Prop) (w : World) (m p : Nat) (acc : Int) (st : List TV) (h : MacT K w m p acc st) (ht : (topT st).2 ≠ 0) :
    Calls Try.prog 75 #[ptr m] w fun e w' => e = .returned (I (topT st).2) ∧ w' = w := by
  obtain ⟨c0, c1, f1, lm⟩ := h.at0
  have hT := topInt_w _ w p st h.st
  have e0 : ((topT st).2 != 0) = true := by simpa using ht
  generalize topT st = T at *
  obtain ⟨a, b⟩ := T
  dsimp only at *
  go_enter Try.func75, Try.ntmps75
  go_wp2_with fail
  refine hT.mono ?_
  rintro e w1 ⟨rfl, rfl⟩
  go_wp2
  go_ret
  exact ⟨rfl, rfl⟩
set_option maxRecDepth 100000 in
set_option maxHeartbeats 1000000 in
theorem mod_zeroT (K : Nat → Prop) (w : World) (m p : Nat) (acc : Int) (st : List TV) (h : MacT K w m p acc (.int 0 :: st)) :
    Calls Try.prog 75 #[ptr m] w fun e w' => e = .returned (I 10) ∧ w' = w := by
  obtain ⟨c0, c1, f1, lm⟩ := h.at0
  have hT := topInt_w _ w p _ h.st
  go_enter Try.func75, Try.ntmps75
  go_wp2_with fail
  refine hT.mono ?_
  rintro e w1 ⟨rfl, rfl⟩
  rw [show topT (.int 0 :: st) = (0, 0) from rfl]
  go_wp2
  go_ret
  exact ⟨rfl, rfl⟩
set_option maxRecDepth 100000 in
set_option maxHeartbeats 1000000 in
theorem mod_ok (K : Nat → Prop) (w : World) (m p : Nat) (acc n : Int) (st : List TV) (h : MacT K w m p acc (.int n :: st)) (hn : n ≠ 0) :
    Calls Try.prog 75 #[ptr m] w fun e w' => e = .returned (I 0) ∧ Tm K w m p (acc.tmod n) st w' := by
  obtain ⟨c0, c1, f1, lm⟩ := h.at0
  obtain ⟨n1, n2⟩ := h.st.topB
  have hT := topInt_w _ w p _ h.st
  have hm := h.acc (tmod_bounds acc n hn n1 n2).1 (tmod_bounds acc n hn n1 n2).2
  have d0 := hm.1.at0.1
  have hn0 : (n == 0) = false := by simpa using hn
  have hD := drop_w _ _ p _ hm.1.st
  go_enter Try.func75, Try.ntmps75
  go_wp2_with fail
  refine hT.mono ?_
  rintro e w1 ⟨rfl, rfl⟩
  rw [show topT (.int n :: st) = (n, 0) from rfl]
  go_wp2_with fail
  refine hD.mono ?_
  rintro e w2 ⟨rfl, tn⟩
  rw [show wDrop (.int n :: st) = (st, 0) from rfl] at tn ⊢
  have m2 := hm.1.word tn h.ok.tail
  go_wp2
  go_ret
  exact ⟨rfl, .trans (fun _ h => h) (fun _ h => .inl h) hm.2 m2⟩
theorem mod_w (K : Nat → Prop) (w : World) (m p : Nat) (acc : Int) (st : List TV) (h : MacT K w m p acc st) :
    Calls Try.prog 75 #[ptr m] w fun e w' => e = .returned (I (regT 77 acc st).2.2) ∧ Tm K w m p (regT 77 acc st).1 (regT 77 acc st).2.1 w' := by
  by_cases ht : (topT st).2 = 0
  · obtain ⟨n, r, rfl, e⟩ := topT_zero ht
    by_cases hn : n = 0
    · subst hn
      refine (mod_zeroT K w m p acc r h).mono ?_
      rintro e w' ⟨rfl, rfl⟩
      exact ⟨rfl, .refl h⟩
    · have e : regT 77 acc (.int n :: r) = ((acc.tmod n), r, 0) := by simp [regT, topT, hn]
      rw [e]
      exact mod_ok K w m p acc n r h hn
  · have e : regT 77 acc st = (acc, st, (topT st).2) := by simp [regT, ht]
    rw [e]
    refine (mod_bad K w m p acc st h ht).mono ?_
    rintro e w' ⟨rfl, rfl⟩
    exact ⟨rfl, .refl h⟩
set_option maxRecDepth 100000 in
set_option maxHeartbeats 1000000 in
theorem get_w (K : Nat → Prop) (w : World) (m p : Nat) (acc : Int) (st : List TV) (h : MacT K w m p acc st) :
    Calls Try.prog 73 #[ptr m] w fun e w' => e = .returned (I (wPush (.int acc) st).2) ∧ Tm K w m p acc (wPush (.int acc) st).1 w' := by
  obtain ⟨c0, c1, f1, lm⟩ := h.at0
  have hf := wPush_fine (.int acc) st (int_fine _ h.a1 h.a2) h.ok
  go_enter Try.func73, Try.ntmps73
  go_wp2_with fail
  go_region_held3 (fun W => W.cell? ⟨m, 0, none⟩ = some (ptr p) ∧ W.cell? ⟨m, 1, none⟩ = some (I acc)) (go_keep) (first | (go_at_call 62; refine (pushI_w _ _ p _ (by first | exact h.st | exact (h.drewN 1).st) acc h.a1 h.a2).mono ?_; rintro e w2 ⟨rfl, tn⟩; obtain ⟨K2, mm, nn, mt, kk⟩ := (h.drewN 1).word tn hf; have q0 := mt.at0.1; have q1 := mt.at0.2.1))
  go_wp2
  go_ret
  exact ⟨rfl, .trans (fun _ h => h) (fun _ h => .inl h) ((Kept.refl K w).drewN 1) ⟨K2, mm, nn, mt, kk⟩⟩
end Go.Proofs.Qxb6500470a
