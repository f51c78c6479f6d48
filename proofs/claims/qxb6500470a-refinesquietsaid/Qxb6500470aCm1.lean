import Derived.Test.Qxb6500470aVmv
namespace Go.Proofs.Qxb6500470a
open Go.RowKit
theorem MT.topB {K : Nat → Prop} {w : World} {p : Nat} {n : Int} {st : List TV} (h : MT K w p (.int n :: st)) : -9223372036854775808 ≤ n ∧ n ≤ 9223372036854775807 := by
  obtain ⟨g, cap, c0, c1, c2, c3, -, -, -, -, -, -, -, -, -, -, -, hm⟩ := h.val st.length 0 (by simp)
  have hm : MR K w (.int n) c0 c1 c2 c3 := hm
  exact hm.open.2.2.2.1
set_option maxRecDepth 100000 in
set_option maxHeartbeats 4000000 in
theorem vmNew_any (w : World) : Calls Try.prog 68 #[] w fun e w' => e = .returned (ptr w.heap.size) ∧ MT (· < w.heap.size) w' w.heap.size [] ∧ Below w.heap.size w w' := by
  go_enter Try.func68, Try.ntmps68
  go_wp2
  go_ret
  exact ⟨rfl, ⟨none, 0, [], Blk.new rfl, World.ownsRow_nil _ _ _ _, rfl, by simp [blk?], by simp, by simp [blk?], by simp; omega, by simp⟩, (Below.refl _ _).alloc (Nat.le_refl _) _⟩
theorem fine0 : Fine [] := fun x hx => by cases hx
set_option maxRecDepth 100000 in
set_option maxHeartbeats 4000000 in
theorem cmNew_any (w : World) : Calls Try.prog 50 #[] w fun e w' => ∃ m p, e = .returned (ptr m) ∧ MacM (· < w.heap.size) w' m p 0 [] ∧ Below w.heap.size w w' := by
  go_enter Try.func50, Try.ntmps50
  go_wp2_with fail
  refine (vmNew_any w).mono ?_
  rintro e w1 ⟨rfl, t1, b1⟩
  go_wp2
  go_ret
  have hs := b1.size
  have hl : w.heap.size < w1.heap.size := by obtain ⟨a, cap, h0, -, h2⟩ := t1.head; exact h2
  have b2 := (Below.refl w1.heap.size w1).alloc (Nat.le_refl _) (.cells #[ptr w.heap.size, I 0] 103)
  refine ⟨_, w.heap.size, rfl, ⟨Blk.new rfl, t1.grow b2 (Nat.le_refl _) (by simp), fun e => by omega, fine0, by omega, by omega⟩, b1.trans (b2.mono hs)⟩
set_option maxRecDepth 100000 in
set_option maxHeartbeats 4000000 in
theorem reg_bad (K : Nat → Prop) (w : World) (m p : Nat) (acc : Int) (st : List TV) (h : MacM K w m p acc st) (c : Int) (ht : (topT st).2 ≠ 0) :
    Calls Try.prog 112 #[ptr m, .int .u8 c] w fun e w' => e = .returned (I (topT st).2) ∧ w' = w := by
  obtain ⟨c0, c1, f0, f1, lm⟩ := h.at0
  have hT := mTop_w _ w p st h.st
  have e0 : ((topT st).2 != 0) = true := by simpa using ht
  have e1 : ((topT st).2 == 0) = false := by simpa using ht
  generalize topT st = tt at *
  go_enter Try.func112, Try.ntmps112
  go_wp2_with fail
  refine hT.mono ?_
  rintro e w1 ⟨rfl, rfl⟩
  go_wp2
  go_ret
  exact ⟨rfl, rfl⟩
set_option maxRecDepth 100000 in
set_option maxHeartbeats 4000000 in
theorem reg_zero68 (K : Nat → Prop) (w : World) (m p : Nat) (acc : Int) (st : List TV) (h : MacM K w m p acc (.int 0 :: st)) :
    Calls Try.prog 112 #[ptr m, U 68] w fun e w' => e = .returned (I 10) ∧ w' = w := by
  obtain ⟨c0, c1, f0, f1, lm⟩ := h.at0
  have hT := mTop_w _ w p _ h.st
  go_enter Try.func112, Try.ntmps112
  go_wp2_with fail
  refine hT.mono ?_
  rintro e w1 ⟨rfl, rfl⟩
  rw [show topT (.int 0 :: st) = (0, 0) from rfl]
  go_wp2
  go_ret
  exact ⟨rfl, rfl⟩
set_option maxRecDepth 100000 in
set_option maxHeartbeats 4000000 in
theorem reg_zero77 (K : Nat → Prop) (w : World) (m p : Nat) (acc : Int) (st : List TV) (h : MacM K w m p acc (.int 0 :: st)) :
    Calls Try.prog 112 #[ptr m, U 77] w fun e w' => e = .returned (I 10) ∧ w' = w := by
  obtain ⟨c0, c1, f0, f1, lm⟩ := h.at0
  have hT := mTop_w _ w p _ h.st
  go_enter Try.func112, Try.ntmps112
  go_wp2_with fail
  refine hT.mono ?_
  rintro e w1 ⟨rfl, rfl⟩
  rw [show topT (.int 0 :: st) = (0, 0) from rfl]
  go_wp2
  go_ret
  exact ⟨rfl, rfl⟩
set_option maxRecDepth 100000 in
set_option maxHeartbeats 4000000 in
theorem reg_ok83 (K : Nat → Prop) (w : World) (m p : Nat) (acc n : Int) (st : List TV) (h : MacM K w m p acc (.int n :: st)) :
    Calls Try.prog 112 #[ptr m, U 83] w fun e w' => e = .returned (I 0) ∧ TmM K w m (n) st w' := by
  obtain ⟨c0, c1, f0, f1, lm⟩ := h.at0
  obtain ⟨n1, n2⟩ := h.st.topB
  have hT := mTop_w _ w p _ h.st
  have hm := h.acc (acc' := n) n1 n2
  have d0 := hm.1.at0.1
  have hD := mDrop_w _ _ p _ hm.1.st
  go_enter Try.func112, Try.ntmps112
  go_wp2_with fail
  refine hT.mono ?_
  rintro e w1 ⟨rfl, rfl⟩
  rw [show topT (.int n :: st) = (n, 0) from rfl]
  go_wp2_with fail
  refine hD.mono ?_
  rintro e w2 ⟨rfl, tn⟩
  rw [show wDrop (.int n :: st) = (st, 0) from rfl] at tn ⊢
  have m2 := hm.1.word tn h.ok.tail
  go_wp2
  go_ret
  exact ⟨rfl, .trans (fun _ h => h) (fun _ h => .inl h) hm.2 m2⟩
set_option maxRecDepth 100000 in
set_option maxHeartbeats 4000000 in
theorem reg_ok68 (K : Nat → Prop) (w : World) (m p : Nat) (acc n : Int) (st : List TV) (h : MacM K w m p acc (.int n :: st)) (hn : n ≠ 0) :
    Calls Try.prog 112 #[ptr m, U 68] w fun e w' => e = .returned (I 0) ∧ TmM K w m (wrap64 (acc.tdiv n)) st w' := by
  obtain ⟨c0, c1, f0, f1, lm⟩ := h.at0
  obtain ⟨n1, n2⟩ := h.st.topB
  obtain ⟨z1, z2⟩ := w64_bounds (acc.tdiv n)
  have hT := mTop_w _ w p _ h.st
  have hm := h.acc (acc' := wrap64 (acc.tdiv n)) z1 z2
  have d0 := hm.1.at0.1
  have hD := mDrop_w _ _ p _ hm.1.st
  have hn0 : ¬ n = 0 := hn
  have hn1 : (n == 0) = false := by simpa using hn
  go_enter Try.func112, Try.ntmps112
  go_wp2_with fail
  refine hT.mono ?_
  rintro e w1 ⟨rfl, rfl⟩
  rw [show topT (.int n :: st) = (n, 0) from rfl]
  go_wp2_with fail
  refine hD.mono ?_
  rintro e w2 ⟨rfl, tn⟩
  rw [show wDrop (.int n :: st) = (st, 0) from rfl] at tn ⊢
  have m2 := hm.1.word tn h.ok.tail
  go_wp2
  go_ret
  exact ⟨rfl, .trans (fun _ h => h) (fun _ h => .inl h) hm.2 m2⟩
set_option maxRecDepth 100000 in
set_option maxHeartbeats 4000000 in
theorem reg_ok77 (K : Nat → Prop) (w : World) (m p : Nat) (acc n : Int) (st : List TV) (h : MacM K w m p acc (.int n :: st)) (hn : n ≠ 0) :
    Calls Try.prog 112 #[ptr m, U 77] w fun e w' => e = .returned (I 0) ∧ TmM K w m (acc.tmod n) st w' := by
  obtain ⟨c0, c1, f0, f1, lm⟩ := h.at0
  obtain ⟨n1, n2⟩ := h.st.topB
  obtain ⟨z1, z2⟩ := tmod_bounds acc n hn n1 n2
  have hT := mTop_w _ w p _ h.st
  have hm := h.acc (acc' := acc.tmod n) z1 z2
  have d0 := hm.1.at0.1
  have hD := mDrop_w _ _ p _ hm.1.st
  have hn0 : ¬ n = 0 := hn
  have hn1 : (n == 0) = false := by simpa using hn
  go_enter Try.func112, Try.ntmps112
  go_wp2_with fail
  refine hT.mono ?_
  rintro e w1 ⟨rfl, rfl⟩
  rw [show topT (.int n :: st) = (n, 0) from rfl]
  go_wp2_with fail
  refine hD.mono ?_
  rintro e w2 ⟨rfl, tn⟩
  rw [show wDrop (.int n :: st) = (st, 0) from rfl] at tn ⊢
  have m2 := hm.1.word tn h.ok.tail
  go_wp2
  go_ret
  exact ⟨rfl, .trans (fun _ h => h) (fun _ h => .inl h) hm.2 m2⟩
theorem reg_w (K : Nat → Prop) (w : World) (m p : Nat) (acc : Int) (st : List TV) (h : MacM K w m p acc st) (c : UInt8) (hc : c = 83 ∨ c = 68 ∨ c = 77) :
    Calls Try.prog 112 #[ptr m, .int .u8 (c.toNat : Int)] w fun e w' => e = .returned (I (regT c acc st).2.2) ∧ TmM K w m (regT c acc st).1 (regT c acc st).2.1 w' := by
  by_cases ht : (topT st).2 = 0
  · obtain ⟨n, r, rfl, e⟩ := topT_zero ht
    rcases hc with rfl | rfl | rfl
    · exact reg_ok83 K w m p acc n r h
    · by_cases hn : n = 0
      · subst hn
        refine (reg_zero68 K w m p acc r h).mono ?_
        rintro e w' ⟨rfl, rfl⟩
        exact ⟨rfl, .refl h⟩
      · have e : regT 68 acc (.int n :: r) = (wrap64 (acc.tdiv n), r, 0) := by simp [regT, topT, hn]
        rw [e]
        exact reg_ok68 K w m p acc n r h hn
    · by_cases hn : n = 0
      · subst hn
        refine (reg_zero77 K w m p acc r h).mono ?_
        rintro e w' ⟨rfl, rfl⟩
        exact ⟨rfl, .refl h⟩
      · have e : regT 77 acc (.int n :: r) = (acc.tmod n, r, 0) := by simp [regT, topT, hn]
        rw [e]
        exact reg_ok77 K w m p acc n r h hn
  · have e : regT c acc st = (acc, st, (topT st).2) := by simp [regT, ht]
    rw [e]
    refine (reg_bad K w m p acc st h _ ht).mono ?_
    rintro e w' ⟨rfl, rfl⟩
    exact ⟨rfl, .refl h⟩
end Go.Proofs.Qxb6500470a
