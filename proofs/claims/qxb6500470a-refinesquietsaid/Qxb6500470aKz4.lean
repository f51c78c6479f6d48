import Derived.Test.Qxb6500470aKz3
namespace Go.Proofs.Qxb6500470a
open Go.RowKit
def lowN (n : Int) : Int := if 0 < n then -n else n
set_option maxHeartbeats 400000 in
theorem low_w (n : Int) (n1 : -9223372036854775808 ≤ n) (n2 : n ≤ 9223372036854775807) (w : World) : Calls Try.prog 113 #[I n] w fun e w' => e = .returned (I (lowN n)) ∧ w' = w := by
  unfold lowN
  by_cases h : 0 < n
  · rw [if_pos h]
    have r := wr64 (-n) (by omega) (by omega)
    go_enter Try.func113, Try.ntmps113
    go_wp2
    go_ret
    exact ⟨rfl, rfl⟩
  · rw [if_neg h]
    go_enter Try.func113, Try.ntmps113
    go_wp2
    go_ret
    exact ⟨rfl, rfl⟩
theorem tmod_sign (a d : Int) : (0 ≤ a → 0 ≤ a.tmod d) ∧ (a ≤ 0 → a.tmod d ≤ 0) := by
  constructor
  · intro h; exact Int.tmod_nonneg _ h
  · intro h
    have := Int.tmod_nonneg d (show 0 ≤ -a by omega)
    rw [Int.neg_tmod] at this
    omega
theorem tmod_abs (a d : Int) (hd : d ≠ 0) : (a.tmod d).natAbs < d.natAbs ∧ (a.tmod d).natAbs ≤ a.natAbs := by
  rw [Int.natAbs_tmod]
  exact ⟨Nat.mod_lt _ (by omega), Nat.mod_le _ _⟩
set_option maxRecDepth 100000 in
set_option maxHeartbeats 1000000 in
theorem rem_w (a d : Int) (hd : d ≠ 0) (a1 : -9223372036854775808 ≤ a) (a2 : a ≤ 9223372036854775807) (d1 : -9223372036854775808 ≤ d) (d2 : d ≤ 9223372036854775807) (w : World) : Calls Try.prog 97 #[I a, I d, I (a.tmod d)] w fun e w' => e = .returned (.bool true) ∧ w' = w := by
  obtain ⟨b1, b2⟩ := tmod_bounds a d hd d1 d2
  obtain ⟨s1, s2⟩ := tmod_sign a d
  obtain ⟨t1, t2⟩ := tmod_abs a d hd
  have hz : (a - a.tmod d).tmod d = 0 := by
    have := Int.tmod_add_mul_tdiv a d
    have e : a - a.tmod d = d * a.tdiv d := by omega
    rw [e, Int.mul_tmod_right]
  have hr := wr64 (a - a.tmod d) (by omega) (by omega)
  have L1 := low_w (a.tmod d) b1 b2 w
  have L2 := low_w d d1 d2 w
  have hl : ¬ lowN (a.tmod d) ≤ lowN d := by
    unfold lowN
    split <;> split <;> omega
  generalize a.tmod d = r at *
  generalize lowN r = lr at *
  generalize lowN d = ld at *
  have hw : wrap64 0 = 0 := by unfold wrap64; omega
  by_cases hr0 : r = 0
  · subst hr0
    have hz' : a.tmod d = 0 := by simpa using hz
    have hz2 : (a.tmod d == 0) = true := by simpa using hz'
    go_enter Try.func97, Try.ntmps97
    go_wp2_with fail
    refine L1.mono ?_
    rintro e w2 ⟨rfl, rfl⟩
    go_wp2_with fail
    refine L2.mono ?_
    rintro e w2 ⟨rfl, rfl⟩
    go_wp2
    go_ret
    exact ⟨rfl, rfl⟩
  · have e0 : (r != 0) = true := by simpa using hr0
    by_cases hs : r < 0
    · have ha : a < 0 := by omega
      have k1 : decide (r < 0) = true := by simpa using hs
      have k2 : decide (a < 0) = true := by simpa using ha
      go_enter Try.func97, Try.ntmps97
      go_wp2_with fail
      refine L1.mono ?_
      rintro e w2 ⟨rfl, rfl⟩
      go_wp2_with fail
      refine L2.mono ?_
      rintro e w2 ⟨rfl, rfl⟩
      go_wp2
      go_ret
      exact ⟨rfl, rfl⟩
    · have ha : ¬ a < 0 := by omega
      have k1 : decide (r < 0) = false := by simpa using hs
      have k2 : decide (a < 0) = false := by simpa using ha
      go_enter Try.func97, Try.ntmps97
      go_wp2_with fail
      refine L1.mono ?_
      rintro e w2 ⟨rfl, rfl⟩
      go_wp2_with fail
      refine L2.mono ?_
      rintro e w2 ⟨rfl, rfl⟩
      go_wp2
      go_ret
      exact ⟨rfl, rfl⟩
set_option maxRecDepth 100000 in
set_option maxHeartbeats 1000000 in
theorem moved_S (a d : Int) (w : World) : Calls Try.prog 88 #[U 83, I a, I d, I d] w fun e w' => e = .returned (.bool true) ∧ w' = w := by
  have e0 : (d == d) = true := by simp
  go_enter Try.func88, Try.ntmps88
  go_wp2
  go_ret
  exact ⟨rfl, rfl⟩
set_option maxRecDepth 100000 in
set_option maxHeartbeats 1000000 in
theorem moved_M (a d : Int) (hd : d ≠ 0) (a1 : -9223372036854775808 ≤ a) (a2 : a ≤ 9223372036854775807) (d1 : -9223372036854775808 ≤ d) (d2 : d ≤ 9223372036854775807) (w : World) : Calls Try.prog 88 #[U 77, I a, I d, I (a.tmod d)] w fun e w' => e = .returned (.bool true) ∧ w' = w := by
  have hr := rem_w a d hd a1 a2 d1 d2 w
  go_enter Try.func88, Try.ntmps88
  go_wp2_with fail
  refine hr.mono ?_
  rintro e w2 ⟨rfl, rfl⟩
  go_wp2
  go_ret
  exact ⟨rfl, rfl⟩
theorem rest_eq (a d : Int) (hd : d ≠ 0) (d1 : -9223372036854775808 ≤ d) (d2 : d ≤ 9223372036854775807) : wrap64 (a - wrap64 (wrap64 (a.tdiv d) * d)) = a.tmod d := by
  obtain ⟨b1, b2⟩ := tmod_bounds a d hd d1 d2
  have e := Int.tmod_add_mul_tdiv a d
  have h1 : ∃ k, wrap64 (a.tdiv d) = a.tdiv d + 18446744073709551616 * k := ⟨(wrap64 (a.tdiv d) - a.tdiv d) / 18446744073709551616, by unfold wrap64; omega⟩
  obtain ⟨k, hk⟩ := h1
  have h2 : ∃ k, wrap64 (wrap64 (a.tdiv d) * d) = wrap64 (a.tdiv d) * d + 18446744073709551616 * k := ⟨(wrap64 (wrap64 (a.tdiv d) * d) - wrap64 (a.tdiv d) * d) / 18446744073709551616, by unfold wrap64; omega⟩
  obtain ⟨k2, hk2⟩ := h2
  have h3 : a - wrap64 (wrap64 (a.tdiv d) * d) = a.tmod d + 18446744073709551616 * (-(k * d) - k2) := by
    rw [hk2, hk, Int.add_mul, Int.mul_sub, Int.mul_neg, Int.mul_assoc 18446744073709551616 k d, Int.mul_comm (a.tdiv d) d]
    omega
  rw [h3]
  unfold wrap64
  omega
set_option maxRecDepth 100000 in
set_option maxHeartbeats 1000000 in
theorem moved_D (a d : Int) (hd : d ≠ 0) (a1 : -9223372036854775808 ≤ a) (a2 : a ≤ 9223372036854775807) (d1 : -9223372036854775808 ≤ d) (d2 : d ≤ 9223372036854775807) (w : World) : Calls Try.prog 88 #[U 68, I a, I d, I (wrap64 (a.tdiv d))] w fun e w' => e = .returned (.bool true) ∧ w' = w := by
  have hr := rem_w a d hd a1 a2 d1 d2 w
  have he := rest_eq a d hd d1 d2
  have hd0 : ¬ d = 0 := hd
  go_enter Try.func88, Try.ntmps88
  go_wp2_with fail
  refine hr.mono ?_
  rintro e w2 ⟨rfl, rfl⟩
  go_wp2
  go_ret
  exact ⟨rfl, rfl⟩
set_option maxRecDepth 100000 in
set_option maxHeartbeats 1000000 in
theorem acc_w {L : Nat → Prop} {w : World} {m2 p2 p3 : Nat} {acc : Int} {st sz : List TV} (h : YZ L w m2 p2 p3 acc st sz) (h5 : st.length < 5) :
    Calls Try.prog 87 #[ptr m2, yv p2] w fun e w' => e = .returned (.tuple #[I acc, .bool true]) ∧ YZ L w' m2 p2 p3 acc st sz ∧ Kp L w w' := by
  have b1 : Below w.heap.size w (w.alloc (.cells #[ptr p2] 31)) := (Below.refl _ _).alloc (Nat.le_refl _) _
  have bb : Blk (w.alloc (.cells #[ptr p2] 31)) w.heap.size #[ptr p2] 31 := Blk.new rfl
  have lt := h.lt
  have h1 := h.grow (q := w.heap.size) b1 (Nat.le_refl _) (by simp)
  have R1 := yz_run h1 [71] (by simp) (1, 0, acc, .int acc :: st) (by
    show runT 30 [71] 0 acc st = _
    have e : stepT 71 [71] 0 acc st = (1, 0, acc, .int acc :: st) := by
      show oneT acc (wPush (.int acc) st) = _
      simp [oneT, wPush, h5]
    simp [runT, e])
  unfold yv
  go_enter Try.func87, Try.ntmps87
  go_wp2_with fail
  refine R1.mono ?_
  rintro e w2 ⟨rfl, y2, k2⟩
  have bb2 : Blk w2 w.heap.size #[ptr p2] 31 := bb.kept k2 (.inl (.inr rfl))
  have c2 := bb2.cell 0
  obtain ⟨K, mt, -⟩ := y2.turnY
  have R2 := top_w _ w2 p2 _ mt.st
  rw [show topT (.int acc :: st) = (acc, 0) from rfl] at R2
  go_wp2_with fail
  refine R2.mono ?_
  rintro e w3 ⟨rfl, b3⟩
  have y3 := y2.later b3
  have R3 := yz_run y3 [120] (by simp) (1, 0, acc, st) (by
    show runT 30 [120] 0 acc (.int acc :: st) = _
    have e : stepT 120 [120] 0 acc (.int acc :: st) = (1, 0, acc, st) := rfl
    simp [runT, e])
  go_wp2_with fail
  refine R3.mono ?_
  rintro e w4 ⟨rfl, y4, k4⟩
  go_wp2
  go_ret2
  refine ⟨rfl, y4.weak (fun _ h => .inl h), ?_⟩
  exact (Kp.of_below b1 lt).trans (((k2.trans (.of_below b3 y2.lt)).trans k4).weak (fun _ h => .inl h))
end Go.Proofs.Qxb6500470a
