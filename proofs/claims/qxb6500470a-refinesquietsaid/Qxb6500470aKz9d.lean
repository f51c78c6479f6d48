import Derived.Test.Qxb6500470aKz8
import Derived.Deep.RegionHeld3
namespace Go.Proofs.Qxb6500470a
open Go.RowKit
set_option maxRecDepth 100000 in
set_option maxHeartbeats 8000000 in
theorem held_A35 {L : Nat → Prop} {w : World} {m2 p2 p3 : Nat} {acc : Int} {st : List TV} (h : YZ L w m2 p2 p3 acc st st) (s : List UInt8) (hs : s.length < 24) (hw : wdL s = s.length) (E : Int) (hE : E ≠ 0) (hR : runAllT (35 :: s) acc st = (0, E, acc, st)) (hlit : (litL s).isSome = false) (hO : owesT 35 false (topT st).1 (topT st).2 = E) :
    Calls Try.prog 67 #[ptr m2, yv p2, yv p3, I acc, S (35 :: s)] w (HP L w m2 p2 p3 E acc st) := by
  obtain ⟨L', H⟩ := HB.start h
  obtain ⟨f1, f2, a1, a2⟩ := H.fine
  have g0 : ∀ h, ((str (35 :: s))[0]'h).toNat = 35 := str_get (35 :: s) 0 35 rfl
  have hz : (str (35 :: s)).size = s.length + 1 := by rw [str_size]; simp
  have hOw : ∀ W, Calls Try.prog 84 #[U 35, .bool false, I (topT st).1, I (topT st).2] W fun e w' => e = .returned (I E) ∧ w' = W := by
    intro W
    have := owes_w 35 false (topT st).1 (topT st).2 W
    rw [hO] at this
    exact this
  have hsr := str_tl 35 s hs
  have hrun : ∀ W, HB L L' w W w.heap.size (w.heap.size + 1) m2 p2 p3 acc st st → Calls Try.prog 30 #[ptr m2, S (35 :: s)] W fun e w' => e = .returned (.tuple #[I (0 : Nat), I E]) ∧ HB L L' w w' w.heap.size (w.heap.size + 1) m2 p2 p3 acc st st := fun W hW => hb_run hW _ (by simp; omega) _ _ _ _ hR
  have e1 : (E == 0) = false := by simpa using hE
  have e2 : (E != 0) = true := by simpa using hE
  have hLi := lit_w2 s hs hw
  rw [hlit] at hLi
  have hsz : ((str (35 :: s)).size : Int) = ((s.length + 1 : Nat) : Int) := by rw [hz]
  have hN24 : s.length + 1 ≤ 24 := by omega
  have hN0 : 0 < s.length + 1 := by omega
  clear hR hO hlit hw hE
  generalize (35 :: s) = t at *
  generalize s.length + 1 = N at *
  unfold yv at *
  go_enter Try.func67, Try.ntmps67
  obtain ⟨c1, c2⟩ := H.cells
  go_wp2_with fail
  refine (hb_shownY H).mono ?_
  rintro e w1 ⟨rfl, H1⟩
  clear H c1 c2
  obtain ⟨c1, c2⟩ := H1.cells
  go_wp2_with fail
  refine (hb_top H1).mono ?_
  rintro e w2 ⟨rfl, H2⟩
  clear H1 c1 c2
  obtain ⟨c1, c2⟩ := H2.cells
  go_wp2_with fail
  refine (hrun _ H2).mono ?_
  rintro e w3 ⟨rfl, H3⟩
  clear H2 c1 c2 hrun
  obtain ⟨c1, c2⟩ := H3.cells
  go_wp2_with fail
  refine (hb_shownY H3).mono ?_
  rintro e w4 ⟨rfl, H4⟩
  clear H3 c1 c2
  obtain ⟨c1, c2⟩ := H4.cells
  go_wp2_with fail
  refine (hLi _).mono ?_
  rintro e w5 ⟨v, rfl, hv, v1, v2, rfl⟩
  go_wp2_with fail
  refine (hOw _).mono ?_
  rintro e w5 ⟨rfl, rfl⟩
  go_wp2_with fail
  refine (hb_shownZ H4).mono ?_
  rintro e w10 ⟨rfl, H10⟩
  clear H4 c1 c2
  obtain ⟨c1, c2⟩ := H10.cells
  go_wp2_with fail
  refine (hb_show H10).mono ?_
  rintro e w11 ⟨rfl, H11⟩
  clear H10 c1 c2
  go_wp2_with fail
  refine (hb_itoa H11).mono ?_
  rintro e w12 ⟨rfl, H12⟩
  have hm := mac_eq acc st
  have hl1 := itoa_len acc H12.fine.2.2.1 H12.fine.2.2.2
  rw [← str_size] at hl1
  have hl2 := stText_len st H12.fine.1 H12.len.1
  rw [← str_size] at hl2
  go_wp2
  exact bodyPost_ret (v := .tuple #[I E, I acc, .bool true]) (by simp [results, Try.results67, go_sem]) rfl ⟨rfl, H12.done.1, H12.done.2⟩
set_option maxRecDepth 100000 in
set_option maxHeartbeats 8000000 in
theorem held_C0 {L : Nat → Prop} {w : World} {m2 p2 p3 : Nat} {acc : Int} {st : List TV} (h : YZ L w m2 p2 p3 acc st st) (s : List UInt8) (hs : s.length < 24) (hw : wdL s = s.length) (ST : List TV) (hR : runAllT (35 :: s) acc st = ((s.length + 1), 0, acc, ST)) (hlit : (litL s).isSome = true) (hO : owesT 35 true (topT st).1 (topT st).2 = 0) (hP : ∀ v, (∀ q, litL s = some q → v = q.2) → playT 35 v s st = (ST, 0)) :
    Calls Try.prog 67 #[ptr m2, yv p2, yv p3, I acc, S (35 :: s)] w (HP L w m2 p2 p3 0 acc ST) := by
  obtain ⟨L', H⟩ := HB.start h
  obtain ⟨f1, f2, a1, a2⟩ := H.fine
  have g0 : ∀ h, ((str (35 :: s))[0]'h).toNat = 35 := str_get (35 :: s) 0 35 rfl
  have hz : (str (35 :: s)).size = s.length + 1 := by rw [str_size]; simp
  have hOw : ∀ W, Calls Try.prog 84 #[U 35, .bool true, I (topT st).1, I (topT st).2] W fun e w' => e = .returned (I 0) ∧ w' = W := by
    intro W
    have := owes_w 35 true (topT st).1 (topT st).2 W
    rw [hO] at this
    exact this
  have hsr := str_tl 35 s hs
  have hrun : ∀ W, HB L L' w W w.heap.size (w.heap.size + 1) m2 p2 p3 acc st st → Calls Try.prog 30 #[ptr m2, S (35 :: s)] W fun e w' => e = .returned (.tuple #[I ((s.length + 1) : Nat), I 0]) ∧ HB L L' w w' w.heap.size (w.heap.size + 1) m2 p2 p3 acc ST st := fun W hW => hb_run hW _ (by simp; omega) _ _ _ _ hR
  have hPl : ∀ v, (∀ q, litL s = some q → v = q.2) → -9223372036854775808 ≤ v → v ≤ 9223372036854775807 → ∀ W, HB L L' w W w.heap.size (w.heap.size + 1) m2 p2 p3 acc ST st → Calls Try.prog 85 #[yv p3, U 35, I v, S s] W fun e w' => e = .returned (I 0) ∧ HB L L' w w' w.heap.size (w.heap.size + 1) m2 p2 p3 acc ST ST :=
    fun v hv v1 v2 W hW => hb_play hW 35 v s _ _ _ hO (by decide) (by decide) (by decide) v1 v2 (fun e => by cases e) _ _ hW.fine.1 (hP v hv)
  have hLi := lit_w2 s hs hw
  rw [hlit] at hLi
  have hsz : ((str (35 :: s)).size : Int) = ((s.length + 1 : Nat) : Int) := by rw [hz]
  have hN24 : s.length + 1 ≤ 24 := by omega
  have hN0 : 0 < s.length + 1 := by omega
  clear hR hO hP hlit hw
  generalize (35 :: s) = t at *
  generalize s.length + 1 = N at *
  unfold yv at *
  go_enter Try.func67, Try.ntmps67
  obtain ⟨c1, c2⟩ := H.cells
  go_wp2_with fail
  refine (hb_shownY H).mono ?_
  rintro e w1 ⟨rfl, H1⟩
  clear H c1 c2
  obtain ⟨c1, c2⟩ := H1.cells
  go_wp2_with fail
  refine (hb_top H1).mono ?_
  rintro e w2 ⟨rfl, H2⟩
  clear H1 c1 c2
  obtain ⟨c1, c2⟩ := H2.cells
  go_wp2_with fail
  refine (hrun _ H2).mono ?_
  rintro e w3 ⟨rfl, H3⟩
  clear H2 c1 c2 hrun
  obtain ⟨c1, c2⟩ := H3.cells
  go_wp2_with fail
  refine (hb_shownY H3).mono ?_
  rintro e w4 ⟨rfl, H4⟩
  clear H3 c1 c2
  obtain ⟨c1, c2⟩ := H4.cells
  go_wp2_with fail
  refine (hLi _).mono ?_
  rintro e w5 ⟨v, rfl, hv, v1, v2, rfl⟩
  go_wp2_with fail
  refine (hOw _).mono ?_
  rintro e w5 ⟨rfl, rfl⟩
  go_wp2_with fail
  go_region_held3 (fun W => W.cell? ⟨w.heap.size + 1, 0, none⟩ = some (ptr p3)) (go_keep) (first | (go_at_call 85; refine (hPl v hv v1 v2 _ (by first | exact H4 | exact H4.drewN 1)).mono ?_; rintro e w6 ⟨rfl, H6⟩; clear H4 c1 c2; obtain ⟨c1, c2⟩ := H6.cells))
  go_wp2_with fail
  refine (hb_shownZ H6).mono ?_
  rintro e w10 ⟨rfl, H10⟩
  clear H6 c1 c2
  obtain ⟨c1, c2⟩ := H10.cells
  go_wp2_with fail
  refine (hb_show H10).mono ?_
  rintro e w11 ⟨rfl, H11⟩
  clear H10 c1 c2
  go_wp2_with fail
  refine (hb_itoa H11).mono ?_
  rintro e w12 ⟨rfl, H12⟩
  have hm := mac_eq acc ST
  have hl1 := itoa_len acc H12.fine.2.2.1 H12.fine.2.2.2
  rw [← str_size] at hl1
  have hl2 := stText_len ST H12.fine.1 H12.len.1
  rw [← str_size] at hl2
  go_wp2
  exact bodyPost_ret (v := .tuple #[I 0, I acc, .bool true]) (by simp [results, Try.results67, go_sem]) rfl ⟨rfl, H12.done.1, H12.done.2⟩
set_option maxRecDepth 100000 in
set_option maxHeartbeats 8000000 in
theorem held_C1 {L : Nat → Prop} {w : World} {m2 p2 p3 : Nat} {acc : Int} {st : List TV} (h : YZ L w m2 p2 p3 acc st st) (s : List UInt8) (hs : s.length < 24) (hw : wdL s = s.length) (E : Int) (hE : E ≠ 0) (hR : runAllT (35 :: s) acc st = (0, E, acc, st)) (hlit : (litL s).isSome = true) (hO : owesT 35 true (topT st).1 (topT st).2 = 0) (hP : ∀ v, (∀ q, litL s = some q → v = q.2) → playT 35 v s st = (st, E)) :
    Calls Try.prog 67 #[ptr m2, yv p2, yv p3, I acc, S (35 :: s)] w (HP L w m2 p2 p3 E acc st) := by
  obtain ⟨L', H⟩ := HB.start h
  obtain ⟨f1, f2, a1, a2⟩ := H.fine
  have g0 : ∀ h, ((str (35 :: s))[0]'h).toNat = 35 := str_get (35 :: s) 0 35 rfl
  have hz : (str (35 :: s)).size = s.length + 1 := by rw [str_size]; simp
  have hOw : ∀ W, Calls Try.prog 84 #[U 35, .bool true, I (topT st).1, I (topT st).2] W fun e w' => e = .returned (I 0) ∧ w' = W := by
    intro W
    have := owes_w 35 true (topT st).1 (topT st).2 W
    rw [hO] at this
    exact this
  have hsr := str_tl 35 s hs
  have hrun : ∀ W, HB L L' w W w.heap.size (w.heap.size + 1) m2 p2 p3 acc st st → Calls Try.prog 30 #[ptr m2, S (35 :: s)] W fun e w' => e = .returned (.tuple #[I (0 : Nat), I E]) ∧ HB L L' w w' w.heap.size (w.heap.size + 1) m2 p2 p3 acc st st := fun W hW => hb_run hW _ (by simp; omega) _ _ _ _ hR
  have e1 : (E == 0) = false := by simpa using hE
  have e2 : (E != 0) = true := by simpa using hE
  have hPl : ∀ v, (∀ q, litL s = some q → v = q.2) → -9223372036854775808 ≤ v → v ≤ 9223372036854775807 → ∀ W, HB L L' w W w.heap.size (w.heap.size + 1) m2 p2 p3 acc st st → Calls Try.prog 85 #[yv p3, U 35, I v, S s] W fun e w' => e = .returned (I E) ∧ HB L L' w w' w.heap.size (w.heap.size + 1) m2 p2 p3 acc st st :=
    fun v hv v1 v2 W hW => hb_play hW 35 v s _ _ _ hO (by decide) (by decide) (by decide) v1 v2 (fun e => by cases e) _ _ hW.fine.1 (hP v hv)
  have hLi := lit_w2 s hs hw
  rw [hlit] at hLi
  have hsz : ((str (35 :: s)).size : Int) = ((s.length + 1 : Nat) : Int) := by rw [hz]
  have hN24 : s.length + 1 ≤ 24 := by omega
  have hN0 : 0 < s.length + 1 := by omega
  clear hR hO hP hlit hw hE
  generalize (35 :: s) = t at *
  generalize s.length + 1 = N at *
  unfold yv at *
  go_enter Try.func67, Try.ntmps67
  obtain ⟨c1, c2⟩ := H.cells
  go_wp2_with fail
  refine (hb_shownY H).mono ?_
  rintro e w1 ⟨rfl, H1⟩
  clear H c1 c2
  obtain ⟨c1, c2⟩ := H1.cells
  go_wp2_with fail
  refine (hb_top H1).mono ?_
  rintro e w2 ⟨rfl, H2⟩
  clear H1 c1 c2
  obtain ⟨c1, c2⟩ := H2.cells
  go_wp2_with fail
  refine (hrun _ H2).mono ?_
  rintro e w3 ⟨rfl, H3⟩
  clear H2 c1 c2 hrun
  obtain ⟨c1, c2⟩ := H3.cells
  go_wp2_with fail
  refine (hb_shownY H3).mono ?_
  rintro e w4 ⟨rfl, H4⟩
  clear H3 c1 c2
  obtain ⟨c1, c2⟩ := H4.cells
  go_wp2_with fail
  refine (hLi _).mono ?_
  rintro e w5 ⟨v, rfl, hv, v1, v2, rfl⟩
  go_wp2_with fail
  refine (hOw _).mono ?_
  rintro e w5 ⟨rfl, rfl⟩
  go_wp2_with fail
  go_region_held3 (fun W => W.cell? ⟨w.heap.size + 1, 0, none⟩ = some (ptr p3)) (go_keep) (first | (go_at_call 85; refine (hPl v hv v1 v2 _ (by first | exact H4 | exact H4.drewN 1)).mono ?_; rintro e w6 ⟨rfl, H6⟩; clear H4 c1 c2; obtain ⟨c1, c2⟩ := H6.cells))
  go_wp2_with fail
  refine (hb_shownZ H6).mono ?_
  rintro e w10 ⟨rfl, H10⟩
  clear H6 c1 c2
  obtain ⟨c1, c2⟩ := H10.cells
  go_wp2_with fail
  refine (hb_show H10).mono ?_
  rintro e w11 ⟨rfl, H11⟩
  clear H10 c1 c2
  go_wp2_with fail
  refine (hb_itoa H11).mono ?_
  rintro e w12 ⟨rfl, H12⟩
  have hm := mac_eq acc st
  have hl1 := itoa_len acc H12.fine.2.2.1 H12.fine.2.2.2
  rw [← str_size] at hl1
  have hl2 := stText_len st H12.fine.1 H12.len.1
  rw [← str_size] at hl2
  go_wp2
  exact bodyPost_ret (v := .tuple #[I E, I acc, .bool true]) (by simp [results, Try.results67, go_sem]) rfl ⟨rfl, H12.done.1, H12.done.2⟩
end Go.Proofs.Qxb6500470a
