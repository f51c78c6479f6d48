import Derived.Test.Qxb6500470aKz8
import Derived.Deep.RegionHeld3
namespace Go.Proofs.Qxb6500470a
open Go.RowKit
set_option maxRecDepth 100000 in
set_option maxHeartbeats 8000000 in
theorem held_A83 {L : Nat → Prop} {w : World} {m2 p2 p3 : Nat} {acc : Int} {st : List TV} (h : YZ L w m2 p2 p3 acc st st) (s : List UInt8) (hs : s.length < 24) (E : Int) (hE : E ≠ 0) (hR : runAllT (83 :: s) acc st = (0, E, acc, st)) (lit : Bool) (hlit : decide (s.length = 1) = lit) (hO : owesT 83 lit (topT st).1 (topT st).2 = E) :
    Calls Try.prog 67 #[ptr m2, yv p2, yv p3, I acc, S (83 :: s)] w (HP L w m2 p2 p3 E acc st) := by
  obtain ⟨L', H⟩ := HB.start h
  obtain ⟨f1, f2, a1, a2⟩ := H.fine
  have g0 : ∀ h, ((str (83 :: s))[0]'h).toNat = 83 := str_get (83 :: s) 0 83 rfl
  have hz : (str (83 :: s)).size = s.length + 1 := by rw [str_size]; simp
  have hOw : ∀ W, Calls Try.prog 84 #[U 83, .bool lit, I (topT st).1, I (topT st).2] W fun e w' => e = .returned (I E) ∧ w' = W := by
    intro W
    have := owes_w 83 lit (topT st).1 (topT st).2 W
    rw [hO] at this
    exact this
  have hsr := str_tl 83 s hs
  have hrun : ∀ W, HB L L' w W w.heap.size (w.heap.size + 1) m2 p2 p3 acc st st → Calls Try.prog 30 #[ptr m2, S (83 :: s)] W fun e w' => e = .returned (.tuple #[I (0 : Nat), I E]) ∧ HB L L' w w' w.heap.size (w.heap.size + 1) m2 p2 p3 acc st st := fun W hW => hb_run hW _ (by simp; omega) _ _ _ _ hR
  have e1 : (E == 0) = false := by simpa using hE
  have e2 : (E != 0) = true := by simpa using hE
  have hli : (((s.length + 1 : Nat) : Int) == 2) = lit := by
    rw [← hlit]
    by_cases e : s.length = 1
    · rw [e]; rfl
    · rw [decide_eq_false e]; simp; omega
  have hsz : ((str (83 :: s)).size : Int) = ((s.length + 1 : Nat) : Int) := by rw [hz]
  have hN24 : s.length + 1 ≤ 24 := by omega
  have hN0 : 0 < s.length + 1 := by omega
  clear hR hO hlit hE
  generalize (83 :: s) = t at *
  generalize s.length + 1 = N at *
  unfold yv at *
  go_enter Try.func67, Try.ntmps67
  obtain ⟨c1, c2⟩ := H.cells
  go_wp2_with fail
  refine (hb_shownY H).mono ?_
  rintro e w1 ⟨rfl, H1⟩
  clear H c1 c2
  obtain ⟨c1, c2⟩ := H1.cells
  go_wp2_with fail
  refine (hb_top H1).mono ?_
  rintro e w2 ⟨rfl, H2⟩
  clear H1 c1 c2
  obtain ⟨c1, c2⟩ := H2.cells
  go_wp2_with fail
  refine (hrun _ H2).mono ?_
  rintro e w3 ⟨rfl, H3⟩
  clear H2 c1 c2 hrun
  obtain ⟨c1, c2⟩ := H3.cells
  go_wp2_with fail
  refine (hb_shownY H3).mono ?_
  rintro e w4 ⟨rfl, H4⟩
  clear H3 c1 c2
  obtain ⟨c1, c2⟩ := H4.cells
  go_wp2_with fail
  refine (hOw _).mono ?_
  rintro e w5 ⟨rfl, rfl⟩
  go_wp2_with fail
  refine (hb_shownZ H4).mono ?_
  rintro e w10 ⟨rfl, H10⟩
  clear H4 c1 c2
  obtain ⟨c1, c2⟩ := H10.cells
  go_wp2_with fail
  refine (hb_show H10).mono ?_
  rintro e w11 ⟨rfl, H11⟩
  clear H10 c1 c2
  go_wp2_with fail
  refine (hb_itoa H11).mono ?_
  rintro e w12 ⟨rfl, H12⟩
  have hm := mac_eq acc st
  have hl1 := itoa_len acc H12.fine.2.2.1 H12.fine.2.2.2
  rw [← str_size] at hl1
  have hl2 := stText_len st H12.fine.1 H12.len.1
  rw [← str_size] at hl2
  go_wp2
  exact bodyPost_ret (v := .tuple #[I E, I acc, .bool true]) (by simp [results, Try.results67, go_sem]) rfl ⟨rfl, H12.done.1, H12.done.2⟩
set_option maxRecDepth 100000 in
set_option maxHeartbeats 8000000 in
theorem held_A68 {L : Nat → Prop} {w : World} {m2 p2 p3 : Nat} {acc : Int} {st : List TV} (h : YZ L w m2 p2 p3 acc st st) (s : List UInt8) (hs : s.length < 24) (E : Int) (hE : E ≠ 0) (hR : runAllT (68 :: s) acc st = (0, E, acc, st)) (lit : Bool) (hlit : decide (s.length = 1) = lit) (hO : owesT 68 lit (topT st).1 (topT st).2 = E) :
    Calls Try.prog 67 #[ptr m2, yv p2, yv p3, I acc, S (68 :: s)] w (HP L w m2 p2 p3 E acc st) := by
  obtain ⟨L', H⟩ := HB.start h
  obtain ⟨f1, f2, a1, a2⟩ := H.fine
  have g0 : ∀ h, ((str (68 :: s))[0]'h).toNat = 68 := str_get (68 :: s) 0 68 rfl
  have hz : (str (68 :: s)).size = s.length + 1 := by rw [str_size]; simp
  have hOw : ∀ W, Calls Try.prog 84 #[U 68, .bool lit, I (topT st).1, I (topT st).2] W fun e w' => e = .returned (I E) ∧ w' = W := by
    intro W
    have := owes_w 68 lit (topT st).1 (topT st).2 W
    rw [hO] at this
    exact this
  have hsr := str_tl 68 s hs
  have hrun : ∀ W, HB L L' w W w.heap.size (w.heap.size + 1) m2 p2 p3 acc st st → Calls Try.prog 30 #[ptr m2, S (68 :: s)] W fun e w' => e = .returned (.tuple #[I (0 : Nat), I E]) ∧ HB L L' w w' w.heap.size (w.heap.size + 1) m2 p2 p3 acc st st := fun W hW => hb_run hW _ (by simp; omega) _ _ _ _ hR
  have e1 : (E == 0) = false := by simpa using hE
  have e2 : (E != 0) = true := by simpa using hE
  have hli : (((s.length + 1 : Nat) : Int) == 2) = lit := by
    rw [← hlit]
    by_cases e : s.length = 1
    · rw [e]; rfl
    · rw [decide_eq_false e]; simp; omega
  have hsz : ((str (68 :: s)).size : Int) = ((s.length + 1 : Nat) : Int) := by rw [hz]
  have hN24 : s.length + 1 ≤ 24 := by omega
  have hN0 : 0 < s.length + 1 := by omega
  clear hR hO hlit hE
  generalize (68 :: s) = t at *
  generalize s.length + 1 = N at *
  unfold yv at *
  go_enter Try.func67, Try.ntmps67
  obtain ⟨c1, c2⟩ := H.cells
  go_wp2_with fail
  refine (hb_shownY H).mono ?_
  rintro e w1 ⟨rfl, H1⟩
  clear H c1 c2
  obtain ⟨c1, c2⟩ := H1.cells
  go_wp2_with fail
  refine (hb_top H1).mono ?_
  rintro e w2 ⟨rfl, H2⟩
  clear H1 c1 c2
  obtain ⟨c1, c2⟩ := H2.cells
  go_wp2_with fail
  refine (hrun _ H2).mono ?_
  rintro e w3 ⟨rfl, H3⟩
  clear H2 c1 c2 hrun
  obtain ⟨c1, c2⟩ := H3.cells
  go_wp2_with fail
  refine (hb_shownY H3).mono ?_
  rintro e w4 ⟨rfl, H4⟩
  clear H3 c1 c2
  obtain ⟨c1, c2⟩ := H4.cells
  go_wp2_with fail
  refine (hOw _).mono ?_
  rintro e w5 ⟨rfl, rfl⟩
  go_wp2_with fail
  refine (hb_shownZ H4).mono ?_
  rintro e w10 ⟨rfl, H10⟩
  clear H4 c1 c2
  obtain ⟨c1, c2⟩ := H10.cells
  go_wp2_with fail
  refine (hb_show H10).mono ?_
  rintro e w11 ⟨rfl, H11⟩
  clear H10 c1 c2
  go_wp2_with fail
  refine (hb_itoa H11).mono ?_
  rintro e w12 ⟨rfl, H12⟩
  have hm := mac_eq acc st
  have hl1 := itoa_len acc H12.fine.2.2.1 H12.fine.2.2.2
  rw [← str_size] at hl1
  have hl2 := stText_len st H12.fine.1 H12.len.1
  rw [← str_size] at hl2
  go_wp2
  exact bodyPost_ret (v := .tuple #[I E, I acc, .bool true]) (by simp [results, Try.results67, go_sem]) rfl ⟨rfl, H12.done.1, H12.done.2⟩
set_option maxRecDepth 100000 in
set_option maxHeartbeats 8000000 in
theorem held_A77 {L : Nat → Prop} {w : World} {m2 p2 p3 : Nat} {acc : Int} {st : List TV} (h : YZ L w m2 p2 p3 acc st st) (s : List UInt8) (hs : s.length < 24) (E : Int) (hE : E ≠ 0) (hR : runAllT (77 :: s) acc st = (0, E, acc, st)) (lit : Bool) (hlit : decide (s.length = 1) = lit) (hO : owesT 77 lit (topT st).1 (topT st).2 = E) :
    Calls Try.prog 67 #[ptr m2, yv p2, yv p3, I acc, S (77 :: s)] w (HP L w m2 p2 p3 E acc st) := by
  obtain ⟨L', H⟩ := HB.start h
  obtain ⟨f1, f2, a1, a2⟩ := H.fine
  have g0 : ∀ h, ((str (77 :: s))[0]'h).toNat = 77 := str_get (77 :: s) 0 77 rfl
  have hz : (str (77 :: s)).size = s.length + 1 := by rw [str_size]; simp
  have hOw : ∀ W, Calls Try.prog 84 #[U 77, .bool lit, I (topT st).1, I (topT st).2] W fun e w' => e = .returned (I E) ∧ w' = W := by
    intro W
    have := owes_w 77 lit (topT st).1 (topT st).2 W
    rw [hO] at this
    exact this
  have hsr := str_tl 77 s hs
  have hrun : ∀ W, HB L L' w W w.heap.size (w.heap.size + 1) m2 p2 p3 acc st st → Calls Try.prog 30 #[ptr m2, S (77 :: s)] W fun e w' => e = .returned (.tuple #[I (0 : Nat), I E]) ∧ HB L L' w w' w.heap.size (w.heap.size + 1) m2 p2 p3 acc st st := fun W hW => hb_run hW _ (by simp; omega) _ _ _ _ hR
  have e1 : (E == 0) = false := by simpa using hE
  have e2 : (E != 0) = true := by simpa using hE
  have hli : (((s.length + 1 : Nat) : Int) == 2) = lit := by
    rw [← hlit]
    by_cases e : s.length = 1
    · rw [e]; rfl
    · rw [decide_eq_false e]; simp; omega
  have hsz : ((str (77 :: s)).size : Int) = ((s.length + 1 : Nat) : Int) := by rw [hz]
  have hN24 : s.length + 1 ≤ 24 := by omega
  have hN0 : 0 < s.length + 1 := by omega
  clear hR hO hlit hE
  generalize (77 :: s) = t at *
  generalize s.length + 1 = N at *
  unfold yv at *
  go_enter Try.func67, Try.ntmps67
  obtain ⟨c1, c2⟩ := H.cells
  go_wp2_with fail
  refine (hb_shownY H).mono ?_
  rintro e w1 ⟨rfl, H1⟩
  clear H c1 c2
  obtain ⟨c1, c2⟩ := H1.cells
  go_wp2_with fail
  refine (hb_top H1).mono ?_
  rintro e w2 ⟨rfl, H2⟩
  clear H1 c1 c2
  obtain ⟨c1, c2⟩ := H2.cells
  go_wp2_with fail
  refine (hrun _ H2).mono ?_
  rintro e w3 ⟨rfl, H3⟩
  clear H2 c1 c2 hrun
  obtain ⟨c1, c2⟩ := H3.cells
  go_wp2_with fail
  refine (hb_shownY H3).mono ?_
  rintro e w4 ⟨rfl, H4⟩
  clear H3 c1 c2
  obtain ⟨c1, c2⟩ := H4.cells
  go_wp2_with fail
  refine (hOw _).mono ?_
  rintro e w5 ⟨rfl, rfl⟩
  go_wp2_with fail
  refine (hb_shownZ H4).mono ?_
  rintro e w10 ⟨rfl, H10⟩
  clear H4 c1 c2
  obtain ⟨c1, c2⟩ := H10.cells
  go_wp2_with fail
  refine (hb_show H10).mono ?_
  rintro e w11 ⟨rfl, H11⟩
  clear H10 c1 c2
  go_wp2_with fail
  refine (hb_itoa H11).mono ?_
  rintro e w12 ⟨rfl, H12⟩
  have hm := mac_eq acc st
  have hl1 := itoa_len acc H12.fine.2.2.1 H12.fine.2.2.2
  rw [← str_size] at hl1
  have hl2 := stText_len st H12.fine.1 H12.len.1
  rw [← str_size] at hl2
  go_wp2
  exact bodyPost_ret (v := .tuple #[I E, I acc, .bool true]) (by simp [results, Try.results67, go_sem]) rfl ⟨rfl, H12.done.1, H12.done.2⟩
end Go.Proofs.Qxb6500470a
