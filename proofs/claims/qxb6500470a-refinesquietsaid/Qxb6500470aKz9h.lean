import Derived.Test.Qxb6500470aKz8
import Derived.Deep.RegionHeld3
namespace Go.Proofs.Qxb6500470a
open Go.RowKit
theorem HB.stLen {L L' : Nat → Prop} {w W : World} {q1 q2 m2 p2 p3 : Nat} {acc : Int} {st sz : List TV} (h : HB L L' w W q1 q2 m2 p2 p3 acc st sz) : stLen W p3 = sz.length := by
  obtain ⟨K, sr, -⟩ := h.yz.turnZ
  exact sr.len
theorem e48 : stText [] = [48] := by simp [stText, stTx, itoa]
set_option maxRecDepth 100000 in
set_option maxHeartbeats 8000000 in
theorem held_E59 {L : Nat → Prop} {w : World} {m2 p2 p3 : Nat} {acc : Int} {st : List TV} (h : YZ L w m2 p2 p3 acc st st) (s : List UInt8) (hs : s.length < 24) (hR : runAllT (59 :: s) acc st = ((s.length + 1), 0, acc, [])) (lit : Bool) (hlit : decide (s.length = 1) = lit) (hO : owesT 59 lit (topT st).1 (topT st).2 = 0) :
    Calls Try.prog 67 #[ptr m2, yv p2, yv p3, I acc, S (59 :: s)] w (HP L w m2 p2 p3 0 acc []) := by
  obtain ⟨L', H⟩ := HB.start h
  obtain ⟨f1, f2, a1, a2⟩ := H.fine
  have g0 : ∀ h, ((str (59 :: s))[0]'h).toNat = 59 := str_get (59 :: s) 0 59 rfl
  have hz : (str (59 :: s)).size = s.length + 1 := by rw [str_size]; simp
  have hOw : ∀ W, Calls Try.prog 84 #[U 59, .bool lit, I (topT st).1, I (topT st).2] W fun e w' => e = .returned (I 0) ∧ w' = W := by
    intro W
    have := owes_w 59 lit (topT st).1 (topT st).2 W
    rw [hO] at this
    exact this
  have hsr := str_tl 59 s hs
  have hrun : ∀ W, HB L L' w W w.heap.size (w.heap.size + 1) m2 p2 p3 acc st st → Calls Try.prog 30 #[ptr m2, S (59 :: s)] W fun e w' => e = .returned (.tuple #[I ((s.length + 1) : Nat), I 0]) ∧ HB L L' w w' w.heap.size (w.heap.size + 1) m2 p2 p3 acc [] st := fun W hW => hb_run hW _ (by simp; omega) _ _ _ _ hR
  have hli : (((s.length + 1 : Nat) : Int) == 2) = lit := by
    rw [← hlit]
    by_cases e : s.length = 1
    · rw [e]; rfl
    · rw [decide_eq_false e]; simp; omega
  have hsz : ((str (59 :: s)).size : Int) = ((s.length + 1 : Nat) : Int) := by rw [hz]
  have hN24 : s.length + 1 ≤ 24 := by omega
  have hN0 : 0 < s.length + 1 := by omega
  clear hR hO hlit
  generalize (59 :: s) = t at *
  generalize s.length + 1 = N at *
  unfold yv at *
  go_enter Try.func67, Try.ntmps67
  obtain ⟨c1, c2⟩ := H.cells
  go_wp2_with fail
  refine (hb_shownY H).mono ?_
  rintro e w1 ⟨rfl, H1⟩
  clear H c1 c2
  obtain ⟨c1, c2⟩ := H1.cells
  go_wp2_with fail
  refine (hb_top H1).mono ?_
  rintro e w2 ⟨rfl, H2⟩
  clear H1 c1 c2
  obtain ⟨c1, c2⟩ := H2.cells
  go_wp2_with fail
  refine (hrun _ H2).mono ?_
  rintro e w3 ⟨rfl, H3⟩
  clear H2 c1 c2 hrun
  obtain ⟨c1, c2⟩ := H3.cells
  go_wp2_with fail
  refine (hb_shownY H3).mono ?_
  rintro e w4 ⟨rfl, H4⟩
  clear H3 c1 c2
  obtain ⟨c1, c2⟩ := H4.cells
  go_wp2_with fail
  refine (hOw _).mono ?_
  rintro e w5 ⟨rfl, rfl⟩
  go_wp2
  go_loopw [] (fun wr => ∃ sz, HB L L' w wr w.heap.size (w.heap.size + 1) m2 p2 p3 acc [] sz) (fun wr => stLen wr p3)
  case atStart => exact ⟨_, H4⟩
  case round =>
    clear H4 c1 c2
    obtain ⟨sz, HR⟩ := hrel
    obtain ⟨c1, c2⟩ := HR.cells
    have hl := HR.stLen
    have hD := hb_depthZ HR
    cases sz with
    | nil =>
      go_wp2_with fail
      refine hD.mono ?_
      rintro e w6 ⟨rfl, H6⟩
      clear HR c1 c2 hD
      obtain ⟨c1, c2⟩ := H6.cells
      go_wp2_with fail
      refine (hb_shownZ H6).mono ?_
      rintro e w10 ⟨rfl, H10⟩
      clear H6 c1 c2
      obtain ⟨c1, c2⟩ := H10.cells
      go_wp2_with fail
      refine (hb_show H10).mono ?_
      rintro e w11 ⟨rfl, H11⟩
      clear H10 c1 c2
      go_wp2_with fail
      refine (hb_itoa H11).mono ?_
      rintro e w12 ⟨rfl, H12⟩
      have hm := mac_eq acc []
      have hl1 := itoa_len acc H12.fine.2.2.1 H12.fine.2.2.2
      rw [← str_size] at hl1
      have hl2 := stText_len [] H12.fine.1 H12.len.1
      rw [← str_size] at hl2
      rw [e48] at *
      have h48 := str_toList [48]
      go_wp2
      exact bodyPost_ret (v := .tuple #[I 0, I acc, .bool true]) (by simp [results, Try.results67, go_sem]) rfl ⟨rfl, H12.done.1, H12.done.2⟩
    | cons x sz =>
      have hpos : (0 : Int) < ((x :: sz).length : Int) := by simp
      have hp2 : (0 : Int) < ((sz.length : Int) + 1) := by omega
      go_wp2_with fail
      refine hD.mono ?_
      rintro e w6 ⟨rfl, H6⟩
      clear HR c1 c2 hD
      obtain ⟨c1, c2⟩ := H6.cells
      go_wp2_with fail
      refine (hb_play H6 120 0 [] true 0 0 rfl (by decide) (by decide) (by decide) (by omega) (by omega) (fun e => by cases e) sz 0 H6.fine.2.1.tail rfl).mono ?_
      rintro e w7 ⟨rfl, H7⟩
      have hl7 := H7.stLen
      go_wp2
      go_roundw
      case rel => exact ⟨sz, H7⟩
      case measure => rw [hl7, hl]; simp
set_option maxRecDepth 100000 in
set_option maxHeartbeats 8000000 in
theorem held_E33 {L : Nat → Prop} {w : World} {m2 p2 p3 : Nat} {acc : Int} {st : List TV} (h : YZ L w m2 p2 p3 acc st st) (s : List UInt8) (hs : s.length < 24) (hR : runAllT (33 :: s) acc st = ((s.length + 1), 0, 0, [])) (lit : Bool) (hlit : decide (s.length = 1) = lit) (hO : owesT 33 lit (topT st).1 (topT st).2 = 0) :
    Calls Try.prog 67 #[ptr m2, yv p2, yv p3, I acc, S (33 :: s)] w (HP L w m2 p2 p3 0 0 []) := by
  obtain ⟨L', H⟩ := HB.start h
  obtain ⟨f1, f2, a1, a2⟩ := H.fine
  have g0 : ∀ h, ((str (33 :: s))[0]'h).toNat = 33 := str_get (33 :: s) 0 33 rfl
  have hz : (str (33 :: s)).size = s.length + 1 := by rw [str_size]; simp
  have hOw : ∀ W, Calls Try.prog 84 #[U 33, .bool lit, I (topT st).1, I (topT st).2] W fun e w' => e = .returned (I 0) ∧ w' = W := by
    intro W
    have := owes_w 33 lit (topT st).1 (topT st).2 W
    rw [hO] at this
    exact this
  have hsr := str_tl 33 s hs
  have hrun : ∀ W, HB L L' w W w.heap.size (w.heap.size + 1) m2 p2 p3 acc st st → Calls Try.prog 30 #[ptr m2, S (33 :: s)] W fun e w' => e = .returned (.tuple #[I ((s.length + 1) : Nat), I 0]) ∧ HB L L' w w' w.heap.size (w.heap.size + 1) m2 p2 p3 0 [] st := fun W hW => hb_run hW _ (by simp; omega) _ _ _ _ hR
  have hli : (((s.length + 1 : Nat) : Int) == 2) = lit := by
    rw [← hlit]
    by_cases e : s.length = 1
    · rw [e]; rfl
    · rw [decide_eq_false e]; simp; omega
  have hsz : ((str (33 :: s)).size : Int) = ((s.length + 1 : Nat) : Int) := by rw [hz]
  have hN24 : s.length + 1 ≤ 24 := by omega
  have hN0 : 0 < s.length + 1 := by omega
  clear hR hO hlit
  generalize (33 :: s) = t at *
  generalize s.length + 1 = N at *
  unfold yv at *
  go_enter Try.func67, Try.ntmps67
  obtain ⟨c1, c2⟩ := H.cells
  go_wp2_with fail
  refine (hb_shownY H).mono ?_
  rintro e w1 ⟨rfl, H1⟩
  clear H c1 c2
  obtain ⟨c1, c2⟩ := H1.cells
  go_wp2_with fail
  refine (hb_top H1).mono ?_
  rintro e w2 ⟨rfl, H2⟩
  clear H1 c1 c2
  obtain ⟨c1, c2⟩ := H2.cells
  go_wp2_with fail
  refine (hrun _ H2).mono ?_
  rintro e w3 ⟨rfl, H3⟩
  clear H2 c1 c2 hrun
  obtain ⟨c1, c2⟩ := H3.cells
  go_wp2_with fail
  refine (hb_shownY H3).mono ?_
  rintro e w4 ⟨rfl, H4⟩
  clear H3 c1 c2
  obtain ⟨c1, c2⟩ := H4.cells
  go_wp2_with fail
  refine (hOw _).mono ?_
  rintro e w5 ⟨rfl, rfl⟩
  go_wp2
  go_loopw [] (fun wr => ∃ sz, HB L L' w wr w.heap.size (w.heap.size + 1) m2 p2 p3 0 [] sz) (fun wr => stLen wr p3)
  case atStart => exact ⟨_, H4⟩
  case round =>
    clear H4 c1 c2
    obtain ⟨sz, HR⟩ := hrel
    obtain ⟨c1, c2⟩ := HR.cells
    have hl := HR.stLen
    have hD := hb_depthZ HR
    cases sz with
    | nil =>
      go_wp2_with fail
      refine hD.mono ?_
      rintro e w6 ⟨rfl, H6⟩
      clear HR c1 c2 hD
      obtain ⟨c1, c2⟩ := H6.cells
      go_wp2_with fail
      refine (hb_shownZ H6).mono ?_
      rintro e w10 ⟨rfl, H10⟩
      clear H6 c1 c2
      obtain ⟨c1, c2⟩ := H10.cells
      go_wp2_with fail
      refine (hb_show H10).mono ?_
      rintro e w11 ⟨rfl, H11⟩
      clear H10 c1 c2
      go_wp2_with fail
      refine (hb_itoa H11).mono ?_
      rintro e w12 ⟨rfl, H12⟩
      have hm := mac_eq 0 []
      have hl1 := itoa_len 0 H12.fine.2.2.1 H12.fine.2.2.2
      rw [← str_size] at hl1
      have hl2 := stText_len [] H12.fine.1 H12.len.1
      rw [← str_size] at hl2
      rw [e48] at *
      have h48 := str_toList [48]
      go_wp2
      exact bodyPost_ret (v := .tuple #[I 0, I 0, .bool true]) (by simp [results, Try.results67, go_sem]) rfl ⟨rfl, H12.done.1, H12.done.2⟩
    | cons x sz =>
      have hpos : (0 : Int) < ((x :: sz).length : Int) := by simp
      have hp2 : (0 : Int) < ((sz.length : Int) + 1) := by omega
      go_wp2_with fail
      refine hD.mono ?_
      rintro e w6 ⟨rfl, H6⟩
      clear HR c1 c2 hD
      obtain ⟨c1, c2⟩ := H6.cells
      go_wp2_with fail
      refine (hb_play H6 120 0 [] true 0 0 rfl (by decide) (by decide) (by decide) (by omega) (by omega) (fun e => by cases e) sz 0 H6.fine.2.1.tail rfl).mono ?_
      rintro e w7 ⟨rfl, H7⟩
      have hl7 := H7.stLen
      go_wp2
      go_roundw
      case rel => exact ⟨sz, H7⟩
      case measure => rw [hl7, hl]; simp
end Go.Proofs.Qxb6500470a
