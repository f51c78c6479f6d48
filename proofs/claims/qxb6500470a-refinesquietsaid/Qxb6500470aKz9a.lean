import Derived.Test.Qxb6500470aKz8
import Derived.Deep.RegionHeld3
namespace Go.Proofs.Qxb6500470a
open Go.RowKit
set_option maxRecDepth 100000 in
set_option maxHeartbeats 8000000 in
theorem held_B0 {L : Nat → Prop} {w : World} {m2 p2 p3 : Nat} {acc : Int} {st : List TV} (h : YZ L w m2 p2 p3 acc st st) (c : UInt8) (h35 : c ≠ 35) (h32 : c ≠ 32) (h59 : c ≠ 59) (h33 : c ≠ 33) (h83 : c ≠ 83) (h68 : c ≠ 68) (h77 : c ≠ 77) (s : List UInt8) (hs : s.length < 24) (ST : List TV) (hR : runAllT (c :: s) acc st = ((s.length + 1), 0, acc, ST)) (lit : Bool) (hlit : decide (s.length = 1) = lit) (hO : owesT c lit (topT st).1 (topT st).2 = 0) (hP : playT c acc s st = (ST, 0)) (h39 : c = 39 → s.length ≤ 6) :
    Calls Try.prog 67 #[ptr m2, yv p2, yv p3, I acc, S (c :: s)] w (HP L w m2 p2 p3 0 acc ST) := by
  obtain ⟨L', H⟩ := HB.start h
  obtain ⟨f1, f2, a1, a2⟩ := H.fine
  have g0 : ∀ h, ((str (c :: s))[0]'h).toNat = c.toNat := str_get (c :: s) 0 c rfl
  have hz : (str (c :: s)).size = s.length + 1 := by rw [str_size]; simp
  have hOw : ∀ W, Calls Try.prog 84 #[.int .u8 (c.toNat : Int), .bool lit, I (topT st).1, I (topT st).2] W fun e w' => e = .returned (I 0) ∧ w' = W := by
    intro W
    have := owes_w c lit (topT st).1 (topT st).2 W
    rw [hO] at this
    exact this
  have hsr := str_tl c s hs
  have hrun : ∀ W, HB L L' w W w.heap.size (w.heap.size + 1) m2 p2 p3 acc st st → Calls Try.prog 30 #[ptr m2, S (c :: s)] W fun e w' => e = .returned (.tuple #[I ((s.length + 1) : Nat), I 0]) ∧ HB L L' w w' w.heap.size (w.heap.size + 1) m2 p2 p3 acc ST st := fun W hW => hb_run hW _ (by simp; omega) _ _ _ _ hR
  have hPl : ∀ W, HB L L' w W w.heap.size (w.heap.size + 1) m2 p2 p3 acc ST st → Calls Try.prog 85 #[yv p3, .int .u8 (c.toNat : Int), I acc, S s] W fun e w' => e = .returned (I 0) ∧ HB L L' w w' w.heap.size (w.heap.size + 1) m2 p2 p3 acc ST ST :=
    fun W hW => hb_play hW c acc s _ _ _ hO h32 h59 h33 a1 a2 h39 _ _ hW.fine.1 hP
  have q35 : ((c.toNat : Int) == 35) = false := ne8 c 35 h35
  have q32 : ((c.toNat : Int) == 32) = false := ne8 c 32 h32
  have q59 : ((c.toNat : Int) == 59) = false := ne8 c 59 h59
  have q33 : ((c.toNat : Int) == 33) = false := ne8 c 33 h33
  have q83 : ((c.toNat : Int) == 83) = false := ne8 c 83 h83
  have q68 : ((c.toNat : Int) == 68) = false := ne8 c 68 h68
  have q77 : ((c.toNat : Int) == 77) = false := ne8 c 77 h77
  have r32 : ((c.toNat : Int) != 32) = true := by rw [bne, q32]; rfl
  have r59 : ((c.toNat : Int) != 59) = true := by rw [bne, q59]; rfl
  have r33 : ((c.toNat : Int) != 33) = true := by rw [bne, q33]; rfl
  have hli : (((s.length + 1 : Nat) : Int) == 2) = lit := by
    rw [← hlit]
    by_cases e : s.length = 1
    · rw [e]; rfl
    · rw [decide_eq_false e]; simp; omega
  have hsz : ((str (c :: s)).size : Int) = ((s.length + 1 : Nat) : Int) := by rw [hz]
  have hN24 : s.length + 1 ≤ 24 := by omega
  have hN0 : 0 < s.length + 1 := by omega
  clear hR hO hP hlit h35 h32 h59 h33 h83 h68 h77 h39
  generalize c.toNat = n at *
  generalize (c :: s) = t at *
  generalize s.length + 1 = N at *
  unfold yv at *
  go_enter Try.func67, Try.ntmps67
  obtain ⟨c1, c2⟩ := H.cells
  go_wp2_with fail
  refine (hb_shownY H).mono ?_
  rintro e w1 ⟨rfl, H1⟩
  clear H c1 c2
  obtain ⟨c1, c2⟩ := H1.cells
  go_wp2_with fail
  refine (hb_top H1).mono ?_
  rintro e w2 ⟨rfl, H2⟩
  clear H1 c1 c2
  obtain ⟨c1, c2⟩ := H2.cells
  go_wp2_with fail
  refine (hrun _ H2).mono ?_
  rintro e w3 ⟨rfl, H3⟩
  clear H2 c1 c2 hrun
  obtain ⟨c1, c2⟩ := H3.cells
  go_wp2_with fail
  refine (hb_shownY H3).mono ?_
  rintro e w4 ⟨rfl, H4⟩
  clear H3 c1 c2
  obtain ⟨c1, c2⟩ := H4.cells
  go_wp2_with fail
  refine (hOw _).mono ?_
  rintro e w5 ⟨rfl, rfl⟩
  go_wp2_with fail
  go_region_held3 (fun W => W.cell? ⟨w.heap.size + 1, 0, none⟩ = some (ptr p3)) (go_keep) (first | (go_at_call 85; refine (hPl _ (by first | exact H4 | exact H4.drewN 1)).mono ?_; rintro e w6 ⟨rfl, H6⟩; clear H4 c1 c2; obtain ⟨c1, c2⟩ := H6.cells))
  go_wp2_with fail
  refine (hb_shownZ H6).mono ?_
  rintro e w10 ⟨rfl, H10⟩
  clear H6 c1 c2
  obtain ⟨c1, c2⟩ := H10.cells
  go_wp2_with fail
  refine (hb_show H10).mono ?_
  rintro e w11 ⟨rfl, H11⟩
  clear H10 c1 c2
  go_wp2_with fail
  refine (hb_itoa H11).mono ?_
  rintro e w12 ⟨rfl, H12⟩
  have hm := mac_eq acc ST
  have hl1 := itoa_len acc H12.fine.2.2.1 H12.fine.2.2.2
  rw [← str_size] at hl1
  have hl2 := stText_len ST H12.fine.1 H12.len.1
  rw [← str_size] at hl2
  go_wp2
  exact bodyPost_ret (v := .tuple #[I 0, I acc, .bool true]) (by simp [results, Try.results67, go_sem]) rfl ⟨rfl, H12.done.1, H12.done.2⟩
end Go.Proofs.Qxb6500470a
