import Derived.Test.Qxb6500470aKzh
import Derived.Deep.RegionHeld3
namespace Go.Proofs.Qxb6500470a
open Go.RowKit
set_option maxRecDepth 100000 in
set_option maxHeartbeats 16000000 in
theorem keptUpTo_f (w : World) (ao : Option Addr) (n cap : Nat) (hops : ∀ i, i < n → OpS w ao i) (hn : n < 9223372036854775808) :
    Calls Try.prog 33 #[.slice ao n cap, .bool false] w fun e w' => e = .returned (I (-1)) ∧ Below w.heap.size w w' := by
  have Hops : Hid _ := hops
  clear hops
  go_enter Try.func33, Try.ntmps33
  go_wp2_with fail
  refine (groundY w).mono ?_
  rintro e w1 ⟨p1, a1, rfl, s1, d1, e1⟩
  go_wp2_with fail
  have c1 : Below w1.heap.size w1 (w1.alloc (.cells #[ptr p1] 31)) := (Below.refl _ _).alloc (Nat.le_refl _) _
  refine (newY _ p1 a1 (s1.later c1)).mono ?_
  rintro e w2 ⟨m1, a1', rfl, x, dx, e2⟩
  have hx : ∀ k, k < w.heap.size → ¬ ownM m1 p1 a1' k := fun k hk => dx k (by have := e1.size; have := c1.size; omega) (d1 k hk)
  have b02 : Below w.heap.size w w2 := (e1.trans (c1.mono e1.size)).trans (e2.mono (by have := e1.size; have := c1.size; omega))
  clear s1 d1 e1 c1 dx e2
  go_wp2_with fail
  refine (groundY w2).mono ?_
  rintro e w3 ⟨p2, a2, rfl, s2, d2, b23⟩
  go_wp2_with fail
  have c3 : Below w3.heap.size w3 (w3.alloc (.cells #[ptr p2] 31)) := (Below.refl _ _).alloc (Nat.le_refl _) _
  refine (newY _ p2 a2 (s2.later c3)).mono ?_
  rintro e w4 ⟨m2, a2', rfl, y, dy, b34⟩
  clear c3
  go_wp2_with fail
  refine (groundY w4).mono ?_
  rintro e w5 ⟨p3, a3, rfl, s3, d3, b45⟩
  have H0 := HK.make x hx b02 s2 d2 b23 y dy b34 s3 d3 b45 rfl
  clear x hx b02 s2 d2 b23 y dy b34 s3 d3 b45
  go_wp2
  generalize w3.heap.size = q2 at *
  generalize hq3 : w5.heap.size = q3 at *
  clear hq3
  go_loopw [10, 11, 12, 13, 14, 15] (fun a o i _ _ _ wr => ∃ (j : Nat) (acc : Int) (st : List TV), j ≤ n ∧ a = I acc ∧ o = .bool true ∧ i = I (j : Int) ∧ HK w wr q2 q3 m1 p1 m2 p2 p3 acc st) (fun _ _ i _ _ _ _ => (n - intOf i).toNat)
  case atStart => exact ⟨0, 0, [], by omega, rfl, rfl, rfl, H0⟩
  case round =>
    clear H0
    obtain ⟨j, acc, st, hj, rfl, rfl, rfl, H⟩ := hrel
    by_cases hlt : j < n
    · by_cases hM : (j : Int) < 4398046511104
      · obtain ⟨b, off, K, A, B, C, s, t, e, hl, c0, -, -, -, c4, -, hs63⟩ := (Hops.out j hlt)
        subst e
        have hjn : (j : Int) < (n : Int) := by omega
        rw [← H.bl.cell (p := ⟨b, _, none⟩) hl] at c0 c4
        obtain ⟨x1, x2⟩ := H.cells
        by_cases k1 : K = 1
        · subst k1
          have HH : ∀ W, HK w W q2 q3 m1 p1 m2 p2 p3 acc st → Calls Try.prog 49 #[ptr m1, ptr m2, .agg #[ptr p2], .agg #[ptr p3], I acc, S s, .bool false] W fun e w' => e = .returned (.tuple #[I (runAllT s acc st).2.2.1, .bool true]) ∧ HK w w' q2 q3 m1 p1 m2 p2 p3 (runAllT s acc st).2.2.1 (runAllT s acc st).2.2.2 ∧ w'.cell? ⟨b, off + j * 6, none⟩ = some (I 1) ∧ w'.cell? ⟨b, off + j * 6 + 4, none⟩ = some (S s) := by
            intro W hW
            refine (hk_kept hW s hs63 false).mono ?_
            rintro e w' ⟨rfl, hW'⟩
            refine ⟨rfl, hW', ?_, ?_⟩
            · rw [hW'.bl.cell (p := ⟨b, _, none⟩) hl, ← H.bl.cell (p := ⟨b, _, none⟩) hl]
              exact c0
            · rw [hW'.bl.cell (p := ⟨b, _, none⟩) hl, ← H.bl.cell (p := ⟨b, _, none⟩) hl]
              exact c4
          generalize (runAllT s acc st).2.2.1 = acc' at *
          generalize (runAllT s acc st).2.2.2 = st' at *
          go_wp2_with fail
          go_region_held3 (fun W => W.cell? ⟨q2, 0, none⟩ = some (ptr p2) ∧ W.cell? ⟨q3, 0, none⟩ = some (ptr p3) ∧ W.cell? ⟨b, off + j * 6 + 4, none⟩ = some (S s)) (go_keep) (first | (go_at_call 49; refine (HH _ (by first | exact H | exact H.drewN 1)).mono ?_; rintro e w7 ⟨rfl, H7, c7, c8⟩; clear H x1 x2 c0 c4; have c0 := c7; have c4 := c8; clear c7 c8; obtain ⟨x1, x2⟩ := H7.cells))
          go_wp2
          go_roundw
          case rel => exact ⟨j + 1, acc', st', by omega, rfl, rfl, by go_num, H7⟩
          case measure => simp [intOf]; omega
        · have k1b : (K == 1) = false := by simpa using k1
          go_wp2
          go_roundw
          case rel => exact ⟨j + 1, acc, st, by omega, rfl, rfl, by go_num, H⟩
          case measure => simp [intOf]; omega
      · have hjn : (j : Int) < (n : Int) := by omega
        go_wp2
        go_ret
        exact ⟨rfl, H.bl⟩
    · have hjn : ¬ (j : Int) < (n : Int) := by omega
      go_wp2
      go_ret
      exact ⟨rfl, H.bl⟩
set_option maxRecDepth 100000 in
set_option maxHeartbeats 1000000 in
theorem upTo_f (w : World) (ao : Option Addr) (n cap : Nat) (hops : ∀ i, i < n → OpS w ao i) (hn : n < 9223372036854775808) :
    Calls Try.prog 22 #[.slice ao n cap] w fun e w' => e = .returned (I (-1)) ∧ Below w.heap.size w w' := by
  go_enter Try.func22, Try.ntmps22
  go_wp2_with fail
  refine (keptUpTo_f w ao n cap hops hn).mono ?_
  rintro e w1 ⟨rfl, b⟩
  go_wp2
  go_ret
  exact ⟨rfl, b⟩
set_option maxRecDepth 100000 in
set_option maxHeartbeats 1000000 in
theorem keeps_f (w : World) (ao : Option Addr) (n cap : Nat) (hops : ∀ i, i < n → OpS w ao i) (hn : n < 9223372036854775808) :
    Calls Try.prog 3 #[.slice ao n cap] w fun e w' => e = .returned (.bool true) ∧ Below w.heap.size w w' := by
  go_enter Try.func3, Try.ntmps3
  go_wp2_with fail
  refine (upTo_f w ao n cap hops hn).mono ?_
  rintro e w1 ⟨rfl, b⟩
  go_wp2
  go_ret
  exact ⟨rfl, b⟩
end Go.Proofs.Qxb6500470a
