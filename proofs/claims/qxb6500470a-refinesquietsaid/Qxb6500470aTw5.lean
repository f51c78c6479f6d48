import Derived.Test.Qxb6500470aTw4
namespace Go.Proofs.Qxb6500470a
open Go.RowKit
set_option maxRecDepth 100000 in
set_option maxHeartbeats 16000000 in
theorem walk_quiet (w : World) (ao : Option Addr) (n cap : Nat) (hops : ∀ i, i < n → OpS w ao i) (hn : n < 9223372036854775808) :
    Calls Try.prog 34 #[.slice ao n cap, .bool true] w fun e w' => ∃ k : Int, e = .returned (.tuple #[I (-1), I k]) ∧ Below w.heap.size w w' := by
  have Hops : Hid _ := hops
  clear hops
  go_enter Try.func34, Try.ntmps34
  go_wp2_with fail
  refine (groundY w).mono ?_
  rintro e w1 ⟨p1, a1, rfl, s1, d1, e1⟩
  go_wp2_with fail
  have c1 : Below w1.heap.size w1 (w1.alloc (.cells #[ptr p1] 31)) := (Below.refl _ _).alloc (Nat.le_refl _) _
  refine (newY _ p1 a1 (s1.later c1)).mono ?_
  rintro e w2 ⟨m1, a1', rfl, x, dx, e2⟩
  have hx : ∀ k, k < w.heap.size → ¬ ownM m1 p1 a1' k := fun k hk => dx k (by have := e1.size; have := c1.size; omega) (d1 k hk)
  have b02 : Below w.heap.size w w2 := (e1.trans (c1.mono e1.size)).trans (e2.mono (by have := e1.size; have := c1.size; omega))
  clear s1 d1 e1 c1 dx e2
  go_wp2_with fail
  refine (cmNew_any w2).mono ?_
  rintro e w3 ⟨m2, p2, rfl, y, b23⟩
  have t3 := TwoC.make x hx b02 y b23
  have bb3 : Below w.heap.size w w3 := b02.trans (b23.mono b02.size)
  clear x hx b02 y b23
  go_wp2
  go_loopw [9, 10, 11] (fun i _ _ wr => ∃ (j : Nat) (acc : Int) (st : List TV), j ≤ n ∧ i = I (j : Int) ∧ TwoC (· < w.heap.size) wr m1 p1 m2 acc st acc st ∧ Below w.heap.size w wr) (fun i _ _ _ => (n - intOf i).toNat)
  case atStart => exact ⟨0, 0, [], by omega, rfl, t3, bb3⟩
  case round =>
    clear t3 bb3
    obtain ⟨j, acc, st, hj, rfl, tr, br⟩ := hrel
    by_cases hlt : j < n
    · by_cases hM : (j : Int) < 4398046511104
      · obtain ⟨b, off, K, A, B, C, s, t, e, hl, c0, c1, c2, c3, c4, c5, hs63⟩ := (Hops.out j hlt)
        subst e
        have hjn : (j : Int) < (n : Int) := by omega
        have hc : ∀ W, Below w.heap.size w W → W.cell? ⟨b, off + j * 6, none⟩ = some (I K) ∧ W.cell? ⟨b, off + j * 6 + 1, none⟩ = some (I A) ∧ W.cell? ⟨b, off + j * 6 + 2, none⟩ = some (I B) ∧ W.cell? ⟨b, off + j * 6 + 3, none⟩ = some (I C) ∧ W.cell? ⟨b, off + j * 6 + 4, none⟩ = some (S s) ∧ W.cell? ⟨b, off + j * 6 + 5, none⟩ = some (.string t) := by
          intro W bW
          rw [bW.cell (p := ⟨b, _, none⟩) hl, bW.cell (p := ⟨b, _, none⟩) hl, bW.cell (p := ⟨b, _, none⟩) hl, bW.cell (p := ⟨b, _, none⟩) hl, bW.cell (p := ⟨b, _, none⟩) hl, bW.cell (p := ⟨b, _, none⟩) hl]
          exact ⟨c0, c1, c2, c3, c4, c5⟩
        clear c0 c1 c2 c3 c4 c5
        have HC : Hid _ := hc
        clear hc
        obtain ⟨c0, c1, c2, c3, c4, c5⟩ := HC.out wr br
        have D := do_any tr K A B C s t hs63 _ rfl
        have M := fun L V (hV : TwoC L V m1 p1 m2 (doC K s acc st).2.1 (doC K s acc st).2.2 acc st) => doM_any hV K A B C s t hs63 _ rfl
        generalize doC K s acc st = r at D M
        obtain ⟨⟨er, nr, sr⟩, acc', st'⟩ := r
        dsimp only at D M
        have HM : Hid _ := M
        clear M
        go_wp2_with fail
        refine D.mono ?_
        rintro e w3 ⟨rfl, t3, k3⟩
        have b3 := br.trans k3.below
        have t4 := t3.box (.cells #[I er, I nr, I 0, S sr] 57)
        have b4 := b3.alloc b3.size (.cells #[I er, I nr, I 0, S sr] 57)
        have TR : Blk (w3.alloc (.cells #[I er, I nr, I 0, S sr] 57)) w3.heap.size #[I er, I nr, I 0, S sr] 57 := Blk.new rfl
        clear D c0 c1 c2 c3 c4 c5 tr br k3 t3
        obtain ⟨c0, c1, c2, c3, c4, c5⟩ := HC.out _ b3
        have hl3 := Nat.lt_of_lt_of_le hl b3.size
        have lne : b ≠ w3.heap.size := by omega
        obtain ⟨d0, d1, d2, d3, d4, d5⟩ := HC.out _ b4
        go_wp2_with fail
        refine (HM.out _ _ t4).mono ?_
        rintro e w5 ⟨rfl, t5, k5⟩
        have TR5 := TR.kept k5 (.inr rfl)
        have b5 : Below w.heap.size w w5 := b4.trans (k5.weak (fun _ h => .inl h)).below
        clear HM c0 c1 c2 c3 c4 c5 d0 d1 d2 d3 d4 d5 t4 b4 TR k5 b3
        have TR6 := TR5.old (.cells #[I er, I nr, I 0, S sr] 57)
        generalize w3.heap.size = G at *
        have t6 : TwoC (· < w.heap.size) (w5.alloc (.cells #[I er, I nr, I 0, S sr] 57)) m1 p1 m2 acc' st' acc' st' := (t5.later ((Below.refl _ _).alloc (Nat.le_refl _) _)).weak (fun _ h => .inl h)
        have b6 := b5.alloc b5.size (.cells #[I er, I nr, I 0, S sr] 57)
        obtain ⟨r0, r1, r2⟩ := TR6.facts
        have hG := TR5.lt
        have hGne : G ≠ w5.heap.size := by omega
        go_wp2
        go_roundw
        case rel => exact ⟨j + 1, acc', st', by omega, by go_num, t6, b6⟩
        case measure => simp [intOf]; omega
      · have hjn : (j : Int) < (n : Int) := by omega
        have hnM : ¬ (n : Int) < 4398046511104 := by omega
        go_wp2
        go_ret2
        exact ⟨⟨_, rfl⟩, br⟩
    · have hjn : ¬ (j : Int) < (n : Int) := by omega
      by_cases hnM : (n : Int) < 4398046511104
      · go_wp2
        go_ret2
        exact ⟨⟨_, rfl⟩, br⟩
      · go_wp2
        go_ret2
        exact ⟨⟨_, rfl⟩, br⟩
set_option maxRecDepth 100000 in
set_option maxHeartbeats 1000000 in
theorem rUpTo_quiet (w : World) (ao : Option Addr) (n cap : Nat) (hops : ∀ i, i < n → OpS w ao i) (hn : n < 9223372036854775808) :
    Calls Try.prog 25 #[.slice ao n cap] w fun e w' => e = .returned (I (-1)) ∧ Below w.heap.size w w' := by
  go_enter Try.func25, Try.ntmps25
  go_wp2_with fail
  refine (walk_quiet w ao n cap hops hn).mono ?_
  rintro e w1 ⟨k, rfl, b⟩
  go_wp2
  go_ret
  exact ⟨rfl, b⟩
set_option maxRecDepth 100000 in
set_option maxHeartbeats 1000000 in
theorem refines_quiet (w : World) (ao : Option Addr) (n cap : Nat) (hops : ∀ i, i < n → OpS w ao i) (hn : n < 9223372036854775808) :
    Calls Try.prog 6 #[.slice ao n cap] w fun e w' => e = .returned (.bool true) ∧ Below w.heap.size w w' := by
  go_enter Try.func6, Try.ntmps6
  go_wp2_with fail
  refine (rUpTo_quiet w ao n cap hops hn).mono ?_
  rintro e w1 ⟨rfl, b⟩
  go_wp2
  go_ret
  exact ⟨rfl, b⟩
end Go.Proofs.Qxb6500470a
