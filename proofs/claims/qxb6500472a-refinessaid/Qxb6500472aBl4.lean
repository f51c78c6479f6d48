import Derived.Test.Qxb6500472aBl3
namespace Go.Proofs.Qxb6500472a
open Go.RowKit
attribute [local go_sem] run_store_float drewN_alloc drewN_setCell

set_option maxRecDepth 100000 in
set_option maxHeartbeats 4000000 in
theorem walk_loud (w : World) (ao : Option Addr) (n cap : Nat) (hops : ∀ i, i < n → OpR w ao i) (hn : n < 9223372036854775808) :
    Calls Try.prog 25 #[.slice ao n cap, .bool false] w fun e w' => ∃ k : Int, e = .returned (.tuple #[I (-1), I k]) ∧ Below w.heap.size w w' := by
  have Hops : Hid _ := hops
  clear hops
  go_enter Try.func25, Try.ntmps25
  go_wp2_with fail
  refine (ground_any w).mono ?_
  rintro e w1 ⟨px, bx, py, bY, rfl, sx1, sy1, nd1, lo1, b1⟩
  have hz := b1.size
  go_wp2_with fail
  have H1 : Blk (w1.alloc (.cells #[ptr px, ptr py] 27)) w1.heap.size #[ptr px, ptr py] 27 := Blk.new rfl
  have c1 : Below w1.heap.size w1 (w1.alloc (.cells #[ptr px, ptr py] 27)) := (Below.refl _ _).alloc (Nat.le_refl _) _
  refine (boxNew_any px py _).mono ?_
  rintro e w2 ⟨rfl, e2⟩
  have b2 : Below (w1.alloc (.cells #[ptr px, ptr py] 27)).heap.size (w1.alloc (.cells #[ptr px, ptr py] 27)) w2 := by rw [e2]; exact (Below.refl _ _).alloc (Nat.le_refl _) _
  have B2 : Blk w2 (w1.alloc (.cells #[ptr px, ptr py] 27)).heap.size (boxCells px py 0 ax0 ax0) 62 := by rw [e2]; exact Blk.new rfl
  have H2 := H1.below b2 H1.lt
  clear e2
  have sx2 := (sx1.later c1).later b2
  have sy2 := (sy1.later c1).later b2
  have bb2 : Below w.heap.size w w2 := b1.trans ((c1.trans (b2.mono (by simp))).mono hz)
  simp only [World.size_alloc] at B2 ⊢
  go_wp2_with fail
  refine (mbNew_any w2).mono ?_
  rintro e w3 ⟨q, L, rfl, m3, lo3, b3⟩
  have lx : px < w1.heap.size := sx1.head.lt
  have lbx : bx < w1.heap.size := sx1.rows.lt
  have ly : py < w1.heap.size := sy1.head.lt
  have lby : bY < w1.heap.size := sy1.rows.lt
  have hz2 : w1.heap.size + 1 < w2.heap.size := B2.lt
  have ca : ax0.can = axF [] := by unfold axF ax0 Ax.can; rw [if_pos rfl, can32_zero]
  have t3 : TwoB w.heap.size w3 w1.heap.size (w1.heap.size + 1) px bx py bY q L [] [] [] [] := by
    refine ⟨⟨⟨ax0, ax0, B2.below b3 B2.lt, ca, ca⟩, ⟨_, sx2.later b3, by intro i hi; simp at hi⟩, ⟨_, sy2.later b3, by intro i hi; simp at hi⟩, rfl, ?_, .nil, .nil⟩, m3, H2.below b3 H2.lt, ?_, ?_, ?_, ?_⟩
    · refine List.nodup_cons.2 ⟨?_, nd1⟩
      simp
      omega
    · intro k hk
      have hk1 : k < w2.heap.size ∧ w.heap.size ≤ k := by
        rcases List.mem_cons.1 hk with e | e
        · omega
        · have := lo1 k e
          simp at e
          omega
      exact ⟨hk1.2, fun hm => by have := lo3 k hm; omega⟩
    · intro k hk
      have := lo3 k hk
      omega
    · simp
      omega
    · intro hm
      have := lo3 _ hm
      omega
  have bb3 : Below w.heap.size w w3 := bb2.trans (b3.mono bb2.size)
  generalize w1.heap.size + 1 = b at *
  generalize w1.heap.size = g at *
  clear b1 b2 b3 m3 sx1 sy1 sx2 sy2 nd1 lo1 lo3 hz hz2 lx lbx ly lby B2 H1 H2 c1 bb2 ca
  go_wp2
  go_loopw [9] (fun i wr => ∃ (j : Nat) (L A B : List Nat), j ≤ n ∧ i = I (j : Int) ∧ TwoB w.heap.size wr g b px bx py bY q L A B A B ∧ Below w.heap.size w wr) (fun i _ => (n - intOf i).toNat)
  case atStart => exact ⟨0, L, [], [], by omega, rfl, t3, bb3⟩
  case round =>
    obtain ⟨j, L, A, B, hj, rfl, tr, br⟩ := hrel
    by_cases hlt : j < n
    · by_cases hM : (j : Int) < 4398046511104
      · obtain ⟨bo, off, K, x, y, z, s, t, e, hl, c0, c1, c2, c3, c4, c5, ix, iy, iz⟩ := (Hops.out j hlt)
        subst e
        have hjn : (j : Int) < (n : Int) := by omega
        rw [← br.cell (p := ⟨bo, _, none⟩) hl] at c0 c1 c2 c3 c4 c5
        have D := fun V hV => dor_any V b px bx py bY A B hV tr.real.len tr.real.fx tr.real.fy tr.real.lt.2 K x y z ix iy iz s t
        have M := fun V L hV => dom_any V q L A B hV tr.real.len tr.real.fx tr.real.fy tr.real.lt.2 K x y z ix iy iz s t
        generalize doB K x y z A B = r at D M
        obtain ⟨⟨er, nr, sr⟩, C, D'⟩ := r
        go_wp2_with fail
        clear c0 c1 c2 c3 c4 c5
        have tA := tr.alloc (.cells #[I K, I x, I y, I z, .string s, .string t] 48)
        have bA := br.alloc br.size (.cells #[I K, I x, I y, I z, .string s, .string t] 48)
        have TO : Blk (wr.alloc (.cells #[I K, I x, I y, I z, .string s, .string t] 48)) wr.heap.size #[I K, I x, I y, I z, .string s, .string t] 48 := Blk.new rfl
        have lt1 := tr.lt.1
        clear tr br
        refine (D _ tA.real).mono ?_
        rintro e w3 ⟨rfl, p3⟩
        obtain ⟨t3, b3⟩ := tA.mid p3
        have TO3 := p3.blk TO lt1
        have bb3 := bA.trans b3
        clear tA bA TO D p3 b3 lt1
        generalize wr.heap.size = G at *
        dsimp only at t3 bb3 TO3 ⊢
        have TO4 := TO3.old (.cells #[I er, I nr, I 0, S sr] 50)
        obtain ⟨o0, o1, o2⟩ := TO4.facts
        go_wp2_with fail
        have t4 := t3.alloc (.cells #[I er, I nr, I 0, S sr] 50)
        have b4 := bb3.alloc bb3.size (.cells #[I er, I nr, I 0, S sr] 50)
        have TR : Blk (w3.alloc (.cells #[I er, I nr, I 0, S sr] 50)) w3.heap.size #[I er, I nr, I 0, S sr] 50 := Blk.new rfl
        have lt3 := t3.lt.2
        clear t3 bb3 TO3 TO4 o0 o1 o2
        refine (M _ L t4.mod).mono ?_
        rintro e w5 ⟨rfl, m5⟩
        have TR5 := m5.blk TR lt3
        obtain ⟨⟨L5, t5⟩, b5⟩ := t4.model m5
        have bb5 := b4.trans b5
        clear t4 b4 TR M m5 b5 lt3
        generalize w3.heap.size = H at *
        dsimp only at t5 bb5 TR5 ⊢
        have TR6 := TR5.old (.cells #[I er, I nr, I 0, S sr] 50)
        obtain ⟨r0, r1, r2⟩ := TR6.facts
        have t6 := t5.alloc (.cells #[I er, I nr, I 0, S sr] 50)
        have b6 := bb5.alloc bb5.size (.cells #[I er, I nr, I 0, S sr] 50)
        obtain ⟨gf0, gf1, gf2⟩ := t6.hand.facts
        go_wp2_with fail
        refine (alike_any _ _ g b px bx py bY q L5 C D' t6).mono ?_
        rintro e w7 ⟨rfl, ⟨L7, t7⟩, b7⟩
        have bb7 := b6.trans b7
        clear t6 b6 b7 r0 r1 r2 TR5 TR6 t5 bb5 gf0 gf1 gf2
        go_wp2
        go_roundw
        case rel => exact ⟨j + 1, L7, C, D', by omega, by go_num, t7, bb7⟩
        case measure => simp [intOf]; omega
      · have hjn : (j : Int) < (n : Int) := by omega
        have hnM : ¬ (n : Int) < 4398046511104 := by omega
        go_wp2
        go_ret2
        exact ⟨⟨_, rfl⟩, br⟩
    · have hjn : ¬ (j : Int) < (n : Int) := by omega
      by_cases hnM : (n : Int) < 4398046511104
      · go_wp2
        go_ret2
        exact ⟨⟨_, rfl⟩, br⟩
      · go_wp2
        go_ret2
        exact ⟨⟨_, rfl⟩, br⟩

set_option maxRecDepth 100000 in
set_option maxHeartbeats 4000000 in
theorem walk_quiet (w : World) (ao : Option Addr) (n cap : Nat) (hops : ∀ i, i < n → OpR w ao i) (hn : n < 9223372036854775808) :
    Calls Try.prog 25 #[.slice ao n cap, .bool true] w fun e w' => ∃ k : Int, e = .returned (.tuple #[I (-1), I k]) ∧ Below w.heap.size w w' := by
  have Hops : Hid _ := hops
  clear hops
  go_enter Try.func25, Try.ntmps25
  go_wp2_with fail
  refine (ground_any w).mono ?_
  rintro e w1 ⟨px, bx, py, bY, rfl, sx1, sy1, nd1, lo1, b1⟩
  have hz := b1.size
  go_wp2_with fail
  have H1 : Blk (w1.alloc (.cells #[ptr px, ptr py] 27)) w1.heap.size #[ptr px, ptr py] 27 := Blk.new rfl
  have c1 : Below w1.heap.size w1 (w1.alloc (.cells #[ptr px, ptr py] 27)) := (Below.refl _ _).alloc (Nat.le_refl _) _
  refine (boxNew_any px py _).mono ?_
  rintro e w2 ⟨rfl, e2⟩
  have b2 : Below (w1.alloc (.cells #[ptr px, ptr py] 27)).heap.size (w1.alloc (.cells #[ptr px, ptr py] 27)) w2 := by rw [e2]; exact (Below.refl _ _).alloc (Nat.le_refl _) _
  have B2 : Blk w2 (w1.alloc (.cells #[ptr px, ptr py] 27)).heap.size (boxCells px py 0 ax0 ax0) 62 := by rw [e2]; exact Blk.new rfl
  have H2 := H1.below b2 H1.lt
  clear e2
  have sx2 := (sx1.later c1).later b2
  have sy2 := (sy1.later c1).later b2
  have bb2 : Below w.heap.size w w2 := b1.trans ((c1.trans (b2.mono (by simp))).mono hz)
  simp only [World.size_alloc] at B2 ⊢
  go_wp2_with fail
  refine (mbNew_any w2).mono ?_
  rintro e w3 ⟨q, L, rfl, m3, lo3, b3⟩
  have lx : px < w1.heap.size := sx1.head.lt
  have lbx : bx < w1.heap.size := sx1.rows.lt
  have ly : py < w1.heap.size := sy1.head.lt
  have lby : bY < w1.heap.size := sy1.rows.lt
  have hz2 : w1.heap.size + 1 < w2.heap.size := B2.lt
  have ca : ax0.can = axF [] := by unfold axF ax0 Ax.can; rw [if_pos rfl, can32_zero]
  have t3 : TwoB w.heap.size w3 w1.heap.size (w1.heap.size + 1) px bx py bY q L [] [] [] [] := by
    refine ⟨⟨⟨ax0, ax0, B2.below b3 B2.lt, ca, ca⟩, ⟨_, sx2.later b3, by intro i hi; simp at hi⟩, ⟨_, sy2.later b3, by intro i hi; simp at hi⟩, rfl, ?_, .nil, .nil⟩, m3, H2.below b3 H2.lt, ?_, ?_, ?_, ?_⟩
    · refine List.nodup_cons.2 ⟨?_, nd1⟩
      simp
      omega
    · intro k hk
      have hk1 : k < w2.heap.size ∧ w.heap.size ≤ k := by
        rcases List.mem_cons.1 hk with e | e
        · omega
        · have := lo1 k e
          simp at e
          omega
      exact ⟨hk1.2, fun hm => by have := lo3 k hm; omega⟩
    · intro k hk
      have := lo3 k hk
      omega
    · simp
      omega
    · intro hm
      have := lo3 _ hm
      omega
  have bb3 : Below w.heap.size w w3 := bb2.trans (b3.mono bb2.size)
  generalize w1.heap.size + 1 = b at *
  generalize w1.heap.size = g at *
  clear b1 b2 b3 m3 sx1 sy1 sx2 sy2 nd1 lo1 lo3 hz hz2 lx lbx ly lby B2 H1 H2 c1 bb2 ca
  go_wp2
  go_loopw [9] (fun i wr => ∃ (j : Nat) (L A B : List Nat), j ≤ n ∧ i = I (j : Int) ∧ TwoB w.heap.size wr g b px bx py bY q L A B A B ∧ Below w.heap.size w wr) (fun i _ => (n - intOf i).toNat)
  case atStart => exact ⟨0, L, [], [], by omega, rfl, t3, bb3⟩
  case round =>
    obtain ⟨j, L, A, B, hj, rfl, tr, br⟩ := hrel
    by_cases hlt : j < n
    · by_cases hM : (j : Int) < 4398046511104
      · obtain ⟨bo, off, K, x, y, z, s, t, e, hl, c0, c1, c2, c3, c4, c5, ix, iy, iz⟩ := (Hops.out j hlt)
        subst e
        have hjn : (j : Int) < (n : Int) := by omega
        rw [← br.cell (p := ⟨bo, _, none⟩) hl] at c0 c1 c2 c3 c4 c5
        have D := fun V hV => dor_any V b px bx py bY A B hV tr.real.len tr.real.fx tr.real.fy tr.real.lt.2 K x y z ix iy iz s t
        have M := fun V L hV => dom_any V q L A B hV tr.real.len tr.real.fx tr.real.fy tr.real.lt.2 K x y z ix iy iz s t
        generalize doB K x y z A B = r at D M
        obtain ⟨⟨er, nr, sr⟩, C, D'⟩ := r
        go_wp2_with fail
        clear c0 c1 c2 c3 c4 c5
        have tA := tr.alloc (.cells #[I K, I x, I y, I z, .string s, .string t] 48)
        have bA := br.alloc br.size (.cells #[I K, I x, I y, I z, .string s, .string t] 48)
        have TO : Blk (wr.alloc (.cells #[I K, I x, I y, I z, .string s, .string t] 48)) wr.heap.size #[I K, I x, I y, I z, .string s, .string t] 48 := Blk.new rfl
        have lt1 := tr.lt.1
        clear tr br
        refine (D _ tA.real).mono ?_
        rintro e w3 ⟨rfl, p3⟩
        obtain ⟨t3, b3⟩ := tA.mid p3
        have TO3 := p3.blk TO lt1
        have bb3 := bA.trans b3
        clear tA bA TO D p3 b3 lt1
        generalize wr.heap.size = G at *
        dsimp only at t3 bb3 TO3 ⊢
        have TO4 := TO3.old (.cells #[I er, I nr, I 0, S sr] 50)
        obtain ⟨o0, o1, o2⟩ := TO4.facts
        go_wp2_with fail
        have t4 := t3.alloc (.cells #[I er, I nr, I 0, S sr] 50)
        have b4 := bb3.alloc bb3.size (.cells #[I er, I nr, I 0, S sr] 50)
        have TR : Blk (w3.alloc (.cells #[I er, I nr, I 0, S sr] 50)) w3.heap.size #[I er, I nr, I 0, S sr] 50 := Blk.new rfl
        have lt3 := t3.lt.2
        clear t3 bb3 TO3 TO4 o0 o1 o2
        refine (M _ L t4.mod).mono ?_
        rintro e w5 ⟨rfl, m5⟩
        have TR5 := m5.blk TR lt3
        obtain ⟨⟨L5, t5⟩, b5⟩ := t4.model m5
        have bb5 := b4.trans b5
        clear t4 b4 TR M m5 b5 lt3
        generalize w3.heap.size = H at *
        dsimp only at t5 bb5 TR5 ⊢
        have TR6 := TR5.old (.cells #[I er, I nr, I 0, S sr] 50)
        obtain ⟨r0, r1, r2⟩ := TR6.facts
        have t6 := t5.alloc (.cells #[I er, I nr, I 0, S sr] 50)
        have b6 := bb5.alloc bb5.size (.cells #[I er, I nr, I 0, S sr] 50)
        obtain ⟨gf0, gf1, gf2⟩ := t6.hand.facts
        have t7 := t6
        have bb7 := b6
        clear gf0 gf1 gf2
        go_wp2
        go_roundw
        case rel => exact ⟨j + 1, L5, C, D', by omega, by go_num, t7, bb7⟩
        case measure => simp [intOf]; omega
      · have hjn : (j : Int) < (n : Int) := by omega
        have hnM : ¬ (n : Int) < 4398046511104 := by omega
        go_wp2
        go_ret2
        exact ⟨⟨_, rfl⟩, br⟩
    · have hjn : ¬ (j : Int) < (n : Int) := by omega
      by_cases hnM : (n : Int) < 4398046511104
      · go_wp2
        go_ret2
        exact ⟨⟨_, rfl⟩, br⟩
      · go_wp2
        go_ret2
        exact ⟨⟨_, rfl⟩, br⟩

set_option maxHeartbeats 400000 in
theorem refines_any (w : World) (ao : Option Addr) (n cap : Nat) (hops : ∀ i, i < n → OpR w ao i) (hn : n < 9223372036854775808) :
    Calls Try.prog 4 #[.slice ao n cap] w fun e w' => e = .returned (.bool true) ∧ Below w.heap.size w w' := by
  have up : Calls Try.prog 8 #[.slice ao n cap] w fun e w' => e = .returned (I (-1)) ∧ Below w.heap.size w w' := by
    go_enter Try.func8, Try.ntmps8
    go_wp2_with fail
    refine (walk_loud w ao n cap hops hn).mono ?_
    rintro e w1 ⟨k, rfl, b1⟩
    go_wp2
    go_ret
    exact ⟨rfl, b1⟩
  go_enter Try.func4, Try.ntmps4
  go_wp2_with fail
  refine up.mono ?_
  rintro e w1 ⟨rfl, b1⟩
  go_wp2
  go_ret
  exact ⟨rfl, b1⟩
set_option maxHeartbeats 400000 in
theorem refinesQuiet_any (w : World) (ao : Option Addr) (n cap : Nat) (hops : ∀ i, i < n → OpR w ao i) (hn : n < 9223372036854775808) :
    Calls Try.prog 5 #[.slice ao n cap] w fun e w' => e = .returned (.bool true) ∧ Below w.heap.size w w' := by
  have up : Calls Try.prog 9 #[.slice ao n cap] w fun e w' => e = .returned (I (-1)) ∧ Below w.heap.size w w' := by
    go_enter Try.func9, Try.ntmps9
    go_wp2_with fail
    refine (walk_quiet w ao n cap hops hn).mono ?_
    rintro e w1 ⟨k, rfl, b1⟩
    go_wp2
    go_ret
    exact ⟨rfl, b1⟩
  go_enter Try.func5, Try.ntmps5
  go_wp2_with fail
  refine up.mono ?_
  rintro e w1 ⟨rfl, b1⟩
  go_wp2
  go_ret
  exact ⟨rfl, b1⟩
end Go.Proofs.Qxb6500472a
