import Derived.Test.Qxb6500472aKb2
import Derived.Test.Qxb6500472aKw8
namespace Go.Proofs.Qxb6500472a
open Go.RowKit
attribute [local go_sem] run_store_float drewN_alloc drewN_setCell

set_option maxRecDepth 100000 in
set_option maxHeartbeats 8000000 in
theorem keepsUpTo_any (w : World) (ao : Option Addr) (n cap : Nat) (hops : ∀ i, i < n → OpR w ao i) (hn : n < 9223372036854775808) :
    Calls Try.prog 7 #[.slice ao n cap] w fun e w' => e = .returned (I (-1)) ∧ Below w.heap.size w w' := by
  have Hops : Hid _ := hops
  clear hops
  go_enter Try.func7, Try.ntmps7
  go_wp2_with fail
  refine (ground_any w).mono ?_
  rintro e w1 ⟨px, bx, py, bY, rfl, sx1, sy1, nd1, lo1, b1⟩
  have hz := b1.size
  go_wp2_with fail
  have H1 : Blk (w1.alloc (.cells #[ptr px, ptr py] 27)) w1.heap.size #[ptr px, ptr py] 27 := Blk.new rfl
  have c1 : Below w1.heap.size w1 (w1.alloc (.cells #[ptr px, ptr py] 27)) := (Below.refl _ _).alloc (Nat.le_refl _) _
  have sx1' := sx1.later c1
  have sy1' := sy1.later c1
  have bb1 : Below w.heap.size w (w1.alloc (.cells #[ptr px, ptr py] 27)) := b1.trans (c1.mono hz)
  have lx : px < w1.heap.size := sx1.head.lt
  have lbx : bx < w1.heap.size := sx1.rows.lt
  have ly : py < w1.heap.size := sy1.head.lt
  have lby : bY < w1.heap.size := sy1.rows.lt
  have hzz : (w1.alloc (.cells #[ptr px, ptr py] 27)).heap.size = w1.heap.size + 1 := World.size_alloc _ _
  generalize w1.alloc (.cells #[ptr px, ptr py] 27) = v1 at *
  clear b1 c1 sx1 sy1
  refine (mine_any v1).mono ?_
  rintro e w2 ⟨hx, hy, rfl, mx2, my2, ne2, nx2, ny2, b2⟩
  have hz2 := b2.size
  have H2 := H1.below b2 H1.lt
  have sx2 := sx1'.later b2
  have sy2 := sy1'.later b2
  have bb2 := bb1.trans (b2.mono bb1.size)
  have lhx := mx2.lt.1
  have lhy := my2.lt.1
  have c2 : Below w2.heap.size w2 (w2.alloc (.cells #[ptr hx, ptr hy] 42)) := (Below.refl _ _).alloc (Nat.le_refl _) _
  have Q2 : Blk (w2.alloc (.cells #[ptr hx, ptr hy] 42)) w2.heap.size #[ptr hx, ptr hy] 42 := Blk.new rfl
  have H3 := H2.below c2 H2.lt
  obtain ⟨h1, h2, h3⟩ := H3.facts
  go_wp2_with fail
  have mx3 := mx2.later c2
  have my3 := my2.later c2
  have sx3 := sx2.later c2
  have sy3 := sy2.later c2
  have bb3 := bb2.trans (c2.mono bb2.size)
  have hz3 : (w2.alloc (.cells #[ptr hx, ptr hy] 42)).heap.size = w2.heap.size + 1 := World.size_alloc _ _
  generalize w2.alloc (.cells #[ptr hx, ptr hy] 42) = v2 at *
  clear H1 sx1' sy1' bb1 b2 H2 mx2 my2 sx2 sy2 bb2 c2
  refine (mark_any v2 px py).mono ?_
  rintro e w3 ⟨rfl, b3⟩
  have H4 := H3.below b3 H3.lt
  have Q4 := Q2.below b3 Q2.lt
  have mx4 := mx3.later b3
  have my4 := my3.later b3
  have sx4 := sx3.later b3
  have sy4 := sy3.later b3
  have bb4 := bb3.trans (b3.mono bb3.size)
  have hz4 := b3.size
  clear h1 h2 h3 H3 Q2 mx3 my3 sx3 sy3 bb3 b3
  obtain ⟨h1, h2, h3⟩ := H4.facts
  go_wp2_with fail
  refine (boxNew_any px py _).mono ?_
  rintro e w4 ⟨rfl, e4⟩
  have b5 : Below w3.heap.size w3 w4 := by rw [e4]; exact (Below.refl _ _).alloc (Nat.le_refl _) _
  have B5 : Blk w4 w3.heap.size (boxCells px py 0 ax0 ax0) 62 := by rw [e4]; exact Blk.new rfl
  clear e4
  have ca : ax0.can = axF [] := by unfold axF ax0 Ax.can; rw [if_pos rfl, can32_zero]
  have t5 : TwoK w.heap.size w4 w1.heap.size w3.heap.size px bx py bY w2.heap.size hx hy (mOwn w2.heap.size hx hy none none) [] [] [] [] := by
    refine ⟨⟨⟨ax0, ax0, B5, ca, ca⟩, ⟨_, sx4.later b5, by intro i hi; simp at hi⟩, ⟨_, sy4.later b5, by intro i hi; simp at hi⟩, rfl, ?_, .nil, .nil⟩, ⟨none, none, ⟨Q4.below b5 Q4.lt, mx4.later b5, my4.later b5, ?_⟩, rfl⟩, H4.below b5 H4.lt, ?_, ?_, ?_, ?_⟩
    · refine List.nodup_cons.2 ⟨?_, nd1⟩
      simp
      omega
    · refine nodup_of (by omega) (by omega) ne2 ?_ ?_ ?_ <;> (intro g hg; cases hg)
    · intro k hk
      have hk1 : (k = w3.heap.size ∨ k < w1.heap.size) ∧ w.heap.size ≤ k := by
        rcases List.mem_cons.1 hk with e | e
        · omega
        · have := lo1 k e
          simp at e
          omega
      refine ⟨hk1.2, ?_⟩
      simp [mOwn]
      omega
    · intro k hk
      simp [mOwn] at hk
      omega
    · simp
      omega
    · simp [mOwn]
      omega
  have bb5 := bb4.trans (b5.mono bb4.size)
  generalize mOwn w2.heap.size hx hy none none = L at *
  generalize w3.heap.size = b at *
  generalize w2.heap.size = q at *
  generalize w1.heap.size = g at *
  clear h1 h2 h3 H4 Q4 mx4 my4 sx4 sy4 bb4 b5 B5 ca nd1 lo1 hz hz2 hz3 hz4 lhx lhy lx lbx ly lby hzz ne2 nx2 ny2
  obtain ⟨h1, h2, h3⟩ := t5.hand.facts
  go_wp2_with fail
  refine (asks_any w4 px py).mono ?_
  rintro e w5 ⟨rfl, b6⟩
  have t6 := t5.later b6
  have bb6 := bb5.trans (b6.mono t5.size)
  clear h1 h2 h3 t5 bb5 b6
  go_wp2_with fail
  refine (work_any _ _ _).mono ?_
  rintro e w6 ⟨rfl, rfl⟩
  go_wp2
  go_loopw [7] (fun i wr => ∃ (j : Nat) (L A B : List Nat), j ≤ n ∧ i = I (j : Int) ∧ TwoK w.heap.size wr g b px bx py bY q hx hy L A B A B ∧ Below w.heap.size w wr) (fun i _ => (n - intOf i).toNat)
  case atStart => exact ⟨0, L, [], [], by omega, rfl, t6, bb6⟩
  case round =>
    obtain ⟨j, L, A, B, hj, rfl, tr, br⟩ := hrel
    by_cases hlt : j < n
    · by_cases hM : (j : Int) < 4398046511104
      · obtain ⟨bo, off, K, x, y, z, s, t, e, hl, c0, c1, c2, c3, c4, c5, ix, iy, iz⟩ := (Hops.out j hlt)
        subst e
        have hjn : (j : Int) < (n : Int) := by omega
        rw [← br.cell (p := ⟨bo, _, none⟩) hl] at c0 c1 c2 c3 c4 c5
        have D := fun V hV => dor_any V b px bx py bY A B hV tr.real.len tr.real.fx tr.real.fy tr.real.lt.2 K x y z ix iy iz s t
        have NT := fun V L hV => note_any V q hx hy L A B hV tr.real.len tr.real.lt.2 K x y z s t
        have ML : K = 1 → (doB K x y z A B).1.1 = 0 → (∃ i, i < (doB K x y z A B).2.1.length ∧ (doB K x y z A B).2.1.getD i 0 = ratioF x z) ∧ ∃ i, i < (doB K x y z A B).2.2.length ∧ (doB K x y z A B).2.2.getD i 0 = ratioF y z := by
          rintro rfl
          have e1 : doB 1 x y z A B = if A.length = 8 then ((1, 0, []), (A, B)) else ((0, 0, []), (A ++ [ratioF x z], B ++ [ratioF y z])) := rfl
          rw [e1]
          split
          · intro h1; cases h1
          · intro _
            exact ⟨⟨A.length, by simp, by simp⟩, ⟨B.length, by simp, by simp⟩⟩
        generalize doB K x y z A B = r at D NT ML
        obtain ⟨⟨er, nr, sr⟩, C, D'⟩ := r
        have MN := fun V hV => means_any V b px bx py bY C D' hV K x y z er ix iy iz ML s t
        have kA := KS.new tr #[I K, I x, I y, I z, .string s, .string t] 48
        have bA := br.alloc br.size (.cells #[I K, I x, I y, I z, .string s, .string t] 48)
        obtain ⟨h1, h2, h3⟩ := kA.two.hand.facts
        go_wp2_with fail
        clear c0 c1 c2 c3 c4 c5 tr br
        generalize wr.alloc (.cells #[I K, I x, I y, I z, .string s, .string t] 48) = v1 at *
        generalize wr.heap.size = G at *
        refine (mark_any v1 px py).mono ?_
        rintro e v2 ⟨rfl, d2⟩
        have k2 := kA.later d2
        have b2 := bA.trans (d2.mono kA.two.size)
        clear h1 h2 h3 kA bA d2
        obtain ⟨o1, o2, o3⟩ := k2.op.facts
        go_wp2_with fail
        refine (D _ k2.two.real).mono ?_
        rintro e v3 ⟨rfl, p3⟩
        obtain ⟨k3, d3⟩ := k2.mid p3
        have b3 := b2.trans d3
        clear o1 o2 o3 k2 b2 d3 p3 D
        dsimp only at k3 b3 ⊢
        have a4 := KS.new k3.two #[I er, I nr, I 0, S sr] 50
        have k4 := k3.later ((Below.refl _ v3).alloc (Nat.le_refl _) (.cells #[I er, I nr, I 0, S sr] 50))
        have b4 := b3.alloc b3.size (.cells #[I er, I nr, I 0, S sr] 50)
        obtain ⟨h1, h2, h3⟩ := a4.two.hand.facts
        go_wp2_with fail
        generalize v3.alloc (.cells #[I er, I nr, I 0, S sr] 50) = v4 at *
        generalize v3.heap.size = H at *
        clear k3 b3
        refine (asks_any v4 px py).mono ?_
        rintro e v5 ⟨rfl, d5⟩
        have k5 := k4.later d5
        have a5 := a4.later d5
        have b5 := b4.trans (d5.mono k4.two.size)
        clear h1 h2 h3 k4 a4 b4 d5
        obtain ⟨o1, o2, o3⟩ := k5.op.facts
        obtain ⟨a1, a2, a3⟩ := a5.op.facts
        obtain ⟨q1, q2, q3⟩ := k5.two.mod.head.facts
        go_wp2_with fail
        refine (work_any _ _ _).mono ?_
        rintro e v6 ⟨rfl, rfl⟩
        go_wp2_with fail
        refine (NT _ _ k5.two.mod).mono ?_
        rintro e v7 ⟨rfl, p7⟩
        obtain ⟨⟨L7, k7, a7⟩, d7⟩ := k5.model a5 p7
        have b7 := b5.trans d7
        clear o1 o2 o3 a1 a2 a3 q1 q2 q3 k5 a5 b5 d7 p7 NT
        dsimp only at k7 a7 ⊢
        obtain ⟨q1, q2, q3⟩ := k7.two.mod.head.facts
        obtain ⟨h1, h2, h3⟩ := k7.two.hand.facts
        go_wp2_with fail
        refine (handedP _ _ g b px bx py bY q hx hy _ _ _ k7.two).mono ?_
        rintro e v8 ⟨rfl, p8⟩
        obtain ⟨⟨L8, k8, a8⟩, d8⟩ := k7.model a7 p8
        have b8 := b7.trans d8
        clear q1 q2 q3 h1 h2 h3 k7 a7 b7 d8 p8
        obtain ⟨h1, h2, h3⟩ := k8.two.hand.facts
        go_wp2_with fail
        refine (mark_any _ px py).mono ?_
        rintro e v9 ⟨rfl, d9⟩
        have k9 := k8.later d9
        have a9 := a8.later d9
        have b9 := b8.trans (d9.mono k8.two.size)
        clear h1 h2 h3 k8 a8 b8 d9
        obtain ⟨q1, q2, q3⟩ := k9.two.mod.head.facts
        go_wp2_with fail
        refine (bounds_any _ _ g b px bx py bY q hx hy _ _ _ k9.two).mono ?_
        rintro e va ⟨rfl, pa, -⟩
        obtain ⟨⟨La, ka, aa⟩, da⟩ := k9.model a9 pa
        have ba := b9.trans da
        clear q1 q2 q3 k9 a9 b9 da pa
        obtain ⟨o1, o2, o3⟩ := ka.op.facts
        obtain ⟨a1, a2, a3⟩ := aa.op.facts
        go_wp2_with fail
        refine (MN _ ka.two.real).mono ?_
        rintro e vb ⟨rfl, db⟩
        have kb := ka.two.later db
        have bb := ba.trans (db.mono ka.two.size)
        clear o1 o2 o3 a1 a2 a3 ka aa ba db MN ML
        obtain ⟨h1, h2, h3⟩ := kb.hand.facts
        go_wp2_with fail
        refine (asks_any _ px py).mono ?_
        rintro e vc ⟨rfl, dc⟩
        have kc := kb.later dc
        have bc := bb.trans (dc.mono kb.size)
        clear h1 h2 h3 kb bb dc
        go_wp2_with fail
        refine (work_any _ _ _).mono ?_
        rintro e vd ⟨rfl, rfl⟩
        go_wp2
        go_roundw
        case rel => exact ⟨j + 1, La, C, D', by omega, by go_num, kc, bc⟩
        case measure => simp [intOf]; omega
      · have hjn : (j : Int) < (n : Int) := by omega
        go_wp2
        go_ret
        exact ⟨rfl, br⟩
    · have hjn : ¬ (j : Int) < (n : Int) := by omega
      go_wp2
      go_ret
      exact ⟨rfl, br⟩
set_option maxHeartbeats 400000 in
theorem keeps_any (w : World) (ao : Option Addr) (n cap : Nat) (hops : ∀ i, i < n → OpR w ao i) (hn : n < 9223372036854775808) :
    Calls Try.prog 3 #[.slice ao n cap] w fun e w' => e = .returned (.bool true) ∧ Below w.heap.size w w' := by
  go_enter Try.func3, Try.ntmps3
  go_wp2_with fail
  refine (keepsUpTo_any w ao n cap hops hn).mono ?_
  rintro e w1 ⟨rfl, b1⟩
  go_wp2
  go_ret
  exact ⟨rfl, b1⟩
end Go.Proofs.Qxb6500472a
