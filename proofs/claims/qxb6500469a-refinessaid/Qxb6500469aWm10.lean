import Derived.Test.Qxb6500469aWm8
import Derived.Deep.DeepCutAuto
namespace Go.Proofs.Qxb6500469a
open Go.RowKit

set_option maxRecDepth 100000 in
set_option maxHeartbeats 8000000 in
theorem walk_quiet (w : World) (ao : Option Addr) (n cap : Nat) (hops : ∀ i, i < n → OpAt w ao i) (hn : n < 9223372036854775808) :
    Calls Try.prog 23 #[.slice ao n cap, .bool true] w fun e w' => ∃ k : Int, e = .returned (.tuple #[I (-1), I k]) ∧ Below w.heap.size w w' := by
  have Hops : Hid _ := hops
  clear hops
  go_enter Try.func23, Try.ntmps23
  go_wp2_with fail
  refine (ground_any w).mono ?_
  rintro e w0 ⟨rfl, e0⟩
  go_wp2_with fail
  refine (fresh_any w0).mono ?_
  rintro e w1 ⟨x, c0, c1, rfl, xs, r0, r1, g0, g1, g2, e1⟩
  go_wp2_with fail
  refine (freshM_any w1).mono ?_
  rintro e w2 ⟨y, l0, l1, rfl, ys, k0, k1, f0, f1, f2, e2⟩
  have t2 : Two w.heap.size w2 x c0 c1 y l0 l1 z4 z4 z4 z4 := Two.make (xs.below e2 xs.lt) (BdR.later r0 e2) (BdR.later r1 e2) ys k0 k1 (by have := e0.size; omega) g1 g2 (by have := xs.lt; omega) f1 f2
  have bb2 := (e0.trans (e1.mono e0.size)).trans (e2.mono (by have := e0.size; have := e1.size; omega))
  clear xs r0 r1 g0 g1 g2 ys k0 k1 f0 f1 f2 e0 e1 e2
  go_wp2
  go_loopw [6, 7, 8, 9] (fun sx sm sw si wr => ∃ (j xb b0 b1 yb m0 m1 i : Nat) (s0 s1 : BrdT), j ≤ n ∧ i ≤ 1 ∧ sx = slc xb ∧ sm = slc yb ∧ sw = I i ∧ si = I (j : Int) ∧ Two w.heap.size wr xb b0 b1 yb m0 m1 s0 s1 s0 s1 ∧ Below w.heap.size w wr) (fun _ _ _ si _ => (n - intOf si).toNat)
  case atStart => exact ⟨0, x, c0, c1, y, l0, l1, 0, z4, z4, by omega, by omega, rfl, rfl, rfl, rfl, t2, bb2⟩
  case round =>
    clear t2 bb2
    obtain ⟨j, xb, b0, b1, yb, m0, m1, i, s0, s1, hj, hi1, rfl, rfl, rfl, rfl, tr, br⟩ := hrel
    by_cases hlt : j < n
    · by_cases hM : (j : Int) < 4398046511104
      · obtain ⟨b, off, K, A, B, C, s, t, e, hl, c0, c1, c2, c3, c4, c5⟩ := (Hops.out j hlt)
        subst e
        have hjn : (j : Int) < (n : Int) := by omega
        rw [← br.cell (p := ⟨b, _, none⟩) hl] at c0 c1 c2 c3 c4 c5
        have tA := tr.later ((Below.refl wr.heap.size wr).alloc (Nat.le_refl _) (.cells #[I K, I A, I B, I C, .string s, .string t] 31))
        have bA := br.alloc br.size (.cells #[I K, I A, I B, I C, .string s, .string t] 31)
        have TO : Blk (wr.alloc (.cells #[I K, I A, I B, I C, .string s, .string t] 31)) wr.heap.size #[I K, I A, I B, I C, .string s, .string t] 31 := Blk.new rfl
        obtain ⟨y0, y1, y2, y3, y4, y5⟩ := tr.zs
        by_cases k1 : K = 1
        · subst k1
          go_wp2_with fail
          clear c0 c1 c2 c3 c4 c5 tr br
          generalize wr.alloc (.cells #[I 1, I A, I B, I C, .string s, .string t] 31) = v2 at *
          generalize wr.heap.size = G at *
          have hG2 := TO.lt
          refine (fresh_any v2).mono ?_
          rintro e w1 ⟨x, c0, c1, rfl, xs, r0, r1, g0, g1, g2, e1⟩
          go_wp2_with fail
          refine (freshM_any w1).mono ?_
          rintro e v3 ⟨y, l0, l1, rfl, ys, k0, k1, f0, f1, f2, e2⟩
          have hzz := bA.size
          have t2 : Two w.heap.size v3 x c0 c1 y l0 l1 z4 z4 z4 z4 := Two.make (xs.below e2 xs.lt) (BdR.later r0 e2) (BdR.later r1 e2) ys k0 k1 (by omega) g1 g2 (by have := xs.lt; omega) f1 f2
          have TO2 := (TO.below e1 TO.lt).below e2 (TO.below e1 TO.lt).lt
          have bA2 := (bA.trans (e1.mono hzz)).trans (e2.mono (by have := e1.size; omega))
          have hx1 := xs.lt
          clear tA TO bA
          rename Two _ _ _ _ _ _ _ _ _ _ _ _ => tA
          rename Blk v3 G _ _ => TO
          rename Below w.heap.size w v3 => bA
          clear xs r0 r1 ys k0 k1 e1 e2
          have q0 : G < c0 ∧ G < c1 ∧ G < l0 ∧ G < l1 := by omega
          clear y0 y1 y2 y3 y4 y5 g0 g1 g2 f0 f1 f2 hzz hx1
          obtain ⟨z0, z1, z2, z3, z4', z5⟩ := tA.zs
          have NX := next_any v3 i hi1 1 A B C s t
          have hle := nextW_le i 1 hi1
          generalize nextW i 1 = wi at *
          have hwo : wi + (1 - wi) = 1 := by omega
          generalize hoi : 1 - wi = oi at *
          have D := fun V (hV : Two w.heap.size V x c0 c1 y l0 l1 z4 z4 z4 z4) => do_any V x (sl wi c0 c1) (sl wi c1 c0) wi oi (hV.pairR wi oi hwo) (sl wi z4 z4).1 (sl wi z4 z4).2.1 (sl wi z4 z4).2.2.1 (sl wi z4 z4).2.2.2 (hV.me wi) (sl wi z4 z4).1 (sl wi z4 z4).2.1 (sl wi z4 z4).2.2.1 (sl wi z4 z4).2.2.2 (hV.ot wi) 1 A B C s t _ rfl
          have M := fun V S0 S1 (hV : Two w.heap.size V x c0 c1 y l0 l1 S0 S1 z4 z4) ad cap hm ad2 cap2 ho => dom_any V y (sl wi l0 l1) (sl wi l1 l0) wi oi (hV.pairM wi oi hwo) (sl wi z4 z4).1 (sl wi z4 z4).2.1 (sl wi z4 z4).2.2.1 (sl wi z4 z4).2.2.2 ad cap hm (sl wi z4 z4).1 (sl wi z4 z4).2.1 (sl wi z4 z4).2.2.1 (sl wi z4 z4).2.2.2 ad2 cap2 ho 1 A B C s t _ rfl
          generalize actW 1 A B C (sl wi z4 z4).1 (sl wi z4 z4).2.1 (sl wi z4 z4).2.2.1 (sl wi z4 z4).2.2.2 (sl wi z4 z4).1 = r at D M
          obtain ⟨⟨er, nr, mr, sr⟩, R⟩ := r
          dsimp only at D M
          have HD : Hid _ := D
          have HM : Hid _ := M
          clear D M
          obtain ⟨o0, o1, o2⟩ := TO.facts
          have nG : G ≠ sl wi c0 c1 ∧ G ≠ sl wi l0 l1 := by unfold sl; constructor <;> split <;> omega
          go_wp2_with fail
          refine NX.mono ?_
          rintro e w3 ⟨rfl, d3⟩
          have tB := tA.later d3
          have TO3 := TO.below d3 TO.lt
          have bB := bA.trans (d3.mono bA.size)
          clear o0 o1 o2 tA TO bA d3 NX
          obtain ⟨o0, o1, o2⟩ := TO3.facts
          go_wp2_with fail
          refine (HD.out _ tB).mono ?_
          rintro e w4 ⟨rfl, Q4⟩
          obtain ⟨t4, b4, u4⟩ := tB.real bB.size wi Q4
          have TO4 := TO3.upd u4 (fun e => nG.1 (List.mem_singleton.1 e))
          have bb4 := bB.trans b4
          clear o0 o1 o2 TO3 tB bB Q4 u4 b4 HD
          have aN := (Below.refl w4.heap.size w4).alloc (Nat.le_refl _) (.cells #[I er, I nr, I mr, S sr] 40)
          have t5 := t4.later aN
          have TO5 := TO4.below aN TO4.lt
          have TR5 : Blk (w4.alloc (.cells #[I er, I nr, I mr, S sr] 40)) w4.heap.size #[I er, I nr, I mr, S sr] 40 := Blk.new rfl
          have bb5 := bb4.alloc bb4.size (.cells #[I er, I nr, I mr, S sr] 40)
          obtain ⟨o0, o1, o2⟩ := TO5.facts
          have hz4 := t4.zs
          have hG4 := TO4.lt
          have nH : w4.heap.size ≠ sl wi l0 l1 := by unfold sl; split <;> omega
          go_wp2_with fail
          clear aN t4 TO4 bb4
          generalize w4.alloc (.cells #[I er, I nr, I mr, S sr] 40) = v5 at *
          generalize w4.heap.size = H at *
          obtain ⟨ad, cap', hmm, hap⟩ := t5.mme wi
          obtain ⟨ad2, cap2, hmo, -⟩ := t5.mot wi
          refine (HM.out _ _ _ t5 ad cap' hmm ad2 cap2 hmo).mono ?_
          rintro e w6 ⟨rfl, Q6⟩
          obtain ⟨t6, b6, u6⟩ := t5.model bb5.size wi hap Q6
          have TO6 := TO5.upd u6 (fun e => nG.2 (List.mem_singleton.1 e))
          have TR6 := TR5.upd u6 (fun e => nH (List.mem_singleton.1 e))
          have bb6 := bb5.trans b6
          clear o0 o1 o2 TO5 TR5 t5 bb5 Q6 b6 u6 hmm hmo hap HM
          have aN := (Below.refl w6.heap.size w6).alloc (Nat.le_refl _) (.cells #[I er, I nr, I mr, S sr] 40)
          have t7 := t6.later aN
          have TR7 := TR6.below aN TR6.lt
          have bb7 := bb6.alloc bb6.size (.cells #[I er, I nr, I mr, S sr] 40)
          obtain ⟨a0, a1, a2⟩ := TR7.facts
          generalize hS0 : sl wi R z4 = S0 at *
          generalize hS1 : sl wi z4 R = S1 at *
          go_wp2
          go_loopw [13] (fun k wr' => k = I 0 ∧ Two w.heap.size wr' x c0 c1 y l0 l1 S0 S1 S0 S1 ∧ Below w.heap.size w wr') (fun _ _ => 0)
          case atStart => exact ⟨rfl, t7, bb7⟩
          case round =>
            clear t7 bb7 TO6 TR6 TR7 a0 a1 a2 t6 bb6 aN
            obtain ⟨rfl, t8, bb8⟩ := hrel
            go_wp2
            go_roundw
            case rel => exact ⟨j + 1, x, c0, c1, y, l0, l1, wi, S0, S1, by omega, hle, rfl, rfl, rfl, by go_num, t8, bb8⟩
            case measure => simp [intOf]; omega
        · have k1b : (K == 1) = false := by simpa using k1
          go_upto_region 12 with fail
          clear c0 c1 c2 c3 c4 c5 tr br
          generalize wr.alloc (.cells #[I K, I A, I B, I C, .string s, .string t] 31) = v3 at *
          generalize wr.heap.size = G at *
          obtain ⟨z0, z1, z2, z3, z4', z5⟩ := tA.zs
          have NX := next_any v3 i hi1 K A B C s t
          have hle := nextW_le i K hi1
          generalize nextW i K = wi at *
          have hwo : wi + (1 - wi) = 1 := by omega
          generalize hoi : 1 - wi = oi at *
          have D := fun V (hV : Two w.heap.size V xb b0 b1 yb m0 m1 s0 s1 s0 s1) => do_any V xb (sl wi b0 b1) (sl wi b1 b0) wi oi (hV.pairR wi oi hwo) (sl wi s0 s1).1 (sl wi s0 s1).2.1 (sl wi s0 s1).2.2.1 (sl wi s0 s1).2.2.2 (hV.me wi) (sl wi s1 s0).1 (sl wi s1 s0).2.1 (sl wi s1 s0).2.2.1 (sl wi s1 s0).2.2.2 (hV.ot wi) K A B C s t _ rfl
          have M := fun V S0 S1 (hV : Two w.heap.size V xb b0 b1 yb m0 m1 S0 S1 s0 s1) ad cap hm ad2 cap2 ho => dom_any V yb (sl wi m0 m1) (sl wi m1 m0) wi oi (hV.pairM wi oi hwo) (sl wi s0 s1).1 (sl wi s0 s1).2.1 (sl wi s0 s1).2.2.1 (sl wi s0 s1).2.2.2 ad cap hm (sl wi s1 s0).1 (sl wi s1 s0).2.1 (sl wi s1 s0).2.2.1 (sl wi s1 s0).2.2.2 ad2 cap2 ho K A B C s t _ rfl
          generalize actW K A B C (sl wi s0 s1).1 (sl wi s0 s1).2.1 (sl wi s0 s1).2.2.1 (sl wi s0 s1).2.2.2 (sl wi s1 s0).1 = r at D M
          obtain ⟨⟨er, nr, mr, sr⟩, R⟩ := r
          dsimp only at D M
          have HD : Hid _ := D
          have HM : Hid _ := M
          clear D M
          obtain ⟨o0, o1, o2⟩ := TO.facts
          have nG : G ≠ sl wi b0 b1 ∧ G ≠ sl wi m0 m1 := by unfold sl; constructor <;> split <;> omega
          go_wp2_with fail
          refine NX.mono ?_
          rintro e w3 ⟨rfl, d3⟩
          have tB := tA.later d3
          have TO3 := TO.below d3 TO.lt
          have bB := bA.trans (d3.mono bA.size)
          clear o0 o1 o2 tA TO bA d3 NX
          obtain ⟨o0, o1, o2⟩ := TO3.facts
          go_wp2_with fail
          refine (HD.out _ tB).mono ?_
          rintro e w4 ⟨rfl, Q4⟩
          obtain ⟨t4, b4, u4⟩ := tB.real bB.size wi Q4
          have TO4 := TO3.upd u4 (fun e => nG.1 (List.mem_singleton.1 e))
          have bb4 := bB.trans b4
          clear o0 o1 o2 TO3 tB bB Q4 u4 b4 HD
          have aN := (Below.refl w4.heap.size w4).alloc (Nat.le_refl _) (.cells #[I er, I nr, I mr, S sr] 40)
          have t5 := t4.later aN
          have TO5 := TO4.below aN TO4.lt
          have TR5 : Blk (w4.alloc (.cells #[I er, I nr, I mr, S sr] 40)) w4.heap.size #[I er, I nr, I mr, S sr] 40 := Blk.new rfl
          have bb5 := bb4.alloc bb4.size (.cells #[I er, I nr, I mr, S sr] 40)
          obtain ⟨o0, o1, o2⟩ := TO5.facts
          have hz4 := t4.zs
          have hG4 := TO4.lt
          have nH : w4.heap.size ≠ sl wi m0 m1 := by unfold sl; split <;> omega
          go_wp2_with fail
          clear aN t4 TO4 bb4
          generalize w4.alloc (.cells #[I er, I nr, I mr, S sr] 40) = v5 at *
          generalize w4.heap.size = H at *
          obtain ⟨ad, cap', hmm, hap⟩ := t5.mme wi
          obtain ⟨ad2, cap2, hmo, -⟩ := t5.mot wi
          refine (HM.out _ _ _ t5 ad cap' hmm ad2 cap2 hmo).mono ?_
          rintro e w6 ⟨rfl, Q6⟩
          obtain ⟨t6, b6, u6⟩ := t5.model bb5.size wi hap Q6
          have TO6 := TO5.upd u6 (fun e => nG.2 (List.mem_singleton.1 e))
          have TR6 := TR5.upd u6 (fun e => nH (List.mem_singleton.1 e))
          have bb6 := bb5.trans b6
          clear o0 o1 o2 TO5 TR5 t5 bb5 Q6 b6 u6 hmm hmo hap HM
          have aN := (Below.refl w6.heap.size w6).alloc (Nat.le_refl _) (.cells #[I er, I nr, I mr, S sr] 40)
          have t7 := t6.later aN
          have TR7 := TR6.below aN TR6.lt
          have bb7 := bb6.alloc bb6.size (.cells #[I er, I nr, I mr, S sr] 40)
          obtain ⟨a0, a1, a2⟩ := TR7.facts
          generalize hS0 : sl wi R s0 = S0 at *
          generalize hS1 : sl wi s1 R = S1 at *
          go_wp2
          go_loopw [13] (fun k wr' => k = I 0 ∧ Two w.heap.size wr' xb b0 b1 yb m0 m1 S0 S1 S0 S1 ∧ Below w.heap.size w wr') (fun _ _ => 0)
          case atStart => exact ⟨rfl, t7, bb7⟩
          case round =>
            clear t7 bb7 TO6 TR6 TR7 a0 a1 a2 t6 bb6 aN
            obtain ⟨rfl, t8, bb8⟩ := hrel
            go_wp2
            go_roundw
            case rel => exact ⟨j + 1, xb, b0, b1, yb, m0, m1, wi, S0, S1, by omega, hle, rfl, rfl, rfl, by go_num, t8, bb8⟩
            case measure => simp [intOf]; omega
      · have hjn : (j : Int) < (n : Int) := by omega
        have hnM : ¬ (n : Int) < 4398046511104 := by omega
        go_wp2
        go_ret2
        exact ⟨⟨_, rfl⟩, br⟩
    · have hjn : ¬ (j : Int) < (n : Int) := by omega
      by_cases hnM : (n : Int) < 4398046511104
      · go_wp2
        go_ret2
        exact ⟨⟨_, rfl⟩, br⟩
      · go_wp2
        go_ret2
        exact ⟨⟨_, rfl⟩, br⟩

set_option maxRecDepth 100000 in
set_option maxHeartbeats 8000000 in
theorem walk_loud (w : World) (ao : Option Addr) (n cap : Nat) (hops : ∀ i, i < n → OpAt w ao i) (hn : n < 9223372036854775808) :
    Calls Try.prog 23 #[.slice ao n cap, .bool false] w fun e w' => ∃ k : Int, e = .returned (.tuple #[I (-1), I k]) ∧ Below w.heap.size w w' := by
  have Hops : Hid _ := hops
  clear hops
  go_enter Try.func23, Try.ntmps23
  go_wp2_with fail
  refine (ground_any w).mono ?_
  rintro e w0 ⟨rfl, e0⟩
  go_wp2_with fail
  refine (fresh_any w0).mono ?_
  rintro e w1 ⟨x, c0, c1, rfl, xs, r0, r1, g0, g1, g2, e1⟩
  go_wp2_with fail
  refine (freshM_any w1).mono ?_
  rintro e w2 ⟨y, l0, l1, rfl, ys, k0, k1, f0, f1, f2, e2⟩
  have t2 : Two w.heap.size w2 x c0 c1 y l0 l1 z4 z4 z4 z4 := Two.make (xs.below e2 xs.lt) (BdR.later r0 e2) (BdR.later r1 e2) ys k0 k1 (by have := e0.size; omega) g1 g2 (by have := xs.lt; omega) f1 f2
  have bb2 := (e0.trans (e1.mono e0.size)).trans (e2.mono (by have := e0.size; have := e1.size; omega))
  clear xs r0 r1 g0 g1 g2 ys k0 k1 f0 f1 f2 e0 e1 e2
  go_wp2
  go_loopw [6, 7, 8, 9] (fun sx sm sw si wr => ∃ (j xb b0 b1 yb m0 m1 i : Nat) (s0 s1 : BrdT), j ≤ n ∧ i ≤ 1 ∧ sx = slc xb ∧ sm = slc yb ∧ sw = I i ∧ si = I (j : Int) ∧ Two w.heap.size wr xb b0 b1 yb m0 m1 s0 s1 s0 s1 ∧ Below w.heap.size w wr) (fun _ _ _ si _ => (n - intOf si).toNat)
  case atStart => exact ⟨0, x, c0, c1, y, l0, l1, 0, z4, z4, by omega, by omega, rfl, rfl, rfl, rfl, t2, bb2⟩
  case round =>
    clear t2 bb2
    obtain ⟨j, xb, b0, b1, yb, m0, m1, i, s0, s1, hj, hi1, rfl, rfl, rfl, rfl, tr, br⟩ := hrel
    by_cases hlt : j < n
    · by_cases hM : (j : Int) < 4398046511104
      · obtain ⟨b, off, K, A, B, C, s, t, e, hl, c0, c1, c2, c3, c4, c5⟩ := (Hops.out j hlt)
        subst e
        have hjn : (j : Int) < (n : Int) := by omega
        rw [← br.cell (p := ⟨b, _, none⟩) hl] at c0 c1 c2 c3 c4 c5
        have tA := tr.later ((Below.refl wr.heap.size wr).alloc (Nat.le_refl _) (.cells #[I K, I A, I B, I C, .string s, .string t] 31))
        have bA := br.alloc br.size (.cells #[I K, I A, I B, I C, .string s, .string t] 31)
        have TO : Blk (wr.alloc (.cells #[I K, I A, I B, I C, .string s, .string t] 31)) wr.heap.size #[I K, I A, I B, I C, .string s, .string t] 31 := Blk.new rfl
        obtain ⟨y0, y1, y2, y3, y4, y5⟩ := tr.zs
        by_cases k1 : K = 1
        · subst k1
          go_wp2_with fail
          clear c0 c1 c2 c3 c4 c5 tr br
          generalize wr.alloc (.cells #[I 1, I A, I B, I C, .string s, .string t] 31) = v2 at *
          generalize wr.heap.size = G at *
          have hG2 := TO.lt
          refine (fresh_any v2).mono ?_
          rintro e w1 ⟨x, c0, c1, rfl, xs, r0, r1, g0, g1, g2, e1⟩
          go_wp2_with fail
          refine (freshM_any w1).mono ?_
          rintro e v3 ⟨y, l0, l1, rfl, ys, k0, k1, f0, f1, f2, e2⟩
          have hzz := bA.size
          have t2 : Two w.heap.size v3 x c0 c1 y l0 l1 z4 z4 z4 z4 := Two.make (xs.below e2 xs.lt) (BdR.later r0 e2) (BdR.later r1 e2) ys k0 k1 (by omega) g1 g2 (by have := xs.lt; omega) f1 f2
          have TO2 := (TO.below e1 TO.lt).below e2 (TO.below e1 TO.lt).lt
          have bA2 := (bA.trans (e1.mono hzz)).trans (e2.mono (by have := e1.size; omega))
          have hx1 := xs.lt
          clear tA TO bA
          rename Two _ _ _ _ _ _ _ _ _ _ _ _ => tA
          rename Blk v3 G _ _ => TO
          rename Below w.heap.size w v3 => bA
          clear xs r0 r1 ys k0 k1 e1 e2
          have q0 : G < c0 ∧ G < c1 ∧ G < l0 ∧ G < l1 := by omega
          clear y0 y1 y2 y3 y4 y5 g0 g1 g2 f0 f1 f2 hzz hx1
          obtain ⟨z0, z1, z2, z3, z4', z5⟩ := tA.zs
          have NX := next_any v3 i hi1 1 A B C s t
          have hle := nextW_le i 1 hi1
          generalize nextW i 1 = wi at *
          have hwo : wi + (1 - wi) = 1 := by omega
          generalize hoi : 1 - wi = oi at *
          have D := fun V (hV : Two w.heap.size V x c0 c1 y l0 l1 z4 z4 z4 z4) => do_any V x (sl wi c0 c1) (sl wi c1 c0) wi oi (hV.pairR wi oi hwo) (sl wi z4 z4).1 (sl wi z4 z4).2.1 (sl wi z4 z4).2.2.1 (sl wi z4 z4).2.2.2 (hV.me wi) (sl wi z4 z4).1 (sl wi z4 z4).2.1 (sl wi z4 z4).2.2.1 (sl wi z4 z4).2.2.2 (hV.ot wi) 1 A B C s t _ rfl
          have M := fun V S0 S1 (hV : Two w.heap.size V x c0 c1 y l0 l1 S0 S1 z4 z4) ad cap hm ad2 cap2 ho => dom_any V y (sl wi l0 l1) (sl wi l1 l0) wi oi (hV.pairM wi oi hwo) (sl wi z4 z4).1 (sl wi z4 z4).2.1 (sl wi z4 z4).2.2.1 (sl wi z4 z4).2.2.2 ad cap hm (sl wi z4 z4).1 (sl wi z4 z4).2.1 (sl wi z4 z4).2.2.1 (sl wi z4 z4).2.2.2 ad2 cap2 ho 1 A B C s t _ rfl
          generalize actW 1 A B C (sl wi z4 z4).1 (sl wi z4 z4).2.1 (sl wi z4 z4).2.2.1 (sl wi z4 z4).2.2.2 (sl wi z4 z4).1 = r at D M
          obtain ⟨⟨er, nr, mr, sr⟩, R⟩ := r
          dsimp only at D M
          have HD : Hid _ := D
          have HM : Hid _ := M
          clear D M
          obtain ⟨o0, o1, o2⟩ := TO.facts
          have nG : G ≠ sl wi c0 c1 ∧ G ≠ sl wi l0 l1 := by unfold sl; constructor <;> split <;> omega
          go_wp2_with fail
          refine NX.mono ?_
          rintro e w3 ⟨rfl, d3⟩
          have tB := tA.later d3
          have TO3 := TO.below d3 TO.lt
          have bB := bA.trans (d3.mono bA.size)
          clear o0 o1 o2 tA TO bA d3 NX
          obtain ⟨o0, o1, o2⟩ := TO3.facts
          go_wp2_with fail
          refine (HD.out _ tB).mono ?_
          rintro e w4 ⟨rfl, Q4⟩
          obtain ⟨t4, b4, u4⟩ := tB.real bB.size wi Q4
          have TO4 := TO3.upd u4 (fun e => nG.1 (List.mem_singleton.1 e))
          have bb4 := bB.trans b4
          clear o0 o1 o2 TO3 tB bB Q4 u4 b4 HD
          have aN := (Below.refl w4.heap.size w4).alloc (Nat.le_refl _) (.cells #[I er, I nr, I mr, S sr] 40)
          have t5 := t4.later aN
          have TO5 := TO4.below aN TO4.lt
          have TR5 : Blk (w4.alloc (.cells #[I er, I nr, I mr, S sr] 40)) w4.heap.size #[I er, I nr, I mr, S sr] 40 := Blk.new rfl
          have bb5 := bb4.alloc bb4.size (.cells #[I er, I nr, I mr, S sr] 40)
          obtain ⟨o0, o1, o2⟩ := TO5.facts
          have hz4 := t4.zs
          have hG4 := TO4.lt
          have nH : w4.heap.size ≠ sl wi l0 l1 := by unfold sl; split <;> omega
          go_wp2_with fail
          clear aN t4 TO4 bb4
          generalize w4.alloc (.cells #[I er, I nr, I mr, S sr] 40) = v5 at *
          generalize w4.heap.size = H at *
          obtain ⟨ad, cap', hmm, hap⟩ := t5.mme wi
          obtain ⟨ad2, cap2, hmo, -⟩ := t5.mot wi
          refine (HM.out _ _ _ t5 ad cap' hmm ad2 cap2 hmo).mono ?_
          rintro e w6 ⟨rfl, Q6⟩
          obtain ⟨t6, b6, u6⟩ := t5.model bb5.size wi hap Q6
          have TO6 := TO5.upd u6 (fun e => nG.2 (List.mem_singleton.1 e))
          have TR6 := TR5.upd u6 (fun e => nH (List.mem_singleton.1 e))
          have bb6 := bb5.trans b6
          clear o0 o1 o2 TO5 TR5 t5 bb5 Q6 b6 u6 hmm hmo hap HM
          have aN := (Below.refl w6.heap.size w6).alloc (Nat.le_refl _) (.cells #[I er, I nr, I mr, S sr] 40)
          have t7 := t6.later aN
          have TR7 := TR6.below aN TR6.lt
          have bb7 := bb6.alloc bb6.size (.cells #[I er, I nr, I mr, S sr] 40)
          obtain ⟨a0, a1, a2⟩ := TR7.facts
          generalize hS0 : sl wi R z4 = S0 at *
          generalize hS1 : sl wi z4 R = S1 at *
          go_wp2
          go_loopw [13] (fun k wr' => ∃ kk : Nat, kk ≤ 2 ∧ k = I kk ∧ Two w.heap.size wr' x c0 c1 y l0 l1 S0 S1 S0 S1 ∧ Below w.heap.size w wr') (fun k _ => (2 - intOf k).toNat)
          case atStart => exact ⟨0, by omega, rfl, t7, bb7⟩
          case round =>
            clear t7 bb7 TO6 TR6 TR7 a0 a1 a2 t6 bb6 aN
            obtain ⟨kk, hkk, rfl, t8, bb8⟩ := hrel
            by_cases hk2 : kk < 2
            · have p1 : (kk : Int) < 2 := by omega
              have hP := t8.pairR kk (1 - kk) (by omega)
              have hPM := t8.pairM kk (1 - kk) (by omega)
              have cx := hP.hm
              have hme := t8.me kk
              go_wp2_with fail
              refine (show_any _ _ _ _ _ _ hme).mono ?_
              rintro e w9 ⟨rfl, d9⟩
              have t9 := t8.later d9
              have bb9 := bb8.trans (d9.mono bb8.size)
              have cy := (t9.pairM kk (1 - kk) (by omega)).hm
              clear cx hme hP hPM t8 bb8 d9
              obtain ⟨ad, cap', hmm, -⟩ := t9.mme kk
              go_wp2_with fail
              refine (mshow_any _ _ _ _ _ _ _ _ hmm).mono ?_
              rintro e w10 ⟨rfl, d10⟩
              have t10 := t9.later d10
              have bb10 := bb9.trans (d10.mono bb9.size)
              have cx := (t10.pairR kk (1 - kk) (by omega)).hm
              clear cy hmm t9 bb9 d10
              go_wp2_with fail
              refine (check_any _ _).mono ?_
              rintro e w11 ⟨rfl, rfl⟩
              go_wp2
              go_roundw
              case rel => exact ⟨kk + 1, by omega, by go_num, t10, bb10⟩
              case measure => simp [intOf]; omega
            · have p1 : ¬ (kk : Int) < 2 := by omega
              go_wp2
              go_roundw
              case rel => exact ⟨j + 1, x, c0, c1, y, l0, l1, wi, S0, S1, by omega, hle, rfl, rfl, rfl, by go_num, t8, bb8⟩
              case measure => simp [intOf]; omega
        · have k1b : (K == 1) = false := by simpa using k1
          go_upto_region 12 with fail
          clear c0 c1 c2 c3 c4 c5 tr br
          generalize wr.alloc (.cells #[I K, I A, I B, I C, .string s, .string t] 31) = v3 at *
          generalize wr.heap.size = G at *
          obtain ⟨z0, z1, z2, z3, z4', z5⟩ := tA.zs
          have NX := next_any v3 i hi1 K A B C s t
          have hle := nextW_le i K hi1
          generalize nextW i K = wi at *
          have hwo : wi + (1 - wi) = 1 := by omega
          generalize hoi : 1 - wi = oi at *
          have D := fun V (hV : Two w.heap.size V xb b0 b1 yb m0 m1 s0 s1 s0 s1) => do_any V xb (sl wi b0 b1) (sl wi b1 b0) wi oi (hV.pairR wi oi hwo) (sl wi s0 s1).1 (sl wi s0 s1).2.1 (sl wi s0 s1).2.2.1 (sl wi s0 s1).2.2.2 (hV.me wi) (sl wi s1 s0).1 (sl wi s1 s0).2.1 (sl wi s1 s0).2.2.1 (sl wi s1 s0).2.2.2 (hV.ot wi) K A B C s t _ rfl
          have M := fun V S0 S1 (hV : Two w.heap.size V xb b0 b1 yb m0 m1 S0 S1 s0 s1) ad cap hm ad2 cap2 ho => dom_any V yb (sl wi m0 m1) (sl wi m1 m0) wi oi (hV.pairM wi oi hwo) (sl wi s0 s1).1 (sl wi s0 s1).2.1 (sl wi s0 s1).2.2.1 (sl wi s0 s1).2.2.2 ad cap hm (sl wi s1 s0).1 (sl wi s1 s0).2.1 (sl wi s1 s0).2.2.1 (sl wi s1 s0).2.2.2 ad2 cap2 ho K A B C s t _ rfl
          generalize actW K A B C (sl wi s0 s1).1 (sl wi s0 s1).2.1 (sl wi s0 s1).2.2.1 (sl wi s0 s1).2.2.2 (sl wi s1 s0).1 = r at D M
          obtain ⟨⟨er, nr, mr, sr⟩, R⟩ := r
          dsimp only at D M
          have HD : Hid _ := D
          have HM : Hid _ := M
          clear D M
          obtain ⟨o0, o1, o2⟩ := TO.facts
          have nG : G ≠ sl wi b0 b1 ∧ G ≠ sl wi m0 m1 := by unfold sl; constructor <;> split <;> omega
          go_wp2_with fail
          refine NX.mono ?_
          rintro e w3 ⟨rfl, d3⟩
          have tB := tA.later d3
          have TO3 := TO.below d3 TO.lt
          have bB := bA.trans (d3.mono bA.size)
          clear o0 o1 o2 tA TO bA d3 NX
          obtain ⟨o0, o1, o2⟩ := TO3.facts
          go_wp2_with fail
          refine (HD.out _ tB).mono ?_
          rintro e w4 ⟨rfl, Q4⟩
          obtain ⟨t4, b4, u4⟩ := tB.real bB.size wi Q4
          have TO4 := TO3.upd u4 (fun e => nG.1 (List.mem_singleton.1 e))
          have bb4 := bB.trans b4
          clear o0 o1 o2 TO3 tB bB Q4 u4 b4 HD
          have aN := (Below.refl w4.heap.size w4).alloc (Nat.le_refl _) (.cells #[I er, I nr, I mr, S sr] 40)
          have t5 := t4.later aN
          have TO5 := TO4.below aN TO4.lt
          have TR5 : Blk (w4.alloc (.cells #[I er, I nr, I mr, S sr] 40)) w4.heap.size #[I er, I nr, I mr, S sr] 40 := Blk.new rfl
          have bb5 := bb4.alloc bb4.size (.cells #[I er, I nr, I mr, S sr] 40)
          obtain ⟨o0, o1, o2⟩ := TO5.facts
          have hz4 := t4.zs
          have hG4 := TO4.lt
          have nH : w4.heap.size ≠ sl wi m0 m1 := by unfold sl; split <;> omega
          go_wp2_with fail
          clear aN t4 TO4 bb4
          generalize w4.alloc (.cells #[I er, I nr, I mr, S sr] 40) = v5 at *
          generalize w4.heap.size = H at *
          obtain ⟨ad, cap', hmm, hap⟩ := t5.mme wi
          obtain ⟨ad2, cap2, hmo, -⟩ := t5.mot wi
          refine (HM.out _ _ _ t5 ad cap' hmm ad2 cap2 hmo).mono ?_
          rintro e w6 ⟨rfl, Q6⟩
          obtain ⟨t6, b6, u6⟩ := t5.model bb5.size wi hap Q6
          have TO6 := TO5.upd u6 (fun e => nG.2 (List.mem_singleton.1 e))
          have TR6 := TR5.upd u6 (fun e => nH (List.mem_singleton.1 e))
          have bb6 := bb5.trans b6
          clear o0 o1 o2 TO5 TR5 t5 bb5 Q6 b6 u6 hmm hmo hap HM
          have aN := (Below.refl w6.heap.size w6).alloc (Nat.le_refl _) (.cells #[I er, I nr, I mr, S sr] 40)
          have t7 := t6.later aN
          have TR7 := TR6.below aN TR6.lt
          have bb7 := bb6.alloc bb6.size (.cells #[I er, I nr, I mr, S sr] 40)
          obtain ⟨a0, a1, a2⟩ := TR7.facts
          generalize hS0 : sl wi R s0 = S0 at *
          generalize hS1 : sl wi s1 R = S1 at *
          go_wp2
          go_loopw [13] (fun k wr' => ∃ kk : Nat, kk ≤ 2 ∧ k = I kk ∧ Two w.heap.size wr' xb b0 b1 yb m0 m1 S0 S1 S0 S1 ∧ Below w.heap.size w wr') (fun k _ => (2 - intOf k).toNat)
          case atStart => exact ⟨0, by omega, rfl, t7, bb7⟩
          case round =>
            clear t7 bb7 TO6 TR6 TR7 a0 a1 a2 t6 bb6 aN
            obtain ⟨kk, hkk, rfl, t8, bb8⟩ := hrel
            by_cases hk2 : kk < 2
            · have p1 : (kk : Int) < 2 := by omega
              have hP := t8.pairR kk (1 - kk) (by omega)
              have hPM := t8.pairM kk (1 - kk) (by omega)
              have cx := hP.hm
              have hme := t8.me kk
              go_wp2_with fail
              refine (show_any _ _ _ _ _ _ hme).mono ?_
              rintro e w9 ⟨rfl, d9⟩
              have t9 := t8.later d9
              have bb9 := bb8.trans (d9.mono bb8.size)
              have cy := (t9.pairM kk (1 - kk) (by omega)).hm
              clear cx hme hP hPM t8 bb8 d9
              obtain ⟨ad, cap', hmm, -⟩ := t9.mme kk
              go_wp2_with fail
              refine (mshow_any _ _ _ _ _ _ _ _ hmm).mono ?_
              rintro e w10 ⟨rfl, d10⟩
              have t10 := t9.later d10
              have bb10 := bb9.trans (d10.mono bb9.size)
              have cx := (t10.pairR kk (1 - kk) (by omega)).hm
              clear cy hmm t9 bb9 d10
              go_wp2_with fail
              refine (check_any _ _).mono ?_
              rintro e w11 ⟨rfl, rfl⟩
              go_wp2
              go_roundw
              case rel => exact ⟨kk + 1, by omega, by go_num, t10, bb10⟩
              case measure => simp [intOf]; omega
            · have p1 : ¬ (kk : Int) < 2 := by omega
              go_wp2
              go_roundw
              case rel => exact ⟨j + 1, xb, b0, b1, yb, m0, m1, wi, S0, S1, by omega, hle, rfl, rfl, rfl, by go_num, t8, bb8⟩
              case measure => simp [intOf]; omega
      · have hjn : (j : Int) < (n : Int) := by omega
        have hnM : ¬ (n : Int) < 4398046511104 := by omega
        go_wp2
        go_ret2
        exact ⟨⟨_, rfl⟩, br⟩
    · have hjn : ¬ (j : Int) < (n : Int) := by omega
      by_cases hnM : (n : Int) < 4398046511104
      · go_wp2
        go_ret2
        exact ⟨⟨_, rfl⟩, br⟩
      · go_wp2
        go_ret2
        exact ⟨⟨_, rfl⟩, br⟩
end Go.Proofs.Qxb6500469a
