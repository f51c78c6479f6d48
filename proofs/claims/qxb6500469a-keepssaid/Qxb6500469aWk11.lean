import Derived.Test.Qxb6500469aWk10
import Derived.Test.Qxb6500469aWk7
import Derived.Test.Qxb6500469aWm8
import Derived.Deep.DeepCutAuto
namespace Go.Proofs.Qxb6500469a
open Go.RowKit

structure One (N : Nat) (w : World) (xb b0 b1 : Nat) (s0 s1 : BrdT) : Prop where
  xs : Blk w xb #[ptr b0, ptr b1] 34
  r0 : frR w b0 s0
  r1 : frR w b1 s1
  n0 : N ≤ b0
  n1 : N ≤ b1
  d : b0 ≠ b1
  dx : xb ≠ b0 ∧ xb ≠ b1
section
variable {N : Nat} {w w' : World} {xb b0 b1 : Nat} {s0 s1 : BrdT}
theorem One.later (h : One N w xb b0 b1 s0 s1) (k : Below w.heap.size w w') : One N w' xb b0 b1 s0 s1 :=
  ⟨h.xs.below k h.xs.lt, BdR.later h.r0 k, BdR.later h.r1 k, h.n0, h.n1, h.d, h.dx⟩
theorem One.zs (h : One N w xb b0 b1 s0 s1) : xb < w.heap.size ∧ b0 < w.heap.size ∧ b1 < w.heap.size := ⟨h.xs.lt, BdR.head h.r0 |>.lt, BdR.head h.r1 |>.lt⟩
theorem One.pair (h : One N w xb b0 b1 s0 s1) (i o : Nat) (hi : i + o = 1) : Pair w xb (sl i b0 b1) (sl i b1 b0) i o := by
  obtain ⟨z0, z1, z2⟩ := h.zs
  have : (i = 0 ∧ o = 1) ∨ (i = 1 ∧ o = 0) := by omega
  rcases this with ⟨rfl, rfl⟩ | ⟨rfl, rfl⟩
  · exact ⟨rfl, h.xs.cell 0, h.xs.cell 1, z0, z1⟩
  · exact ⟨rfl, h.xs.cell 1, h.xs.cell 0, z0, z2⟩
theorem One.me (h : One N w xb b0 b1 s0 s1) (i : Nat) : frR w (sl i b0 b1) (sl i s0 s1) := by
  unfold sl; split
  · exact h.r0
  · exact h.r1
theorem One.ot (h : One N w xb b0 b1 s0 s1) (i : Nat) : frR w (sl i b1 b0) (sl i s1 s0) := by
  unfold sl; split
  · exact h.r1
  · exact h.r0
theorem One.real (h : One N w xb b0 b1 s0 s1) (hN : N ≤ w.heap.size) (i : Nat) {r : BrdT} (q : RealQ w (sl i b0 b1) r w') : One N w' xb b0 b1 (sl i r s0) (sl i s1 r) ∧ Below N w w' ∧ Upd [sl i b0 b1] w w' := by
  have e1 := h.d
  obtain ⟨x1, x2⟩ := h.dx
  have hb := h.n0
  have hb1 := h.n1
  obtain ⟨q1, k⟩ := q
  unfold sl at *
  split at q1
  · rename_i hi
    rw [if_pos hi] at k ⊢
    rw [if_pos hi, if_pos hi]
    exact ⟨⟨h.xs.upd k (by simp; exact x1), q1, h.r1.upd k (by simp; exact fun e => e1 e.symm), h.n0, h.n1, h.d, h.dx⟩, k.below hN (fun z hz => by rw [List.mem_singleton.1 hz]; exact hb), k⟩
  · rename_i hi
    rw [if_neg hi] at k ⊢
    rw [if_neg hi, if_neg hi]
    exact ⟨⟨h.xs.upd k (by simp; exact x2), h.r0.upd k (by simp; exact e1), q1, h.n0, h.n1, h.d, h.dx⟩, k.below hN (fun z hz => by rw [List.mem_singleton.1 hz]; exact hb1), k⟩
end
theorem sl_same {α : Type} (i : Nat) (x : α) : sl i x x = x := by unfold sl; split <;> rfl
theorem sl_me (i : Nat) (r s0 s1 : BrdT) : sl i (sl i r s0) (sl i s1 r) = r := by unfold sl; split <;> rfl
theorem sl_ot (i : Nat) (r s0 s1 : BrdT) : sl i (sl i s1 r) (sl i r s0) = sl i s1 s0 := by unfold sl; split <;> rfl

set_option maxRecDepth 100000 in
set_option maxHeartbeats 8000000 in
theorem keepsUpTo_any (w : World) (ao : Option Addr) (n cap : Nat) (hops : ∀ i, i < n → OpAt w ao i) (hn : n < 9223372036854775808) :
    Calls Try.prog 8 #[.slice ao n cap] w fun e w' => e = .returned (I (-1)) ∧ Below w.heap.size w w' := by
  have Hops : Hid _ := hops
  clear hops
  go_enter Try.func8, Try.ntmps8
  go_wp2_with fail
  refine (fresh_any w).mono ?_
  rintro e w1 ⟨x, c0, c1, rfl, xs, r0, r1, g0, g1, g2, e1⟩
  have t2 : One w.heap.size w1 x c0 c1 z4 z4 := ⟨xs, r0, r1, g0, by omega, by omega, by omega, by omega⟩
  clear xs r0 r1 g0 g1 g2
  go_wp2
  go_loopw [3, 4, 5] (fun sx sw si wr => ∃ (j xb b0 b1 i : Nat) (s0 s1 : BrdT), j ≤ n ∧ i ≤ 1 ∧ sx = slc xb ∧ sw = I i ∧ si = I (j : Int) ∧ One w.heap.size wr xb b0 b1 s0 s1 ∧ Below w.heap.size w wr) (fun _ _ si _ => (n - intOf si).toNat)
  case atStart => exact ⟨0, x, c0, c1, 0, z4, z4, by omega, by omega, rfl, rfl, rfl, t2, e1⟩
  case round =>
    clear t2 e1
    obtain ⟨j, xb, b0, b1, i, s0, s1, hj, hi1, rfl, rfl, rfl, tr, br⟩ := hrel
    by_cases hlt : j < n
    · by_cases hM : (j : Int) < 4398046511104
      · obtain ⟨b, off, K, A, B, C, s, t, e, hl, c0, c1, c2, c3, c4, c5⟩ := (Hops.out j hlt)
        subst e
        have hjn : (j : Int) < (n : Int) := by omega
        rw [← br.cell (p := ⟨b, _, none⟩) hl] at c0 c1 c2 c3 c4 c5
        have tA := tr.later ((Below.refl wr.heap.size wr).alloc (Nat.le_refl _) (.cells #[I K, I A, I B, I C, .string s, .string t] 31))
        have bA := br.alloc br.size (.cells #[I K, I A, I B, I C, .string s, .string t] 31)
        have TO : Blk (wr.alloc (.cells #[I K, I A, I B, I C, .string s, .string t] 31)) wr.heap.size #[I K, I A, I B, I C, .string s, .string t] 31 := Blk.new rfl
        obtain ⟨y0, y1, y2⟩ := tr.zs
        by_cases k1 : K = 1
        · subst k1
          go_wp2_with fail
          clear c0 c1 c2 c3 c4 c5 tr br
          generalize wr.alloc (.cells #[I 1, I A, I B, I C, .string s, .string t] 31) = v2 at *
          generalize wr.heap.size = G at *
          have hG2 := TO.lt
          refine (fresh_any v2).mono ?_
          rintro e v3 ⟨x, bx0, bx1, rfl, xs, r0, r1, g0, g1, g2, e1⟩
          have hzz := bA.size
          have t2 : One w.heap.size v3 x bx0 bx1 z4 z4 := ⟨xs, r0, r1, by omega, by omega, by omega, by omega⟩
          have TO2 := TO.below e1 TO.lt
          have bA2 := bA.trans (e1.mono hzz)
          clear tA TO bA
          obtain ⟨S0, hS0⟩ : ∃ S0 : BrdT, S0 = z4 := ⟨_, rfl⟩
          obtain ⟨S1, hS1⟩ : ∃ S1 : BrdT, S1 = z4 := ⟨_, rfl⟩
          have tA : One w.heap.size v3 x bx0 bx1 S0 S1 := by rw [hS0, hS1]; exact t2
          clear t2
          rename Blk v3 G _ _ => TO
          rename Below w.heap.size w v3 => bA
          clear xs r0 r1 e1
          have q0 : G < bx0 ∧ G < bx1 := by omega
          clear y0 y1 y2 g0 g1 g2 hzz
          have HZ1 : (1 : Int) = 1 → (sl (nextW i 1) S0 S1).1 = 0 := fun _ => by rw [hS0, hS1, sl_same]
          have HZ2 : (1 : Int) = 1 → (sl (nextW i 1) S0 S1).2.1 = 0 ∧ (sl (nextW i 1) S0 S1).2.2.1 = 0 ∧ (sl (nextW i 1) S0 S1).2.2.2 = 0 := fun _ => by rw [hS0, hS1, sl_same]; exact ⟨rfl, rfl, rfl⟩
          clear hS0 hS1
          obtain ⟨z0, z1, z2⟩ := tA.zs
          have NX := next_any v3 i hi1 1 A B C s t
          have hle := nextW_le i 1 hi1
          generalize nextW i 1 = wi at *
          have hwo : wi + (1 - wi) = 1 := by omega
          generalize hoi : 1 - wi = oi at *
          have D := fun V (hV : One w.heap.size V x bx0 bx1 S0 S1) => do_any V x (sl wi bx0 bx1) (sl wi bx1 bx0) wi oi (hV.pair wi oi hwo) (sl wi S0 S1).1 (sl wi S0 S1).2.1 (sl wi S0 S1).2.2.1 (sl wi S0 S1).2.2.2 (hV.me wi) (sl wi S1 S0).1 (sl wi S1 S0).2.1 (sl wi S1 S0).2.2.1 (sl wi S1 S0).2.2.2 (hV.ot wi) 1 A B C s t _ rfl
          have hM1 := fun V (hV : One w.heap.size V x bx0 bx1 S0 S1) => image_any V _ _ _ _ _ (hV.me wi)
          have hM2 := fun V (hV : One w.heap.size V x bx0 bx1 S0 S1) => image_any V _ _ _ _ _ (hV.ot wi)
          have hM3 := fun V (hV : One w.heap.size V x bx0 bx1 S0 S1) => show_any V _ _ _ _ _ (hV.ot wi)
          have hM4 := fun V (hV : One w.heap.size V x bx0 bx1 S0 S1) => nums_any V _ _ _ _ _ (hV.me wi)
          have hme0 : BdR v3 _ _ _ _ _ := tA.me wi
          have hot0 : BdR v3 _ _ _ _ _ := tA.ot wi
          have KS := fun W r hr h => keptSet_any W (sl wi bx0 bx1) 1 A B C s t (sl wi S0 S1).1 (sl wi S0 S1).2.1 (sl wi S0 S1).2.2.1 (sl wi S0 S1).2.2.2 (sl wi S1 S0).1 hme0.hu hot0.hu r hr h HZ1
          have KN := fun W r hr h => keptNums_any W (sl wi bx0 bx1) 1 A B C s t (sl wi S0 S1).1 (sl wi S0 S1).2.1 (sl wi S0 S1).2.2.1 (sl wi S0 S1).2.2.2 (sl wi S1 S0).1 hme0.ha hme0.hp hme0.hq r hr h HZ2
          have nG : G ≠ sl wi bx0 bx1 := by unfold sl; split <;> omega
          have y1 : (wi : Int) < 2 := by omega
          have y2 : (oi : Int) < 2 := by omega
          have y3 : (1 : Int) - (wi : Int) = (oi : Int) := by omega
          have y4 := wr64 (oi : Int) (by omega) (by omega)
          have hMM : Hid (sl wi S0 S1 = sl wi S0 S1) := rfl
          clear hme0 hot0
          generalize hr : actW 1 A B C (sl wi S0 S1).1 (sl wi S0 S1).2.1 (sl wi S0 S1).2.2.1 (sl wi S0 S1).2.2.2 (sl wi S1 S0).1 = r at D
          have hKS := fun W => KS W r hr
          have hKN := fun W => KN W r hr
          obtain ⟨⟨er, nr, mr, sr⟩, R⟩ := r
          dsimp only at D hKS hKN
          clear KS KN hr hMM HZ1 HZ2
          unfold KsOk at hKS
          unfold KnOk at hKN
          dsimp only at hKS hKN
          generalize (sl wi S0 S1).2.1 = a at *
          generalize (sl wi S0 S1).2.2.1 = p at *
          generalize (sl wi S0 S1).2.2.2 = q at *
          generalize imgF (sl wi S0 S1).1.testBit 64 = PP at *
          generalize imgF (sl wi S1 S0).1.testBit 64 = QQ at *
          have HD : Hid _ := D
          have HKS : Hid _ := hKS
          have HKN : Hid _ := hKN
          have H1 : Hid _ := hM1
          have H2 : Hid _ := hM2
          have H3 : Hid _ := hM3
          have H4 : Hid _ := hM4
          clear D hKS hKN hM1 hM2 hM3 hM4
          obtain ⟨o0, o1, o2⟩ := TO.facts
          go_wp2_with fail
          refine NX.mono ?_
          rintro e w3 ⟨rfl, d3⟩
          have tB := tA.later d3
          have TO3 := TO.below d3 TO.lt
          have bB := bA.trans (d3.mono bA.size)
          clear o0 o1 o2 tA TO bA d3 NX
          have hP := tB.pair wi oi hwo
          have c0 := hP.hm
          go_wp2_with fail
          refine (H1.out _ tB).mono ?_
          rintro e w4 ⟨rfl, d4⟩
          have tC := tB.later d4
          have TO4 := TO3.below d4 TO3.lt
          have bC := bB.trans (d4.mono bB.size)
          clear c0 hP tB TO3 bB d4
          have c0 := (tC.pair wi oi hwo).ho
          go_wp2_with fail
          refine (H2.out _ tC).mono ?_
          rintro e w5 ⟨rfl, d5⟩
          have tD := tC.later d5
          have TO5 := TO4.below d5 TO4.lt
          have bD := bC.trans (d5.mono bC.size)
          clear c0 tC TO4 bC d5
          have c0 := (tD.pair wi oi hwo).ho
          go_wp2_with fail
          refine (H3.out _ tD).mono ?_
          rintro e w6 ⟨rfl, d6⟩
          have tE := tD.later d6
          have TO6 := TO5.below d6 TO5.lt
          have bE := bD.trans (d6.mono bD.size)
          clear c0 tD TO5 bD d6
          have c0 := (tE.pair wi oi hwo).hm
          go_wp2_with fail
          refine (H4.out _ tE).mono ?_
          rintro e w7 ⟨rfl, d7⟩
          have aW := (Below.refl w7.heap.size w7).alloc (Nat.le_refl _) (.cells #[I a, I p, I q] 36)
          have tF := (tE.later d7).later aW
          have TO7 := (TO6.below d7 TO6.lt).below aW (TO6.below d7 TO6.lt).lt
          have TW7 : Blk (w7.alloc (.cells #[I a, I p, I q] 36)) w7.heap.size #[I a, I p, I q] 36 := Blk.new rfl
          have bF := (bE.trans (d7.mono bE.size)).trans (aW.mono (by have := bE.size; have := d7.size; omega))
          have z7 := (tE.later d7).zs
          have nW : w7.heap.size ≠ sl wi bx0 bx1 := by unfold sl; split <;> omega
          clear c0 tE TO6 bE d7 aW
          obtain ⟨o0, o1, o2⟩ := TO7.facts
          go_wp2_with fail
          generalize w7.alloc (.cells #[I a, I p, I q] 36) = v8 at *
          generalize w7.heap.size = WK at *
          refine (HD.out _ tF).mono ?_
          rintro e w9 ⟨rfl, Q9⟩
          obtain ⟨t9, b9, u9⟩ := tF.real bF.size wi Q9
          have TO9 := TO7.upd u9 (fun e => nG (List.mem_singleton.1 e))
          have TW9 := TW7.upd u9 (fun e => nW (List.mem_singleton.1 e))
          have bb9 := bF.trans b9
          clear o0 o1 o2 TO7 TW7 tF bF Q9 u9 b9 HD
          have aN := (Below.refl w9.heap.size w9).alloc (Nat.le_refl _) (.cells #[I er, I nr, I mr, S sr] 40)
          have t6 := t9.later aN
          have TO6 := TO9.below aN TO9.lt
          have TW6 := TW9.below aN TW9.lt
          have TR6 : Blk (w9.alloc (.cells #[I er, I nr, I mr, S sr] 40)) w9.heap.size #[I er, I nr, I mr, S sr] 40 := Blk.new rfl
          have bb6 := bb9.alloc bb9.size (.cells #[I er, I nr, I mr, S sr] 40)
          go_wp2_with fail
          clear aN t9 TO9 TW9 bb9
          generalize w9.alloc (.cells #[I er, I nr, I mr, S sr] 40) = v6 at *
          generalize w9.heap.size = H at *
          have hmeN : BdR v6 _ _ _ _ _ := t6.me wi
          rw [sl_me] at hmeN
          have c0 := (t6.pair wi oi hwo).hm
          have k0 : v6.cell? ⟨G, 0, none⟩ = some (I 1) := TO6.cell 0
          have k1 : v6.cell? ⟨G, 1, none⟩ = some (I A) := TO6.cell 1
          have k2 : v6.cell? ⟨G, 2, none⟩ = some (I B) := TO6.cell 2
          have k3 : v6.cell? ⟨G, 3, none⟩ = some (I C) := TO6.cell 3
          have k4 : v6.cell? ⟨G, 4, none⟩ = some (.string s) := TO6.cell 4
          have k5 : v6.cell? ⟨G, 5, none⟩ = some (.string t) := TO6.cell 5
          have l0 : v6.cell? ⟨H, 0, none⟩ = some (I er) := TR6.cell 0
          have l1 : v6.cell? ⟨H, 1, none⟩ = some (I nr) := TR6.cell 1
          have l2 : v6.cell? ⟨H, 2, none⟩ = some (I mr) := TR6.cell 2
          have l3 : v6.cell? ⟨H, 3, none⟩ = some (S sr) := TR6.cell 3
          have bv6 : Below v6.heap.size v6 v6.drew := (Below.refl _ _).drew
          have HT6 : Hid _ := t6
          have hKS2 := fun V (hV : Below v6.heap.size v6 V) => HKS.out V (hmeN.later hV)
          have HKS2 : Hid _ := hKS2
          have HMN : Hid _ := hmeN
          clear hKS2 hmeN HKS t6
          go_region_held3 (fun W => W.cell? ⟨x, wi, none⟩ = some (ptr (sl wi bx0 bx1)) ∧ W.cell? ⟨G, 0, none⟩ = some (I 1) ∧ W.cell? ⟨G, 1, none⟩ = some (I A) ∧ W.cell? ⟨G, 2, none⟩ = some (I B) ∧ W.cell? ⟨G, 3, none⟩ = some (I C) ∧ W.cell? ⟨G, 4, none⟩ = some (.string s) ∧ W.cell? ⟨G, 5, none⟩ = some (.string t) ∧ W.cell? ⟨H, 0, none⟩ = some (I er) ∧ W.cell? ⟨H, 1, none⟩ = some (I nr) ∧ W.cell? ⟨H, 2, none⟩ = some (I mr) ∧ W.cell? ⟨H, 3, none⟩ = some (S sr)) (go_keep) (first | (go_at_call 20; refine (HKS2.out _ ?_).mono ?_; (first | with_reducible exact Below.refl _ _ | with_reducible exact bv6); rintro e w7 ⟨rfl, d7⟩; have d7' : Below v6.heap.size v6 w7 := (by first | exact d7 | exact bv6.trans d7); have TO7 := TO6.below d7' TO6.lt; have TR7 := TR6.below d7' TR6.lt; have x7 := ((HT6.out.later d7').pair wi oi hwo).hm; have m0 : w7.cell? ⟨G, 0, none⟩ = some (I 1) := TO7.cell 0; have m1 : w7.cell? ⟨G, 1, none⟩ = some (I A) := TO7.cell 1; have m2 : w7.cell? ⟨G, 2, none⟩ = some (I B) := TO7.cell 2; have m3 : w7.cell? ⟨G, 3, none⟩ = some (I C) := TO7.cell 3; have m4 : w7.cell? ⟨G, 4, none⟩ = some (.string s) := TO7.cell 4; have m5 : w7.cell? ⟨G, 5, none⟩ = some (.string t) := TO7.cell 5; have n0 : w7.cell? ⟨H, 0, none⟩ = some (I er) := TR7.cell 0; have n1 : w7.cell? ⟨H, 1, none⟩ = some (I nr) := TR7.cell 1; have n2 : w7.cell? ⟨H, 2, none⟩ = some (I mr) := TR7.cell 2; have n3 : w7.cell? ⟨H, 3, none⟩ = some (S sr) := TR7.cell 3))
          have t7 := HT6.out.later d7'
          have TW7 := TW6.below d7' TW6.lt
          have bb7 := bb6.trans (d7'.mono bb6.size)
          have hmeN := HMN.out.later d7'
          clear c0 k0 m0 k1 m1 k2 m2 k3 m3 k4 m4 k5 m5 l0 n0 l1 n1 l2 n2 l3 n3 HT6 HMN HKS2 TO6 TR6 TW6 bb6 d7 d7' bv6
          have k0 : w7.cell? ⟨G, 0, none⟩ = some (I 1) := TO7.cell 0
          have k1 : w7.cell? ⟨G, 1, none⟩ = some (I A) := TO7.cell 1
          have k2 : w7.cell? ⟨G, 2, none⟩ = some (I B) := TO7.cell 2
          have k3 : w7.cell? ⟨G, 3, none⟩ = some (I C) := TO7.cell 3
          have k4 : w7.cell? ⟨G, 4, none⟩ = some (.string s) := TO7.cell 4
          have k5 : w7.cell? ⟨G, 5, none⟩ = some (.string t) := TO7.cell 5
          have l0 : w7.cell? ⟨H, 0, none⟩ = some (I er) := TR7.cell 0
          have l1 : w7.cell? ⟨H, 1, none⟩ = some (I nr) := TR7.cell 1
          have l2 : w7.cell? ⟨H, 2, none⟩ = some (I mr) := TR7.cell 2
          have l3 : w7.cell? ⟨H, 3, none⟩ = some (S sr) := TR7.cell 3
          have c0 : w7.cell? ⟨WK, 0, none⟩ = some (I a) := TW7.cell 0
          have c1 : w7.cell? ⟨WK, 1, none⟩ = some (I p) := TW7.cell 1
          have c2 : w7.cell? ⟨WK, 2, none⟩ = some (I q) := TW7.cell 2
          have bv7 : Below w7.heap.size w7 w7.drew := (Below.refl _ _).drew
          have HT7 : Hid _ := t7
          have hKN2 := fun V (hV : Below w7.heap.size w7 V) => HKN.out V (hmeN.later hV)
          have HKN2 : Hid _ := hKN2
          have HMN : Hid _ := hmeN
          clear hKN2 hmeN HKN t7
          go_wp2_with fail
          go_region_held3 (fun W => W.cell? ⟨x, wi, none⟩ = some (ptr (sl wi bx0 bx1)) ∧ W.cell? ⟨G, 0, none⟩ = some (I 1) ∧ W.cell? ⟨G, 1, none⟩ = some (I A) ∧ W.cell? ⟨G, 2, none⟩ = some (I B) ∧ W.cell? ⟨G, 3, none⟩ = some (I C) ∧ W.cell? ⟨G, 4, none⟩ = some (.string s) ∧ W.cell? ⟨G, 5, none⟩ = some (.string t) ∧ W.cell? ⟨H, 0, none⟩ = some (I er) ∧ W.cell? ⟨H, 1, none⟩ = some (I nr) ∧ W.cell? ⟨H, 2, none⟩ = some (I mr) ∧ W.cell? ⟨H, 3, none⟩ = some (S sr) ∧ W.cell? ⟨WK, 0, none⟩ = some (I a) ∧ W.cell? ⟨WK, 1, none⟩ = some (I p) ∧ W.cell? ⟨WK, 2, none⟩ = some (I q)) (go_keep) (first | (go_at_call 21; refine (HKN2.out _ ?_).mono ?_; (first | with_reducible exact Below.refl _ _ | with_reducible exact bv7); rintro e w8 ⟨rfl, d8⟩; have d8' : Below w7.heap.size w7 w8 := (by first | exact d8 | exact bv7.trans d8); have TO8 := TO7.below d8' TO7.lt; have TR8 := TR7.below d8' TR7.lt; have TW8 := TW7.below d8' TW7.lt; have x8 := ((HT7.out.later d8').pair wi oi hwo).hm; have m0 : w8.cell? ⟨G, 0, none⟩ = some (I 1) := TO8.cell 0; have m1 : w8.cell? ⟨G, 1, none⟩ = some (I A) := TO8.cell 1; have m2 : w8.cell? ⟨G, 2, none⟩ = some (I B) := TO8.cell 2; have m3 : w8.cell? ⟨G, 3, none⟩ = some (I C) := TO8.cell 3; have m4 : w8.cell? ⟨G, 4, none⟩ = some (.string s) := TO8.cell 4; have m5 : w8.cell? ⟨G, 5, none⟩ = some (.string t) := TO8.cell 5; have n0 : w8.cell? ⟨H, 0, none⟩ = some (I er) := TR8.cell 0; have n1 : w8.cell? ⟨H, 1, none⟩ = some (I nr) := TR8.cell 1; have n2 : w8.cell? ⟨H, 2, none⟩ = some (I mr) := TR8.cell 2; have n3 : w8.cell? ⟨H, 3, none⟩ = some (S sr) := TR8.cell 3; have d0 : w8.cell? ⟨WK, 0, none⟩ = some (I a) := TW8.cell 0; have d1 : w8.cell? ⟨WK, 1, none⟩ = some (I p) := TW8.cell 1; have d2 : w8.cell? ⟨WK, 2, none⟩ = some (I q) := TW8.cell 2))
          have t8 := HT7.out.later d8'
          have bb8 := bb7.trans (d8'.mono bb7.size)
          have hmeN := HMN.out.later d8'
          have hotN : BdR w8 _ _ _ _ _ := t8.ot wi
          rw [sl_ot] at hotN
          have hSh := shown_any w8 x (sl wi bx0 bx1) (sl wi bx1 bx0) wi oi (fun W hW => (t8.later hW).pair wi oi hwo) _ _ _ _ hmeN _ _ _ _ hotN
          clear x7 x8 k0 m0 k1 m1 k2 m2 k3 m3 k4 m4 k5 m5 l0 n0 l1 n1 l2 n2 l3 n3 c0 d0 c1 d1 c2 d2 HT7 HMN HKN2 TO7 TR7 TW7 TO8 TR8 TW8 bb7 d8 d8' bv7 hmeN hotN
          go_wp2_with fail
          refine hSh.mono ?_
          rintro e w10 ⟨rfl, d10⟩
          have t10 := t8.later d10
          have bb10 := bb8.trans (d10.mono bb8.size)
          clear t8 bb8 d10 hSh
          go_wp2
          go_roundw
          case rel => exact ⟨j + 1, x, bx0, bx1, wi, sl wi R S0, sl wi S1 R, by omega, hle, rfl, rfl, by go_num, t10, bb10⟩
          case measure => simp [intOf]; omega
        · have k1b : (K == 1) = false := by simpa using k1
          go_upto_region 9 with fail
          clear c0 c1 c2 c3 c4 c5 tr br
          generalize wr.alloc (.cells #[I K, I A, I B, I C, .string s, .string t] 31) = v3 at *
          generalize wr.heap.size = G at *
          have HZ1 : K = 1 → (sl (nextW i K) s0 s1).1 = 0 := fun e => absurd e k1
          have HZ2 : K = 1 → (sl (nextW i K) s0 s1).2.1 = 0 ∧ (sl (nextW i K) s0 s1).2.2.1 = 0 ∧ (sl (nextW i K) s0 s1).2.2.2 = 0 := fun e => absurd e k1
          obtain ⟨z0, z1, z2⟩ := tA.zs
          have NX := next_any v3 i hi1 K A B C s t
          have hle := nextW_le i K hi1
          generalize nextW i K = wi at *
          have hwo : wi + (1 - wi) = 1 := by omega
          generalize hoi : 1 - wi = oi at *
          have D := fun V (hV : One w.heap.size V xb b0 b1 s0 s1) => do_any V xb (sl wi b0 b1) (sl wi b1 b0) wi oi (hV.pair wi oi hwo) (sl wi s0 s1).1 (sl wi s0 s1).2.1 (sl wi s0 s1).2.2.1 (sl wi s0 s1).2.2.2 (hV.me wi) (sl wi s1 s0).1 (sl wi s1 s0).2.1 (sl wi s1 s0).2.2.1 (sl wi s1 s0).2.2.2 (hV.ot wi) K A B C s t _ rfl
          have hM1 := fun V (hV : One w.heap.size V xb b0 b1 s0 s1) => image_any V _ _ _ _ _ (hV.me wi)
          have hM2 := fun V (hV : One w.heap.size V xb b0 b1 s0 s1) => image_any V _ _ _ _ _ (hV.ot wi)
          have hM3 := fun V (hV : One w.heap.size V xb b0 b1 s0 s1) => show_any V _ _ _ _ _ (hV.ot wi)
          have hM4 := fun V (hV : One w.heap.size V xb b0 b1 s0 s1) => nums_any V _ _ _ _ _ (hV.me wi)
          have hme0 : BdR v3 _ _ _ _ _ := tA.me wi
          have hot0 : BdR v3 _ _ _ _ _ := tA.ot wi
          have KS := fun W r hr h => keptSet_any W (sl wi b0 b1) K A B C s t (sl wi s0 s1).1 (sl wi s0 s1).2.1 (sl wi s0 s1).2.2.1 (sl wi s0 s1).2.2.2 (sl wi s1 s0).1 hme0.hu hot0.hu r hr h HZ1
          have KN := fun W r hr h => keptNums_any W (sl wi b0 b1) K A B C s t (sl wi s0 s1).1 (sl wi s0 s1).2.1 (sl wi s0 s1).2.2.1 (sl wi s0 s1).2.2.2 (sl wi s1 s0).1 hme0.ha hme0.hp hme0.hq r hr h HZ2
          have nG : G ≠ sl wi b0 b1 := by unfold sl; split <;> omega
          have y1 : (wi : Int) < 2 := by omega
          have y2 : (oi : Int) < 2 := by omega
          have y3 : (1 : Int) - (wi : Int) = (oi : Int) := by omega
          have y4 := wr64 (oi : Int) (by omega) (by omega)
          have hMM : Hid (sl wi s0 s1 = sl wi s0 s1) := rfl
          clear hme0 hot0
          generalize hr : actW K A B C (sl wi s0 s1).1 (sl wi s0 s1).2.1 (sl wi s0 s1).2.2.1 (sl wi s0 s1).2.2.2 (sl wi s1 s0).1 = r at D
          have hKS := fun W => KS W r hr
          have hKN := fun W => KN W r hr
          obtain ⟨⟨er, nr, mr, sr⟩, R⟩ := r
          dsimp only at D hKS hKN
          clear KS KN hr hMM HZ1 HZ2
          unfold KsOk at hKS
          unfold KnOk at hKN
          dsimp only at hKS hKN
          generalize (sl wi s0 s1).2.1 = a at *
          generalize (sl wi s0 s1).2.2.1 = p at *
          generalize (sl wi s0 s1).2.2.2 = q at *
          generalize imgF (sl wi s0 s1).1.testBit 64 = PP at *
          generalize imgF (sl wi s1 s0).1.testBit 64 = QQ at *
          have HD : Hid _ := D
          have HKS : Hid _ := hKS
          have HKN : Hid _ := hKN
          have H1 : Hid _ := hM1
          have H2 : Hid _ := hM2
          have H3 : Hid _ := hM3
          have H4 : Hid _ := hM4
          clear D hKS hKN hM1 hM2 hM3 hM4
          obtain ⟨o0, o1, o2⟩ := TO.facts
          go_wp2_with fail
          refine NX.mono ?_
          rintro e w3 ⟨rfl, d3⟩
          have tB := tA.later d3
          have TO3 := TO.below d3 TO.lt
          have bB := bA.trans (d3.mono bA.size)
          clear o0 o1 o2 tA TO bA d3 NX
          have hP := tB.pair wi oi hwo
          have c0 := hP.hm
          go_wp2_with fail
          refine (H1.out _ tB).mono ?_
          rintro e w4 ⟨rfl, d4⟩
          have tC := tB.later d4
          have TO4 := TO3.below d4 TO3.lt
          have bC := bB.trans (d4.mono bB.size)
          clear c0 hP tB TO3 bB d4
          have c0 := (tC.pair wi oi hwo).ho
          go_wp2_with fail
          refine (H2.out _ tC).mono ?_
          rintro e w5 ⟨rfl, d5⟩
          have tD := tC.later d5
          have TO5 := TO4.below d5 TO4.lt
          have bD := bC.trans (d5.mono bC.size)
          clear c0 tC TO4 bC d5
          have c0 := (tD.pair wi oi hwo).ho
          go_wp2_with fail
          refine (H3.out _ tD).mono ?_
          rintro e w6 ⟨rfl, d6⟩
          have tE := tD.later d6
          have TO6 := TO5.below d6 TO5.lt
          have bE := bD.trans (d6.mono bD.size)
          clear c0 tD TO5 bD d6
          have c0 := (tE.pair wi oi hwo).hm
          go_wp2_with fail
          refine (H4.out _ tE).mono ?_
          rintro e w7 ⟨rfl, d7⟩
          have aW := (Below.refl w7.heap.size w7).alloc (Nat.le_refl _) (.cells #[I a, I p, I q] 36)
          have tF := (tE.later d7).later aW
          have TO7 := (TO6.below d7 TO6.lt).below aW (TO6.below d7 TO6.lt).lt
          have TW7 : Blk (w7.alloc (.cells #[I a, I p, I q] 36)) w7.heap.size #[I a, I p, I q] 36 := Blk.new rfl
          have bF := (bE.trans (d7.mono bE.size)).trans (aW.mono (by have := bE.size; have := d7.size; omega))
          have z7 := (tE.later d7).zs
          have nW : w7.heap.size ≠ sl wi b0 b1 := by unfold sl; split <;> omega
          clear c0 tE TO6 bE d7 aW
          obtain ⟨o0, o1, o2⟩ := TO7.facts
          go_wp2_with fail
          generalize w7.alloc (.cells #[I a, I p, I q] 36) = v8 at *
          generalize w7.heap.size = WK at *
          refine (HD.out _ tF).mono ?_
          rintro e w9 ⟨rfl, Q9⟩
          obtain ⟨t9, b9, u9⟩ := tF.real bF.size wi Q9
          have TO9 := TO7.upd u9 (fun e => nG (List.mem_singleton.1 e))
          have TW9 := TW7.upd u9 (fun e => nW (List.mem_singleton.1 e))
          have bb9 := bF.trans b9
          clear o0 o1 o2 TO7 TW7 tF bF Q9 u9 b9 HD
          have aN := (Below.refl w9.heap.size w9).alloc (Nat.le_refl _) (.cells #[I er, I nr, I mr, S sr] 40)
          have t6 := t9.later aN
          have TO6 := TO9.below aN TO9.lt
          have TW6 := TW9.below aN TW9.lt
          have TR6 : Blk (w9.alloc (.cells #[I er, I nr, I mr, S sr] 40)) w9.heap.size #[I er, I nr, I mr, S sr] 40 := Blk.new rfl
          have bb6 := bb9.alloc bb9.size (.cells #[I er, I nr, I mr, S sr] 40)
          go_wp2_with fail
          clear aN t9 TO9 TW9 bb9
          generalize w9.alloc (.cells #[I er, I nr, I mr, S sr] 40) = v6 at *
          generalize w9.heap.size = H at *
          have hmeN : BdR v6 _ _ _ _ _ := t6.me wi
          rw [sl_me] at hmeN
          have c0 := (t6.pair wi oi hwo).hm
          have k0 : v6.cell? ⟨G, 0, none⟩ = some (I K) := TO6.cell 0
          have k1 : v6.cell? ⟨G, 1, none⟩ = some (I A) := TO6.cell 1
          have k2 : v6.cell? ⟨G, 2, none⟩ = some (I B) := TO6.cell 2
          have k3 : v6.cell? ⟨G, 3, none⟩ = some (I C) := TO6.cell 3
          have k4 : v6.cell? ⟨G, 4, none⟩ = some (.string s) := TO6.cell 4
          have k5 : v6.cell? ⟨G, 5, none⟩ = some (.string t) := TO6.cell 5
          have l0 : v6.cell? ⟨H, 0, none⟩ = some (I er) := TR6.cell 0
          have l1 : v6.cell? ⟨H, 1, none⟩ = some (I nr) := TR6.cell 1
          have l2 : v6.cell? ⟨H, 2, none⟩ = some (I mr) := TR6.cell 2
          have l3 : v6.cell? ⟨H, 3, none⟩ = some (S sr) := TR6.cell 3
          have bv6 : Below v6.heap.size v6 v6.drew := (Below.refl _ _).drew
          have HT6 : Hid _ := t6
          have hKS2 := fun V (hV : Below v6.heap.size v6 V) => HKS.out V (hmeN.later hV)
          have HKS2 : Hid _ := hKS2
          have HMN : Hid _ := hmeN
          clear hKS2 hmeN HKS t6
          go_region_held3 (fun W => W.cell? ⟨xb, wi, none⟩ = some (ptr (sl wi b0 b1)) ∧ W.cell? ⟨G, 0, none⟩ = some (I K) ∧ W.cell? ⟨G, 1, none⟩ = some (I A) ∧ W.cell? ⟨G, 2, none⟩ = some (I B) ∧ W.cell? ⟨G, 3, none⟩ = some (I C) ∧ W.cell? ⟨G, 4, none⟩ = some (.string s) ∧ W.cell? ⟨G, 5, none⟩ = some (.string t) ∧ W.cell? ⟨H, 0, none⟩ = some (I er) ∧ W.cell? ⟨H, 1, none⟩ = some (I nr) ∧ W.cell? ⟨H, 2, none⟩ = some (I mr) ∧ W.cell? ⟨H, 3, none⟩ = some (S sr)) (go_keep) (first | (go_at_call 20; refine (HKS2.out _ ?_).mono ?_; (first | with_reducible exact Below.refl _ _ | with_reducible exact bv6); rintro e w7 ⟨rfl, d7⟩; have d7' : Below v6.heap.size v6 w7 := (by first | exact d7 | exact bv6.trans d7); have TO7 := TO6.below d7' TO6.lt; have TR7 := TR6.below d7' TR6.lt; have x7 := ((HT6.out.later d7').pair wi oi hwo).hm; have m0 : w7.cell? ⟨G, 0, none⟩ = some (I K) := TO7.cell 0; have m1 : w7.cell? ⟨G, 1, none⟩ = some (I A) := TO7.cell 1; have m2 : w7.cell? ⟨G, 2, none⟩ = some (I B) := TO7.cell 2; have m3 : w7.cell? ⟨G, 3, none⟩ = some (I C) := TO7.cell 3; have m4 : w7.cell? ⟨G, 4, none⟩ = some (.string s) := TO7.cell 4; have m5 : w7.cell? ⟨G, 5, none⟩ = some (.string t) := TO7.cell 5; have n0 : w7.cell? ⟨H, 0, none⟩ = some (I er) := TR7.cell 0; have n1 : w7.cell? ⟨H, 1, none⟩ = some (I nr) := TR7.cell 1; have n2 : w7.cell? ⟨H, 2, none⟩ = some (I mr) := TR7.cell 2; have n3 : w7.cell? ⟨H, 3, none⟩ = some (S sr) := TR7.cell 3))
          have t7 := HT6.out.later d7'
          have TW7 := TW6.below d7' TW6.lt
          have bb7 := bb6.trans (d7'.mono bb6.size)
          have hmeN := HMN.out.later d7'
          clear c0 k0 m0 k1 m1 k2 m2 k3 m3 k4 m4 k5 m5 l0 n0 l1 n1 l2 n2 l3 n3 HT6 HMN HKS2 TO6 TR6 TW6 bb6 d7 d7' bv6
          have k0 : w7.cell? ⟨G, 0, none⟩ = some (I K) := TO7.cell 0
          have k1 : w7.cell? ⟨G, 1, none⟩ = some (I A) := TO7.cell 1
          have k2 : w7.cell? ⟨G, 2, none⟩ = some (I B) := TO7.cell 2
          have k3 : w7.cell? ⟨G, 3, none⟩ = some (I C) := TO7.cell 3
          have k4 : w7.cell? ⟨G, 4, none⟩ = some (.string s) := TO7.cell 4
          have k5 : w7.cell? ⟨G, 5, none⟩ = some (.string t) := TO7.cell 5
          have l0 : w7.cell? ⟨H, 0, none⟩ = some (I er) := TR7.cell 0
          have l1 : w7.cell? ⟨H, 1, none⟩ = some (I nr) := TR7.cell 1
          have l2 : w7.cell? ⟨H, 2, none⟩ = some (I mr) := TR7.cell 2
          have l3 : w7.cell? ⟨H, 3, none⟩ = some (S sr) := TR7.cell 3
          have c0 : w7.cell? ⟨WK, 0, none⟩ = some (I a) := TW7.cell 0
          have c1 : w7.cell? ⟨WK, 1, none⟩ = some (I p) := TW7.cell 1
          have c2 : w7.cell? ⟨WK, 2, none⟩ = some (I q) := TW7.cell 2
          have bv7 : Below w7.heap.size w7 w7.drew := (Below.refl _ _).drew
          have HT7 : Hid _ := t7
          have hKN2 := fun V (hV : Below w7.heap.size w7 V) => HKN.out V (hmeN.later hV)
          have HKN2 : Hid _ := hKN2
          have HMN : Hid _ := hmeN
          clear hKN2 hmeN HKN t7
          go_wp2_with fail
          go_region_held3 (fun W => W.cell? ⟨xb, wi, none⟩ = some (ptr (sl wi b0 b1)) ∧ W.cell? ⟨G, 0, none⟩ = some (I K) ∧ W.cell? ⟨G, 1, none⟩ = some (I A) ∧ W.cell? ⟨G, 2, none⟩ = some (I B) ∧ W.cell? ⟨G, 3, none⟩ = some (I C) ∧ W.cell? ⟨G, 4, none⟩ = some (.string s) ∧ W.cell? ⟨G, 5, none⟩ = some (.string t) ∧ W.cell? ⟨H, 0, none⟩ = some (I er) ∧ W.cell? ⟨H, 1, none⟩ = some (I nr) ∧ W.cell? ⟨H, 2, none⟩ = some (I mr) ∧ W.cell? ⟨H, 3, none⟩ = some (S sr) ∧ W.cell? ⟨WK, 0, none⟩ = some (I a) ∧ W.cell? ⟨WK, 1, none⟩ = some (I p) ∧ W.cell? ⟨WK, 2, none⟩ = some (I q)) (go_keep) (first | (go_at_call 21; refine (HKN2.out _ ?_).mono ?_; (first | with_reducible exact Below.refl _ _ | with_reducible exact bv7); rintro e w8 ⟨rfl, d8⟩; have d8' : Below w7.heap.size w7 w8 := (by first | exact d8 | exact bv7.trans d8); have TO8 := TO7.below d8' TO7.lt; have TR8 := TR7.below d8' TR7.lt; have TW8 := TW7.below d8' TW7.lt; have x8 := ((HT7.out.later d8').pair wi oi hwo).hm; have m0 : w8.cell? ⟨G, 0, none⟩ = some (I K) := TO8.cell 0; have m1 : w8.cell? ⟨G, 1, none⟩ = some (I A) := TO8.cell 1; have m2 : w8.cell? ⟨G, 2, none⟩ = some (I B) := TO8.cell 2; have m3 : w8.cell? ⟨G, 3, none⟩ = some (I C) := TO8.cell 3; have m4 : w8.cell? ⟨G, 4, none⟩ = some (.string s) := TO8.cell 4; have m5 : w8.cell? ⟨G, 5, none⟩ = some (.string t) := TO8.cell 5; have n0 : w8.cell? ⟨H, 0, none⟩ = some (I er) := TR8.cell 0; have n1 : w8.cell? ⟨H, 1, none⟩ = some (I nr) := TR8.cell 1; have n2 : w8.cell? ⟨H, 2, none⟩ = some (I mr) := TR8.cell 2; have n3 : w8.cell? ⟨H, 3, none⟩ = some (S sr) := TR8.cell 3; have d0 : w8.cell? ⟨WK, 0, none⟩ = some (I a) := TW8.cell 0; have d1 : w8.cell? ⟨WK, 1, none⟩ = some (I p) := TW8.cell 1; have d2 : w8.cell? ⟨WK, 2, none⟩ = some (I q) := TW8.cell 2))
          have t8 := HT7.out.later d8'
          have bb8 := bb7.trans (d8'.mono bb7.size)
          have hmeN := HMN.out.later d8'
          have hotN : BdR w8 _ _ _ _ _ := t8.ot wi
          rw [sl_ot] at hotN
          have hSh := shown_any w8 xb (sl wi b0 b1) (sl wi b1 b0) wi oi (fun W hW => (t8.later hW).pair wi oi hwo) _ _ _ _ hmeN _ _ _ _ hotN
          clear x7 x8 k0 m0 k1 m1 k2 m2 k3 m3 k4 m4 k5 m5 l0 n0 l1 n1 l2 n2 l3 n3 c0 d0 c1 d1 c2 d2 HT7 HMN HKN2 TO7 TR7 TW7 TO8 TR8 TW8 bb7 d8 d8' bv7 hmeN hotN
          go_wp2_with fail
          refine hSh.mono ?_
          rintro e w10 ⟨rfl, d10⟩
          have t10 := t8.later d10
          have bb10 := bb8.trans (d10.mono bb8.size)
          clear t8 bb8 d10 hSh
          go_wp2
          go_roundw
          case rel => exact ⟨j + 1, xb, b0, b1, wi, sl wi R s0, sl wi s1 R, by omega, hle, rfl, rfl, by go_num, t10, bb10⟩
          case measure => simp [intOf]; omega
      · have hjn : (j : Int) < (n : Int) := by omega
        go_wp2
        go_ret
        exact ⟨rfl, br⟩
    · have hjn : ¬ (j : Int) < (n : Int) := by omega
      go_wp2
      go_ret
      exact ⟨rfl, br⟩
set_option maxHeartbeats 400000 in
theorem keeps_any (w : World) (ao : Option Addr) (n cap : Nat) (hops : ∀ i, i < n → OpAt w ao i) (hn : n < 9223372036854775808) :
    Calls Try.prog 3 #[.slice ao n cap] w fun e w' => e = .returned (.bool true) ∧ Below w.heap.size w w' := by
  go_enter Try.func3, Try.ntmps3
  go_wp2_with fail
  refine (keepsUpTo_any w ao n cap hops hn).mono ?_
  rintro e w1 ⟨rfl, b1⟩
  go_wp2
  go_ret
  exact ⟨rfl, b1⟩
end Go.Proofs.Qxb6500469a
