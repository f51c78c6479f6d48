import Derived.Test.Qxb6500469aWk2
import Derived.Test.Qxb6500469aWk0
import Derived.Deep.RegionHeld3
import Derived.BigRegion
namespace Go.Proofs.Qxb6500469a
open Go.RowKit

set_option maxRecDepth 100000 in
set_option maxHeartbeats 8000000 in
theorem kn_19 (w : World) (b u : Nat) (n0 n1 n2 : Int) (h : BdR w b u n0 n1 n2) (A B C : Int) (s t : ByteArray) (a p q : Int) (e0 : (0 : Int) = -1 ∨ n0 = a) (e1 : (1 : Int) = -1 ∨ n1 = p) (e2 : (2 : Int) = -1 ∨ n2 = q) :
    Calls Try.prog 21 #[ptr b, OpV 19 A B C s t, AnsV 0 n0 n1 (itoa n2), .agg #[I a, I p, I q]] w fun e w' => e = .returned (.bool true) ∧ Below w.heap.size w w' := by
  have ha := h.ha
  have hp := h.hp
  have hq := h.hq
  have b0 := (((Below.refl w.heap.size w).alloc (Nat.le_refl _) (.cells #[I 19, I A, I B, I C, .string s, .string t] 31)).alloc (by simp) (.cells #[I 0, I n0, I n1, S (itoa n2)] 40)).alloc (by simp; omega) (.cells #[I a, I p, I q] 36)
  have BO : Blk (((w.alloc (.cells #[I 19, I A, I B, I C, .string s, .string t] 31)).alloc (.cells #[I 0, I n0, I n1, S (itoa n2)] 40)).alloc (.cells #[I a, I p, I q] 36)) w.heap.size #[I 19, I A, I B, I C, .string s, .string t] 31 := ((Blk.new rfl).old _).old _
  have BA : Blk (((w.alloc (.cells #[I 19, I A, I B, I C, .string s, .string t] 31)).alloc (.cells #[I 0, I n0, I n1, S (itoa n2)] 40)).alloc (.cells #[I a, I p, I q] 36)) (w.heap.size + 1) #[I 0, I n0, I n1, S (itoa n2)] 40 := (Blk.new (by simp)).old _
  have BW : Blk (((w.alloc (.cells #[I 19, I A, I B, I C, .string s, .string t] 31)).alloc (.cells #[I 0, I n0, I n1, S (itoa n2)] 40)).alloc (.cells #[I a, I p, I q] 36)) (w.heap.size + 2) #[I a, I p, I q] 36 := Blk.new (by simp)
  have hN := nums_any _ b u n0 n1 n2 (h.later b0)
  go_enter Try.func21, Try.ntmps21
  go_wp2_with fail
  generalize (((w.alloc (.cells #[I 19, I A, I B, I C, .string s, .string t] 31)).alloc (.cells #[I 0, I n0, I n1, S (itoa n2)] 40)).alloc (.cells #[I a, I p, I q] 36)) = v0 at *
  refine hN.mono ?_
  rintro e w1 ⟨rfl, b1⟩
  have aN := (Below.refl w1.heap.size w1).alloc (Nat.le_refl _) (.cells #[I n0, I n1, I n2] 36)
  have BO1 := (BO.below b1 BO.lt).old (.cells #[I n0, I n1, I n2] 36)
  have BA1 := (BA.below b1 BA.lt).old (.cells #[I n0, I n1, I n2] 36)
  have BW1 := (BW.below b1 BW.lt).old (.cells #[I n0, I n1, I n2] 36)
  have BN1 : Blk (w1.alloc (.cells #[I n0, I n1, I n2] 36)) w1.heap.size #[I n0, I n1, I n2] 36 := Blk.new rfl
  have bb1 := (b0.trans (b1.mono b0.size)).trans (aN.mono (by have := b0.size; have := b1.size; omega))
  clear b0 BO BA BW hN b1 aN h
  obtain ⟨o0, o1, o2⟩ := BO1.facts
  obtain ⟨x0, x1, x2⟩ := BA1.facts
  go_wp2_with fail
  generalize w1.alloc (.cells #[I n0, I n1, I n2] 36) = v1 at *
  generalize w1.heap.size = NB at *
  generalize w.heap.size + 2 = WB at *
  generalize w.heap.size + 1 = AB at *
  have k0 : v1.cell? ⟨AB, 0, none⟩ = some (I 0) := BA1.cell 0
  have k1 : v1.cell? ⟨AB, 1, none⟩ = some (I n0) := BA1.cell 1
  have k2 : v1.cell? ⟨AB, 2, none⟩ = some (I n1) := BA1.cell 2
  have k3 : v1.cell? ⟨AB, 3, none⟩ = some (S (itoa n2)) := BA1.cell 3
  have r0 : v1.cell? ⟨NB, 0, none⟩ = some (I n0) := BN1.cell 0
  have r1 : v1.cell? ⟨NB, 1, none⟩ = some (I n1) := BN1.cell 1
  have r2 : v1.cell? ⟨NB, 2, none⟩ = some (I n2) := BN1.cell 2
  have hIt := itoa_any n2 (by omega) (by omega)
  have bv3 : Below v1.heap.size v1 v1.drew := (Below.refl _ _).drew
  clear o0 o1 o2 x0 x1 x2
  go_region_held3 (fun W => W.cell? ⟨AB, 0, none⟩ = some (I 0) ∧ W.cell? ⟨AB, 1, none⟩ = some (I n0) ∧ W.cell? ⟨AB, 2, none⟩ = some (I n1) ∧ W.cell? ⟨AB, 3, none⟩ = some (S (itoa n2)) ∧ W.cell? ⟨NB, 0, none⟩ = some (I n0) ∧ W.cell? ⟨NB, 1, none⟩ = some (I n1) ∧ W.cell? ⟨NB, 2, none⟩ = some (I n2)) (go_keep) (first | (go_at_call 11; refine (hIt _).mono ?_; rintro e w4 ⟨rfl, b4⟩; have b4' : Below v1.heap.size v1 w4 := (by first | exact b4 | exact bv3.trans b4); have BA4 := BA1.below b4' BA1.lt; have BN4 := BN1.below b4' BN1.lt; have m0 : w4.cell? ⟨AB, 0, none⟩ = some (I 0) := BA4.cell 0; have m1 : w4.cell? ⟨AB, 1, none⟩ = some (I n0) := BA4.cell 1; have m2 : w4.cell? ⟨AB, 2, none⟩ = some (I n1) := BA4.cell 2; have m3 : w4.cell? ⟨AB, 3, none⟩ = some (S (itoa n2)) := BA4.cell 3; have q0 : w4.cell? ⟨NB, 0, none⟩ = some (I n0) := BN4.cell 0; have q1 : w4.cell? ⟨NB, 1, none⟩ = some (I n1) := BN4.cell 1; have q2 : w4.cell? ⟨NB, 2, none⟩ = some (I n2) := BN4.cell 2))
  have BN2 := BN1.below b4' BN1.lt
  have BW2 := BW1.below b4' BW1.lt
  have bb2 := bb1.trans (b4'.mono bb1.size)
  clear k0 m0 k1 m1 k2 m2 k3 m3 r0 q0 r1 q1 r2 q2 BA4 BN4 b4 b4' BN1 BW1 BA1 BO1 bb1 hIt bv3
  go_wp2
  go_loopw [19] (fun r wr => ∃ k : Nat, k ≤ 3 ∧ r = I k ∧ Blk wr NB #[I n0, I n1, I n2] 36 ∧ Blk wr WB #[I a, I p, I q] 36 ∧ Below w.heap.size w wr) (fun r _ => (3 - intOf r).toNat)
  case atStart => exact ⟨0, by omega, rfl, BN2, BW2, bb2⟩
  case round =>
    clear BN2 BW2 bb2
    obtain ⟨k, hk, rfl, BN, BW, br⟩ := hrel
    have hkk : k = 0 ∨ k = 1 ∨ k = 2 ∨ k = 3 := by omega
    clear hk
    rcases hkk with rfl | rfl | rfl | rfl
    · have hE := ends_any 0 wr
      rw [show loR 0 = (-128) from rfl, show hiR 0 = 127 from rfl] at hE
      have m0 : wr.cell? ⟨NB, 0, none⟩ = some (I n0) := BN.cell 0
      have m1 : wr.cell? ⟨WB, 0, none⟩ = some (I a) := BW.cell 0
      have g1 : ¬ n0 < (-128) := by omega
      have g2 : ¬ 127 < n0 := by omega
      have hg : ((0 : Int) != -1) = true := by decide
      all_goals
        have hnw : (n0 != a) = false := by
          rcases e0 with e | e
          · rw [← e] at hg; simp at hg
          · rw [e]; simp
        go_wp2_with fail
        refine hE.mono ?_
        rintro e w3 ⟨rfl, rfl⟩
        go_wp2_with fail
        go_region
        go_wp2
        go_roundw
        case rel => exact ⟨1, by omega, rfl, BN, BW, br.drew⟩
        case measure => simp [intOf]
    · have hE := ends_any 1 wr
      rw [show loR 1 = (-32768) from rfl, show hiR 1 = 32767 from rfl] at hE
      have m0 : wr.cell? ⟨NB, 1, none⟩ = some (I n1) := BN.cell 1
      have m1 : wr.cell? ⟨WB, 1, none⟩ = some (I p) := BW.cell 1
      have g1 : ¬ n1 < (-32768) := by omega
      have g2 : ¬ 32767 < n1 := by omega
      have hg : ((1 : Int) != -1) = true := by decide
      all_goals
        have hnw : (n1 != p) = false := by
          rcases e1 with e | e
          · rw [← e] at hg; simp at hg
          · rw [e]; simp
        go_wp2_with fail
        refine hE.mono ?_
        rintro e w3 ⟨rfl, rfl⟩
        go_wp2_with fail
        go_region
        go_wp2
        go_roundw
        case rel => exact ⟨2, by omega, rfl, BN, BW, br.drew⟩
        case measure => simp [intOf]
    · have hE := ends_any 2 wr
      rw [show loR 2 = 0 from rfl, show hiR 2 = 65535 from rfl] at hE
      have m0 : wr.cell? ⟨NB, 2, none⟩ = some (I n2) := BN.cell 2
      have m1 : wr.cell? ⟨WB, 2, none⟩ = some (I q) := BW.cell 2
      have g1 : ¬ n2 < 0 := by omega
      have g2 : ¬ 65535 < n2 := by omega
      have hg : ((2 : Int) != -1) = true := by decide
      all_goals
        have hnw : (n2 != q) = false := by
          rcases e2 with e | e
          · rw [← e] at hg; simp at hg
          · rw [e]; simp
        go_wp2_with fail
        refine hE.mono ?_
        rintro e w3 ⟨rfl, rfl⟩
        go_wp2_with fail
        go_region
        go_wp2
        go_roundw
        case rel => exact ⟨3, by omega, rfl, BN, BW, br.drew⟩
        case measure => simp [intOf]
    · go_wp2
      go_ret
      exact ⟨rfl, br⟩
set_option maxRecDepth 100000 in
set_option maxHeartbeats 8000000 in
theorem kn_16e (w : World) (b u : Nat) (n0 n1 n2 : Int) (h : BdR w b u n0 n1 n2) (A B C : Int) (s t : ByteArray) (E N M : Int) (T : List UInt8) (a p q : Int) (e0 : (0 : Int) = -1 ∨ n0 = a) (e1 : (1 : Int) = -1 ∨ n1 = p) (e2 : (2 : Int) = -1 ∨ n2 = q) (hE0 : E ≠ 0) (hD : ∀ W, Calls Try.prog 49 #[I A, I B, I C] W fun e w' => e = .returned (I E) ∧ w' = W) :
    Calls Try.prog 21 #[ptr b, OpV 16 A B C s t, AnsV E N M (T), .agg #[I a, I p, I q]] w fun e w' => e = .returned (.bool true) ∧ Below w.heap.size w w' := by
  have ha := h.ha
  have hp := h.hp
  have hq := h.hq
  have b0 := (((Below.refl w.heap.size w).alloc (Nat.le_refl _) (.cells #[I 16, I A, I B, I C, .string s, .string t] 31)).alloc (by simp) (.cells #[I E, I N, I M, S (T)] 40)).alloc (by simp; omega) (.cells #[I a, I p, I q] 36)
  have BO : Blk (((w.alloc (.cells #[I 16, I A, I B, I C, .string s, .string t] 31)).alloc (.cells #[I E, I N, I M, S (T)] 40)).alloc (.cells #[I a, I p, I q] 36)) w.heap.size #[I 16, I A, I B, I C, .string s, .string t] 31 := ((Blk.new rfl).old _).old _
  have BA : Blk (((w.alloc (.cells #[I 16, I A, I B, I C, .string s, .string t] 31)).alloc (.cells #[I E, I N, I M, S (T)] 40)).alloc (.cells #[I a, I p, I q] 36)) (w.heap.size + 1) #[I E, I N, I M, S (T)] 40 := (Blk.new (by simp)).old _
  have BW : Blk (((w.alloc (.cells #[I 16, I A, I B, I C, .string s, .string t] 31)).alloc (.cells #[I E, I N, I M, S (T)] 40)).alloc (.cells #[I a, I p, I q] 36)) (w.heap.size + 2) #[I a, I p, I q] 36 := Blk.new (by simp)
  have hN := nums_any _ b u n0 n1 n2 (h.later b0)
  go_enter Try.func21, Try.ntmps21
  go_wp2_with fail
  generalize (((w.alloc (.cells #[I 16, I A, I B, I C, .string s, .string t] 31)).alloc (.cells #[I E, I N, I M, S (T)] 40)).alloc (.cells #[I a, I p, I q] 36)) = v0 at *
  refine hN.mono ?_
  rintro e w1 ⟨rfl, b1⟩
  have aN := (Below.refl w1.heap.size w1).alloc (Nat.le_refl _) (.cells #[I n0, I n1, I n2] 36)
  have BO1 := (BO.below b1 BO.lt).old (.cells #[I n0, I n1, I n2] 36)
  have BA1 := (BA.below b1 BA.lt).old (.cells #[I n0, I n1, I n2] 36)
  have BW1 := (BW.below b1 BW.lt).old (.cells #[I n0, I n1, I n2] 36)
  have BN1 : Blk (w1.alloc (.cells #[I n0, I n1, I n2] 36)) w1.heap.size #[I n0, I n1, I n2] 36 := Blk.new rfl
  have bb1 := (b0.trans (b1.mono b0.size)).trans (aN.mono (by have := b0.size; have := b1.size; omega))
  clear b0 BO BA BW hN b1 aN h
  obtain ⟨o0, o1, o2⟩ := BO1.facts
  obtain ⟨x0, x1, x2⟩ := BA1.facts
  have g0 : (E == 0) = false := by simpa using hE0
  clear hE0
  go_wp2_with fail
  refine (hD _).mono ?_
  rintro e w3 ⟨rfl, rfl⟩
  generalize hv1 : w1.alloc (.cells #[I n0, I n1, I n2] 36) = v1 at *
  generalize w1.heap.size = NB at *
  generalize w.heap.size + 2 = WB at *
  generalize w.heap.size + 1 = AB at *
  go_wp2
  clear o0 o1 o2 x0 x1 x2
  have BN2 := BN1
  have BW2 := BW1
  have bb2 := bb1
  go_loopw [19] (fun r wr => ∃ k : Nat, k ≤ 3 ∧ r = I k ∧ Blk wr NB #[I n0, I n1, I n2] 36 ∧ Blk wr WB #[I a, I p, I q] 36 ∧ Below w.heap.size w wr) (fun r _ => (3 - intOf r).toNat)
  case atStart => exact ⟨0, by omega, rfl, BN2, BW2, bb2⟩
  case round =>
    clear BN2 BW2 bb2
    obtain ⟨k, hk, rfl, BN, BW, br⟩ := hrel
    have hkk : k = 0 ∨ k = 1 ∨ k = 2 ∨ k = 3 := by omega
    clear hk
    rcases hkk with rfl | rfl | rfl | rfl
    · have hE := ends_any 0 wr
      rw [show loR 0 = (-128) from rfl, show hiR 0 = 127 from rfl] at hE
      have m0 : wr.cell? ⟨NB, 0, none⟩ = some (I n0) := BN.cell 0
      have m1 : wr.cell? ⟨WB, 0, none⟩ = some (I a) := BW.cell 0
      have g1 : ¬ n0 < (-128) := by omega
      have g2 : ¬ 127 < n0 := by omega
      have hg : ((0 : Int) != -1) = true := by decide
      all_goals
        have hnw : (n0 != a) = false := by
          rcases e0 with e | e
          · rw [← e] at hg; simp at hg
          · rw [e]; simp
        go_wp2_with fail
        refine hE.mono ?_
        rintro e w3 ⟨rfl, rfl⟩
        go_wp2_with fail
        go_region
        go_wp2
        go_roundw
        case rel => exact ⟨1, by omega, rfl, BN, BW, br.drew⟩
        case measure => simp [intOf]
    · have hE := ends_any 1 wr
      rw [show loR 1 = (-32768) from rfl, show hiR 1 = 32767 from rfl] at hE
      have m0 : wr.cell? ⟨NB, 1, none⟩ = some (I n1) := BN.cell 1
      have m1 : wr.cell? ⟨WB, 1, none⟩ = some (I p) := BW.cell 1
      have g1 : ¬ n1 < (-32768) := by omega
      have g2 : ¬ 32767 < n1 := by omega
      have hg : ((1 : Int) != -1) = true := by decide
      all_goals
        have hnw : (n1 != p) = false := by
          rcases e1 with e | e
          · rw [← e] at hg; simp at hg
          · rw [e]; simp
        go_wp2_with fail
        refine hE.mono ?_
        rintro e w3 ⟨rfl, rfl⟩
        go_wp2_with fail
        go_region
        go_wp2
        go_roundw
        case rel => exact ⟨2, by omega, rfl, BN, BW, br.drew⟩
        case measure => simp [intOf]
    · have hE := ends_any 2 wr
      rw [show loR 2 = 0 from rfl, show hiR 2 = 65535 from rfl] at hE
      have m0 : wr.cell? ⟨NB, 2, none⟩ = some (I n2) := BN.cell 2
      have m1 : wr.cell? ⟨WB, 2, none⟩ = some (I q) := BW.cell 2
      have g1 : ¬ n2 < 0 := by omega
      have g2 : ¬ 65535 < n2 := by omega
      have hg : ((2 : Int) != -1) = true := by decide
      all_goals
        have hnw : (n2 != q) = false := by
          rcases e2 with e | e
          · rw [← e] at hg; simp at hg
          · rw [e]; simp
        go_wp2_with fail
        refine hE.mono ?_
        rintro e w3 ⟨rfl, rfl⟩
        go_wp2_with fail
        go_region
        go_wp2
        go_roundw
        case rel => exact ⟨3, by omega, rfl, BN, BW, br.drew⟩
        case measure => simp [intOf]
    · go_wp2
      go_ret
      exact ⟨rfl, br⟩
set_option maxRecDepth 100000 in
set_option maxHeartbeats 8000000 in
theorem kn_16k (w : World) (b u : Nat) (n0 n1 n2 : Int) (h : BdR w b u n0 n1 n2) (B C : Int) (s t : ByteArray) (N M : Int) (T : List UInt8) (a p q : Int) (rr : Nat) (hr3 : (rr : Int) < 3) (lo hi x y vv : Int) (e0 : (0 : Int) = (rr : Int) ∨ n0 = a) (e1 : (1 : Int) = (rr : Int) ∨ n1 = p) (e2 : (2 : Int) = (rr : Int) ∨ n2 = q) (hcw : (#[I a, I p, I q] : Array Value)[rr]? = some (I x)) (hcn : (#[I n0, I n1, I n2] : Array Value)[rr]? = some (I y)) (hD : ∀ W, Calls Try.prog 49 #[I rr, I B, I C] W fun e w' => e = .returned (I 0) ∧ w' = W) (hE : ∀ W, Calls Try.prog 50 #[I rr] W fun e w' => e = .returned (.tuple #[I lo, I hi]) ∧ w' = W) (hI : ∀ W, Calls Try.prog 51 #[I C, I lo, I hi] W fun e w' => e = .returned (I vv) ∧ w' = W) (hWk : ∀ W, Calls Try.prog 52 #[I B, I x, I vv, I y, I lo, I hi] W fun e w' => e = .returned (.bool true) ∧ w' = W) :
    Calls Try.prog 21 #[ptr b, OpV 16 rr B C s t, AnsV 0 N M (T), .agg #[I a, I p, I q]] w fun e w' => e = .returned (.bool true) ∧ Below w.heap.size w w' := by
  have ha := h.ha
  have hp := h.hp
  have hq := h.hq
  have b0 := (((Below.refl w.heap.size w).alloc (Nat.le_refl _) (.cells #[I 16, I rr, I B, I C, .string s, .string t] 31)).alloc (by simp) (.cells #[I 0, I N, I M, S (T)] 40)).alloc (by simp; omega) (.cells #[I a, I p, I q] 36)
  have BO : Blk (((w.alloc (.cells #[I 16, I rr, I B, I C, .string s, .string t] 31)).alloc (.cells #[I 0, I N, I M, S (T)] 40)).alloc (.cells #[I a, I p, I q] 36)) w.heap.size #[I 16, I rr, I B, I C, .string s, .string t] 31 := ((Blk.new rfl).old _).old _
  have BA : Blk (((w.alloc (.cells #[I 16, I rr, I B, I C, .string s, .string t] 31)).alloc (.cells #[I 0, I N, I M, S (T)] 40)).alloc (.cells #[I a, I p, I q] 36)) (w.heap.size + 1) #[I 0, I N, I M, S (T)] 40 := (Blk.new (by simp)).old _
  have BW : Blk (((w.alloc (.cells #[I 16, I rr, I B, I C, .string s, .string t] 31)).alloc (.cells #[I 0, I N, I M, S (T)] 40)).alloc (.cells #[I a, I p, I q] 36)) (w.heap.size + 2) #[I a, I p, I q] 36 := Blk.new (by simp)
  have hN := nums_any _ b u n0 n1 n2 (h.later b0)
  go_enter Try.func21, Try.ntmps21
  go_wp2_with fail
  generalize (((w.alloc (.cells #[I 16, I rr, I B, I C, .string s, .string t] 31)).alloc (.cells #[I 0, I N, I M, S (T)] 40)).alloc (.cells #[I a, I p, I q] 36)) = v0 at *
  refine hN.mono ?_
  rintro e w1 ⟨rfl, b1⟩
  have aN := (Below.refl w1.heap.size w1).alloc (Nat.le_refl _) (.cells #[I n0, I n1, I n2] 36)
  have BO1 := (BO.below b1 BO.lt).old (.cells #[I n0, I n1, I n2] 36)
  have BA1 := (BA.below b1 BA.lt).old (.cells #[I n0, I n1, I n2] 36)
  have BW1 := (BW.below b1 BW.lt).old (.cells #[I n0, I n1, I n2] 36)
  have BN1 : Blk (w1.alloc (.cells #[I n0, I n1, I n2] 36)) w1.heap.size #[I n0, I n1, I n2] 36 := Blk.new rfl
  have bb1 := (b0.trans (b1.mono b0.size)).trans (aN.mono (by have := b0.size; have := b1.size; omega))
  clear b0 BO BA BW hN b1 aN h
  obtain ⟨o0, o1, o2⟩ := BO1.facts
  obtain ⟨x0, x1, x2⟩ := BA1.facts
  have hr0 : (0 : Int) ≤ (rr : Int) := by omega
  go_wp2_with fail
  refine (hD _).mono ?_
  rintro e w3 ⟨rfl, rfl⟩
  go_wp2_with fail
  refine (hE _).mono ?_
  rintro e w3 ⟨rfl, rfl⟩
  go_wp2_with fail
  refine (hI _).mono ?_
  rintro e w3 ⟨rfl, rfl⟩
  go_wp2_with fail
  generalize hv1 : w1.alloc (.cells #[I n0, I n1, I n2] 36) = v1 at *
  generalize w1.heap.size = NB at *
  generalize w.heap.size + 2 = WB at *
  generalize w.heap.size + 1 = AB at *
  obtain ⟨OB, hOB⟩ : ∃ OB, OB = w.heap.size := ⟨_, rfl⟩
  have k0 : v1.cell? ⟨w.heap.size, 2, none⟩ = some (I B) := BO1.cell 2
  have k1 : v1.cell? ⟨WB, rr, none⟩ = some (I x) := (BW1.cell rr).trans hcw
  have k2 : v1.cell? ⟨NB, rr, none⟩ = some (I y) := (BN1.cell rr).trans hcn
  have bv3 : Below v1.heap.size v1 v1.drew := (Below.refl _ _).drew
  clear o0 o1 o2 x0 x1 x2 hD hE hI
  go_region_held3 (fun W => W.cell? ⟨w.heap.size, 2, none⟩ = some (I B) ∧ W.cell? ⟨WB, rr, none⟩ = some (I x) ∧ W.cell? ⟨NB, rr, none⟩ = some (I y)) (go_keep) (first | (go_at_call 52; refine (hWk _).mono ?_; rintro e w4 ⟨rfl, rfl⟩))
  have BN2 := BN1.below bv3 BN1.lt
  have BW2 := BW1.below bv3 BW1.lt
  have bb2 := bb1.trans (bv3.mono bb1.size)
  clear k0 k1 k2 BN1 BW1 BA1 BO1 bb1 hWk bv3 hcw hcn
  go_wp2
  go_loopw [19] (fun r wr => ∃ k : Nat, k ≤ 3 ∧ r = I k ∧ Blk wr NB #[I n0, I n1, I n2] 36 ∧ Blk wr WB #[I a, I p, I q] 36 ∧ Below w.heap.size w wr) (fun r _ => (3 - intOf r).toNat)
  case atStart => exact ⟨0, by omega, rfl, BN2, BW2, bb2⟩
  case round =>
    clear BN2 BW2 bb2
    obtain ⟨k, hk, rfl, BN, BW, br⟩ := hrel
    have hkk : k = 0 ∨ k = 1 ∨ k = 2 ∨ k = 3 := by omega
    clear hk
    rcases hkk with rfl | rfl | rfl | rfl
    · have hE := ends_any 0 wr
      rw [show loR 0 = (-128) from rfl, show hiR 0 = 127 from rfl] at hE
      have m0 : wr.cell? ⟨NB, 0, none⟩ = some (I n0) := BN.cell 0
      have m1 : wr.cell? ⟨WB, 0, none⟩ = some (I a) := BW.cell 0
      have g1 : ¬ n0 < (-128) := by omega
      have g2 : ¬ 127 < n0 := by omega
      cases hg : ((0 : Int) != (rr : Int)) with
      | false =>
        go_wp2_with fail
        refine hE.mono ?_
        rintro e w3 ⟨rfl, rfl⟩
        go_wp2_with fail
        go_region
        go_wp2
        go_roundw
        case rel => exact ⟨1, by omega, rfl, BN, BW, br.drew⟩
        case measure => simp [intOf]
      | true =>
        have hnw : (n0 != a) = false := by
          rcases e0 with e | e
          · rw [← e] at hg; simp at hg
          · rw [e]; simp
        go_wp2_with fail
        refine hE.mono ?_
        rintro e w3 ⟨rfl, rfl⟩
        go_wp2_with fail
        go_region
        go_wp2
        go_roundw
        case rel => exact ⟨1, by omega, rfl, BN, BW, br.drew⟩
        case measure => simp [intOf]
    · have hE := ends_any 1 wr
      rw [show loR 1 = (-32768) from rfl, show hiR 1 = 32767 from rfl] at hE
      have m0 : wr.cell? ⟨NB, 1, none⟩ = some (I n1) := BN.cell 1
      have m1 : wr.cell? ⟨WB, 1, none⟩ = some (I p) := BW.cell 1
      have g1 : ¬ n1 < (-32768) := by omega
      have g2 : ¬ 32767 < n1 := by omega
      cases hg : ((1 : Int) != (rr : Int)) with
      | false =>
        go_wp2_with fail
        refine hE.mono ?_
        rintro e w3 ⟨rfl, rfl⟩
        go_wp2_with fail
        go_region
        go_wp2
        go_roundw
        case rel => exact ⟨2, by omega, rfl, BN, BW, br.drew⟩
        case measure => simp [intOf]
      | true =>
        have hnw : (n1 != p) = false := by
          rcases e1 with e | e
          · rw [← e] at hg; simp at hg
          · rw [e]; simp
        go_wp2_with fail
        refine hE.mono ?_
        rintro e w3 ⟨rfl, rfl⟩
        go_wp2_with fail
        go_region
        go_wp2
        go_roundw
        case rel => exact ⟨2, by omega, rfl, BN, BW, br.drew⟩
        case measure => simp [intOf]
    · have hE := ends_any 2 wr
      rw [show loR 2 = 0 from rfl, show hiR 2 = 65535 from rfl] at hE
      have m0 : wr.cell? ⟨NB, 2, none⟩ = some (I n2) := BN.cell 2
      have m1 : wr.cell? ⟨WB, 2, none⟩ = some (I q) := BW.cell 2
      have g1 : ¬ n2 < 0 := by omega
      have g2 : ¬ 65535 < n2 := by omega
      cases hg : ((2 : Int) != (rr : Int)) with
      | false =>
        go_wp2_with fail
        refine hE.mono ?_
        rintro e w3 ⟨rfl, rfl⟩
        go_wp2_with fail
        go_region
        go_wp2
        go_roundw
        case rel => exact ⟨3, by omega, rfl, BN, BW, br.drew⟩
        case measure => simp [intOf]
      | true =>
        have hnw : (n2 != q) = false := by
          rcases e2 with e | e
          · rw [← e] at hg; simp at hg
          · rw [e]; simp
        go_wp2_with fail
        refine hE.mono ?_
        rintro e w3 ⟨rfl, rfl⟩
        go_wp2_with fail
        go_region
        go_wp2
        go_roundw
        case rel => exact ⟨3, by omega, rfl, BN, BW, br.drew⟩
        case measure => simp [intOf]
    · go_wp2
      go_ret
      exact ⟨rfl, br⟩
end Go.Proofs.Qxb6500469a
