import Derived.Test.Qxb6500469aWk2
import Derived.Test.Qxb6500469aWk0
import Derived.Deep.RegionHeld3
import Derived.BigRegion
namespace Go.Proofs.Qxb6500469a
open Go.RowKit

set_option maxRecDepth 100000 in
set_option maxHeartbeats 8000000 in
theorem kn_o (w : World) (b u : Nat) (n0 n1 n2 : Int) (h : BdR w b u n0 n1 n2) (K : Int) (A B C : Int) (s t : ByteArray) (E N M : Int) (T : List UInt8) (a p q : Int) (e0 : (0 : Int) = -1 ∨ n0 = a) (e1 : (1 : Int) = -1 ∨ n1 = p) (e2 : (2 : Int) = -1 ∨ n2 = q) (k16 : K ≠ 16) (k17 : K ≠ 17) (k20 : K ≠ 20) (k1 : K ≠ 1) (k18 : K ≠ 18) (k19 : K ≠ 19) :
    Calls Try.prog 21 #[ptr b, OpV K A B C s t, AnsV E N M (T), .agg #[I a, I p, I q]] w fun e w' => e = .returned (.bool true) ∧ Below w.heap.size w w' := by
  have j16 : (K == 16) = false := by simpa using k16
  have j17 : (K == 17) = false := by simpa using k17
  have j20 : (K == 20) = false := by simpa using k20
  have j1 : (K == 1) = false := by simpa using k1
  have j18 : (K == 18) = false := by simpa using k18
  have j19 : (K == 19) = false := by simpa using k19
  clear k16 k17 k20 k1 k18 k19
  have ha := h.ha
  have hp := h.hp
  have hq := h.hq
  have b0 := (((Below.refl w.heap.size w).alloc (Nat.le_refl _) (.cells #[I K, I A, I B, I C, .string s, .string t] 31)).alloc (by simp) (.cells #[I E, I N, I M, S (T)] 40)).alloc (by simp; omega) (.cells #[I a, I p, I q] 36)
  have BO : Blk (((w.alloc (.cells #[I K, I A, I B, I C, .string s, .string t] 31)).alloc (.cells #[I E, I N, I M, S (T)] 40)).alloc (.cells #[I a, I p, I q] 36)) w.heap.size #[I K, I A, I B, I C, .string s, .string t] 31 := ((Blk.new rfl).old _).old _
  have BA : Blk (((w.alloc (.cells #[I K, I A, I B, I C, .string s, .string t] 31)).alloc (.cells #[I E, I N, I M, S (T)] 40)).alloc (.cells #[I a, I p, I q] 36)) (w.heap.size + 1) #[I E, I N, I M, S (T)] 40 := (Blk.new (by simp)).old _
  have BW : Blk (((w.alloc (.cells #[I K, I A, I B, I C, .string s, .string t] 31)).alloc (.cells #[I E, I N, I M, S (T)] 40)).alloc (.cells #[I a, I p, I q] 36)) (w.heap.size + 2) #[I a, I p, I q] 36 := Blk.new (by simp)
  have hN := nums_any _ b u n0 n1 n2 (h.later b0)
  go_enter Try.func21, Try.ntmps21
  go_wp2_with fail
  generalize (((w.alloc (.cells #[I K, I A, I B, I C, .string s, .string t] 31)).alloc (.cells #[I E, I N, I M, S (T)] 40)).alloc (.cells #[I a, I p, I q] 36)) = v0 at *
  refine hN.mono ?_
  rintro e w1 ⟨rfl, b1⟩
  have aN := (Below.refl w1.heap.size w1).alloc (Nat.le_refl _) (.cells #[I n0, I n1, I n2] 36)
  have BO1 := (BO.below b1 BO.lt).old (.cells #[I n0, I n1, I n2] 36)
  have BA1 := (BA.below b1 BA.lt).old (.cells #[I n0, I n1, I n2] 36)
  have BW1 := (BW.below b1 BW.lt).old (.cells #[I n0, I n1, I n2] 36)
  have BN1 : Blk (w1.alloc (.cells #[I n0, I n1, I n2] 36)) w1.heap.size #[I n0, I n1, I n2] 36 := Blk.new rfl
  have bb1 := (b0.trans (b1.mono b0.size)).trans (aN.mono (by have := b0.size; have := b1.size; omega))
  clear b0 BO BA BW hN b1 aN h
  obtain ⟨o0, o1, o2⟩ := BO1.facts
  obtain ⟨x0, x1, x2⟩ := BA1.facts
  go_wp2
  generalize w1.alloc (.cells #[I n0, I n1, I n2] 36) = v1 at *
  generalize w1.heap.size = NB at *
  generalize w.heap.size + 2 = WB at *
  generalize w.heap.size + 1 = AB at *
  clear o0 o1 o2 x0 x1 x2
  have BN2 := BN1
  have BW2 := BW1
  have bb2 := bb1
  go_loopw [19] (fun r wr => ∃ k : Nat, k ≤ 3 ∧ r = I k ∧ Blk wr NB #[I n0, I n1, I n2] 36 ∧ Blk wr WB #[I a, I p, I q] 36 ∧ Below w.heap.size w wr) (fun r _ => (3 - intOf r).toNat)
  case atStart => exact ⟨0, by omega, rfl, BN2, BW2, bb2⟩
  case round =>
    clear BN2 BW2 bb2
    obtain ⟨k, hk, rfl, BN, BW, br⟩ := hrel
    have hkk : k = 0 ∨ k = 1 ∨ k = 2 ∨ k = 3 := by omega
    clear hk
    rcases hkk with rfl | rfl | rfl | rfl
    · have hE := ends_any 0 wr
      rw [show loR 0 = (-128) from rfl, show hiR 0 = 127 from rfl] at hE
      have m0 : wr.cell? ⟨NB, 0, none⟩ = some (I n0) := BN.cell 0
      have m1 : wr.cell? ⟨WB, 0, none⟩ = some (I a) := BW.cell 0
      have g1 : ¬ n0 < (-128) := by omega
      have g2 : ¬ 127 < n0 := by omega
      have hg : ((0 : Int) != -1) = true := by decide
      all_goals
        have hnw : (n0 != a) = false := by
          rcases e0 with e | e
          · rw [← e] at hg; simp at hg
          · rw [e]; simp
        go_wp2_with fail
        refine hE.mono ?_
        rintro e w3 ⟨rfl, rfl⟩
        go_wp2_with fail
        go_region
        go_wp2
        go_roundw
        case rel => exact ⟨1, by omega, rfl, BN, BW, br.drew⟩
        case measure => simp [intOf]
    · have hE := ends_any 1 wr
      rw [show loR 1 = (-32768) from rfl, show hiR 1 = 32767 from rfl] at hE
      have m0 : wr.cell? ⟨NB, 1, none⟩ = some (I n1) := BN.cell 1
      have m1 : wr.cell? ⟨WB, 1, none⟩ = some (I p) := BW.cell 1
      have g1 : ¬ n1 < (-32768) := by omega
      have g2 : ¬ 32767 < n1 := by omega
      have hg : ((1 : Int) != -1) = true := by decide
      all_goals
        have hnw : (n1 != p) = false := by
          rcases e1 with e | e
          · rw [← e] at hg; simp at hg
          · rw [e]; simp
        go_wp2_with fail
        refine hE.mono ?_
        rintro e w3 ⟨rfl, rfl⟩
        go_wp2_with fail
        go_region
        go_wp2
        go_roundw
        case rel => exact ⟨2, by omega, rfl, BN, BW, br.drew⟩
        case measure => simp [intOf]
    · have hE := ends_any 2 wr
      rw [show loR 2 = 0 from rfl, show hiR 2 = 65535 from rfl] at hE
      have m0 : wr.cell? ⟨NB, 2, none⟩ = some (I n2) := BN.cell 2
      have m1 : wr.cell? ⟨WB, 2, none⟩ = some (I q) := BW.cell 2
      have g1 : ¬ n2 < 0 := by omega
      have g2 : ¬ 65535 < n2 := by omega
      have hg : ((2 : Int) != -1) = true := by decide
      all_goals
        have hnw : (n2 != q) = false := by
          rcases e2 with e | e
          · rw [← e] at hg; simp at hg
          · rw [e]; simp
        go_wp2_with fail
        refine hE.mono ?_
        rintro e w3 ⟨rfl, rfl⟩
        go_wp2_with fail
        go_region
        go_wp2
        go_roundw
        case rel => exact ⟨3, by omega, rfl, BN, BW, br.drew⟩
        case measure => simp [intOf]
    · go_wp2
      go_ret
      exact ⟨rfl, br⟩
set_option maxRecDepth 100000 in
set_option maxHeartbeats 8000000 in
theorem kn_20 (w : World) (b u : Nat) (h : BdR w b u 0 0 0) (A B C : Int) (s t : ByteArray) (E N M : Int) (T : List UInt8) (a p q : Int) :
    Calls Try.prog 21 #[ptr b, OpV 20 A B C s t, AnsV E N M (T), .agg #[I a, I p, I q]] w fun e w' => e = .returned (.bool true) ∧ Below w.heap.size w w' := by
  have ha := h.ha
  have hp := h.hp
  have hq := h.hq
  have b0 := (((Below.refl w.heap.size w).alloc (Nat.le_refl _) (.cells #[I 20, I A, I B, I C, .string s, .string t] 31)).alloc (by simp) (.cells #[I E, I N, I M, S (T)] 40)).alloc (by simp; omega) (.cells #[I a, I p, I q] 36)
  have BO : Blk (((w.alloc (.cells #[I 20, I A, I B, I C, .string s, .string t] 31)).alloc (.cells #[I E, I N, I M, S (T)] 40)).alloc (.cells #[I a, I p, I q] 36)) w.heap.size #[I 20, I A, I B, I C, .string s, .string t] 31 := ((Blk.new rfl).old _).old _
  have BA : Blk (((w.alloc (.cells #[I 20, I A, I B, I C, .string s, .string t] 31)).alloc (.cells #[I E, I N, I M, S (T)] 40)).alloc (.cells #[I a, I p, I q] 36)) (w.heap.size + 1) #[I E, I N, I M, S (T)] 40 := (Blk.new (by simp)).old _
  have BW : Blk (((w.alloc (.cells #[I 20, I A, I B, I C, .string s, .string t] 31)).alloc (.cells #[I E, I N, I M, S (T)] 40)).alloc (.cells #[I a, I p, I q] 36)) (w.heap.size + 2) #[I a, I p, I q] 36 := Blk.new (by simp)
  have hN := nums_any _ b u 0 0 0 (h.later b0)
  go_enter Try.func21, Try.ntmps21
  go_wp2_with fail
  generalize (((w.alloc (.cells #[I 20, I A, I B, I C, .string s, .string t] 31)).alloc (.cells #[I E, I N, I M, S (T)] 40)).alloc (.cells #[I a, I p, I q] 36)) = v0 at *
  refine hN.mono ?_
  rintro e w1 ⟨rfl, b1⟩
  have aN := (Below.refl w1.heap.size w1).alloc (Nat.le_refl _) (.cells #[I 0, I 0, I 0] 36)
  have BO1 := (BO.below b1 BO.lt).old (.cells #[I 0, I 0, I 0] 36)
  have BA1 := (BA.below b1 BA.lt).old (.cells #[I 0, I 0, I 0] 36)
  have BW1 := (BW.below b1 BW.lt).old (.cells #[I 0, I 0, I 0] 36)
  have BN1 : Blk (w1.alloc (.cells #[I 0, I 0, I 0] 36)) w1.heap.size #[I 0, I 0, I 0] 36 := Blk.new rfl
  have bb1 := (b0.trans (b1.mono b0.size)).trans (aN.mono (by have := b0.size; have := b1.size; omega))
  clear b0 BO BA BW hN b1 aN h
  obtain ⟨o0, o1, o2⟩ := BO1.facts
  obtain ⟨x0, x1, x2⟩ := BA1.facts
  have hEq := fun W => arr_eql W 0 0 0
  have hGu := arr_guard
  go_wp2
  go_ret
  exact ⟨rfl, bb1⟩
set_option maxRecDepth 100000 in
set_option maxHeartbeats 8000000 in
theorem kn_1 (w : World) (b u : Nat) (h : BdR w b u 0 0 0) (A B C : Int) (s t : ByteArray) (E N M : Int) (T : List UInt8) (a p q : Int) :
    Calls Try.prog 21 #[ptr b, OpV 1 A B C s t, AnsV E N M (T), .agg #[I a, I p, I q]] w fun e w' => e = .returned (.bool true) ∧ Below w.heap.size w w' := by
  have ha := h.ha
  have hp := h.hp
  have hq := h.hq
  have b0 := (((Below.refl w.heap.size w).alloc (Nat.le_refl _) (.cells #[I 1, I A, I B, I C, .string s, .string t] 31)).alloc (by simp) (.cells #[I E, I N, I M, S (T)] 40)).alloc (by simp; omega) (.cells #[I a, I p, I q] 36)
  have BO : Blk (((w.alloc (.cells #[I 1, I A, I B, I C, .string s, .string t] 31)).alloc (.cells #[I E, I N, I M, S (T)] 40)).alloc (.cells #[I a, I p, I q] 36)) w.heap.size #[I 1, I A, I B, I C, .string s, .string t] 31 := ((Blk.new rfl).old _).old _
  have BA : Blk (((w.alloc (.cells #[I 1, I A, I B, I C, .string s, .string t] 31)).alloc (.cells #[I E, I N, I M, S (T)] 40)).alloc (.cells #[I a, I p, I q] 36)) (w.heap.size + 1) #[I E, I N, I M, S (T)] 40 := (Blk.new (by simp)).old _
  have BW : Blk (((w.alloc (.cells #[I 1, I A, I B, I C, .string s, .string t] 31)).alloc (.cells #[I E, I N, I M, S (T)] 40)).alloc (.cells #[I a, I p, I q] 36)) (w.heap.size + 2) #[I a, I p, I q] 36 := Blk.new (by simp)
  have hN := nums_any _ b u 0 0 0 (h.later b0)
  go_enter Try.func21, Try.ntmps21
  go_wp2_with fail
  generalize (((w.alloc (.cells #[I 1, I A, I B, I C, .string s, .string t] 31)).alloc (.cells #[I E, I N, I M, S (T)] 40)).alloc (.cells #[I a, I p, I q] 36)) = v0 at *
  refine hN.mono ?_
  rintro e w1 ⟨rfl, b1⟩
  have aN := (Below.refl w1.heap.size w1).alloc (Nat.le_refl _) (.cells #[I 0, I 0, I 0] 36)
  have BO1 := (BO.below b1 BO.lt).old (.cells #[I 0, I 0, I 0] 36)
  have BA1 := (BA.below b1 BA.lt).old (.cells #[I 0, I 0, I 0] 36)
  have BW1 := (BW.below b1 BW.lt).old (.cells #[I 0, I 0, I 0] 36)
  have BN1 : Blk (w1.alloc (.cells #[I 0, I 0, I 0] 36)) w1.heap.size #[I 0, I 0, I 0] 36 := Blk.new rfl
  have bb1 := (b0.trans (b1.mono b0.size)).trans (aN.mono (by have := b0.size; have := b1.size; omega))
  clear b0 BO BA BW hN b1 aN h
  obtain ⟨o0, o1, o2⟩ := BO1.facts
  obtain ⟨x0, x1, x2⟩ := BA1.facts
  have hEq := fun W => arr_eql W 0 0 0
  have hGu := arr_guard
  go_wp2
  go_ret
  exact ⟨rfl, bb1⟩
set_option maxRecDepth 100000 in
set_option maxHeartbeats 8000000 in
theorem kn_18 (w : World) (b u : Nat) (n0 n1 n2 : Int) (h : BdR w b u n0 n1 n2) (A B C : Int) (s t : ByteArray) (E N M : Int) (T : List UInt8) (a p q : Int) (hN : Hid (N = sgnI (regAt A n0 n1 n2))) (e0 : (0 : Int) = -1 ∨ n0 = a) (e1 : (1 : Int) = -1 ∨ n1 = p) (e2 : (2 : Int) = -1 ∨ n2 = q) :
    Calls Try.prog 21 #[ptr b, OpV 18 A B C s t, AnsV E N M (T), .agg #[I a, I p, I q]] w fun e w' => e = .returned (.bool true) ∧ Below w.heap.size w w' := by
  by_cases hA : 0 ≤ A ∧ A < 3
  · obtain ⟨r, rfl⟩ := Int.eq_ofNat_of_zero_le hA.1
    have hr3 : (r : Int) < 3 := hA.2
    have hr0 : (0 : Int) ≤ (r : Int) := hA.1
    have hx : (#[I n0, I n1, I n2] : Array Value)[r]? = some (I (regAt (r : Int) n0 n1 n2)) := by
      have : r = 0 ∨ r = 1 ∨ r = 2 := by omega
      rcases this with rfl | rfl | rfl <;> rfl
    have hN' := hN.out
    generalize regAt (r : Int) n0 n1 n2 = x at *
    subst hN'
    have hS := sgn_any x
    generalize sgnI x = sg at *
    clear hN
    have ha := h.ha
    have hp := h.hp
    have hq := h.hq
    have b0 := (((Below.refl w.heap.size w).alloc (Nat.le_refl _) (.cells #[I 18, I (r : Int), I B, I C, .string s, .string t] 31)).alloc (by simp) (.cells #[I E, I sg, I M, S (T)] 40)).alloc (by simp; omega) (.cells #[I a, I p, I q] 36)
    have BO : Blk (((w.alloc (.cells #[I 18, I (r : Int), I B, I C, .string s, .string t] 31)).alloc (.cells #[I E, I sg, I M, S (T)] 40)).alloc (.cells #[I a, I p, I q] 36)) w.heap.size #[I 18, I (r : Int), I B, I C, .string s, .string t] 31 := ((Blk.new rfl).old _).old _
    have BA : Blk (((w.alloc (.cells #[I 18, I (r : Int), I B, I C, .string s, .string t] 31)).alloc (.cells #[I E, I sg, I M, S (T)] 40)).alloc (.cells #[I a, I p, I q] 36)) (w.heap.size + 1) #[I E, I sg, I M, S (T)] 40 := (Blk.new (by simp)).old _
    have BW : Blk (((w.alloc (.cells #[I 18, I (r : Int), I B, I C, .string s, .string t] 31)).alloc (.cells #[I E, I sg, I M, S (T)] 40)).alloc (.cells #[I a, I p, I q] 36)) (w.heap.size + 2) #[I a, I p, I q] 36 := Blk.new (by simp)
    have hN := nums_any _ b u n0 n1 n2 (h.later b0)
    go_enter Try.func21, Try.ntmps21
    go_wp2_with fail
    generalize (((w.alloc (.cells #[I 18, I (r : Int), I B, I C, .string s, .string t] 31)).alloc (.cells #[I E, I sg, I M, S (T)] 40)).alloc (.cells #[I a, I p, I q] 36)) = v0 at *
    refine hN.mono ?_
    rintro e w1 ⟨rfl, b1⟩
    have aN := (Below.refl w1.heap.size w1).alloc (Nat.le_refl _) (.cells #[I n0, I n1, I n2] 36)
    have BO1 := (BO.below b1 BO.lt).old (.cells #[I n0, I n1, I n2] 36)
    have BA1 := (BA.below b1 BA.lt).old (.cells #[I n0, I n1, I n2] 36)
    have BW1 := (BW.below b1 BW.lt).old (.cells #[I n0, I n1, I n2] 36)
    have BN1 : Blk (w1.alloc (.cells #[I n0, I n1, I n2] 36)) w1.heap.size #[I n0, I n1, I n2] 36 := Blk.new rfl
    have bb1 := (b0.trans (b1.mono b0.size)).trans (aN.mono (by have := b0.size; have := b1.size; omega))
    clear b0 BO BA BW hN b1 aN h
    obtain ⟨o0, o1, o2⟩ := BO1.facts
    obtain ⟨x0, x1, x2⟩ := BA1.facts
    have m0 : (w1.alloc (.cells #[I n0, I n1, I n2] 36)).cell? ⟨w1.heap.size, r, none⟩ = some (I x) := (BN1.cell r).trans hx
    go_wp2_with fail
    refine (hS _).mono ?_
    rintro e w3 ⟨rfl, rfl⟩
    generalize hv1 : w1.alloc (.cells #[I n0, I n1, I n2] 36) = v1 at *
    generalize w1.heap.size = NB at *
    generalize w.heap.size + 2 = WB at *
    generalize w.heap.size + 1 = AB at *
    go_wp2
    clear o0 o1 o2 x0 x1 x2 m0
    have BN2 := BN1
    have BW2 := BW1
    have bb2 := bb1
    go_loopw [19] (fun r wr => ∃ k : Nat, k ≤ 3 ∧ r = I k ∧ Blk wr NB #[I n0, I n1, I n2] 36 ∧ Blk wr WB #[I a, I p, I q] 36 ∧ Below w.heap.size w wr) (fun r _ => (3 - intOf r).toNat)
    case atStart => exact ⟨0, by omega, rfl, BN2, BW2, bb2⟩
    case round =>
      clear BN2 BW2 bb2
      obtain ⟨k, hk, rfl, BN, BW, br⟩ := hrel
      have hkk : k = 0 ∨ k = 1 ∨ k = 2 ∨ k = 3 := by omega
      clear hk
      rcases hkk with rfl | rfl | rfl | rfl
      · have hE := ends_any 0 wr
        rw [show loR 0 = (-128) from rfl, show hiR 0 = 127 from rfl] at hE
        have m0 : wr.cell? ⟨NB, 0, none⟩ = some (I n0) := BN.cell 0
        have m1 : wr.cell? ⟨WB, 0, none⟩ = some (I a) := BW.cell 0
        have g1 : ¬ n0 < (-128) := by omega
        have g2 : ¬ 127 < n0 := by omega
        have hg : ((0 : Int) != -1) = true := by decide
        all_goals
          have hnw : (n0 != a) = false := by
            rcases e0 with e | e
            · rw [← e] at hg; simp at hg
            · rw [e]; simp
          go_wp2_with fail
          refine hE.mono ?_
          rintro e w3 ⟨rfl, rfl⟩
          go_wp2_with fail
          go_region
          go_wp2
          go_roundw
          case rel => exact ⟨1, by omega, rfl, BN, BW, br.drew⟩
          case measure => simp [intOf]
      · have hE := ends_any 1 wr
        rw [show loR 1 = (-32768) from rfl, show hiR 1 = 32767 from rfl] at hE
        have m0 : wr.cell? ⟨NB, 1, none⟩ = some (I n1) := BN.cell 1
        have m1 : wr.cell? ⟨WB, 1, none⟩ = some (I p) := BW.cell 1
        have g1 : ¬ n1 < (-32768) := by omega
        have g2 : ¬ 32767 < n1 := by omega
        have hg : ((1 : Int) != -1) = true := by decide
        all_goals
          have hnw : (n1 != p) = false := by
            rcases e1 with e | e
            · rw [← e] at hg; simp at hg
            · rw [e]; simp
          go_wp2_with fail
          refine hE.mono ?_
          rintro e w3 ⟨rfl, rfl⟩
          go_wp2_with fail
          go_region
          go_wp2
          go_roundw
          case rel => exact ⟨2, by omega, rfl, BN, BW, br.drew⟩
          case measure => simp [intOf]
      · have hE := ends_any 2 wr
        rw [show loR 2 = 0 from rfl, show hiR 2 = 65535 from rfl] at hE
        have m0 : wr.cell? ⟨NB, 2, none⟩ = some (I n2) := BN.cell 2
        have m1 : wr.cell? ⟨WB, 2, none⟩ = some (I q) := BW.cell 2
        have g1 : ¬ n2 < 0 := by omega
        have g2 : ¬ 65535 < n2 := by omega
        have hg : ((2 : Int) != -1) = true := by decide
        all_goals
          have hnw : (n2 != q) = false := by
            rcases e2 with e | e
            · rw [← e] at hg; simp at hg
            · rw [e]; simp
          go_wp2_with fail
          refine hE.mono ?_
          rintro e w3 ⟨rfl, rfl⟩
          go_wp2_with fail
          go_region
          go_wp2
          go_roundw
          case rel => exact ⟨3, by omega, rfl, BN, BW, br.drew⟩
          case measure => simp [intOf]
      · go_wp2
        go_ret
        exact ⟨rfl, br⟩
  · have hN' : N = 0 := by
      rw [hN.out]
      unfold regAt
      rw [if_neg (by omega), if_neg (by omega), if_neg (by omega)]
      rfl
    subst hN'
    clear hN
    by_cases hA0 : 0 ≤ A
    · have hA3 : ¬ A < 3 := by omega
      clear hA
      have ha := h.ha
      have hp := h.hp
      have hq := h.hq
      have b0 := (((Below.refl w.heap.size w).alloc (Nat.le_refl _) (.cells #[I 18, I A, I B, I C, .string s, .string t] 31)).alloc (by simp) (.cells #[I E, I 0, I M, S (T)] 40)).alloc (by simp; omega) (.cells #[I a, I p, I q] 36)
      have BO : Blk (((w.alloc (.cells #[I 18, I A, I B, I C, .string s, .string t] 31)).alloc (.cells #[I E, I 0, I M, S (T)] 40)).alloc (.cells #[I a, I p, I q] 36)) w.heap.size #[I 18, I A, I B, I C, .string s, .string t] 31 := ((Blk.new rfl).old _).old _
      have BA : Blk (((w.alloc (.cells #[I 18, I A, I B, I C, .string s, .string t] 31)).alloc (.cells #[I E, I 0, I M, S (T)] 40)).alloc (.cells #[I a, I p, I q] 36)) (w.heap.size + 1) #[I E, I 0, I M, S (T)] 40 := (Blk.new (by simp)).old _
      have BW : Blk (((w.alloc (.cells #[I 18, I A, I B, I C, .string s, .string t] 31)).alloc (.cells #[I E, I 0, I M, S (T)] 40)).alloc (.cells #[I a, I p, I q] 36)) (w.heap.size + 2) #[I a, I p, I q] 36 := Blk.new (by simp)
      have hN := nums_any _ b u n0 n1 n2 (h.later b0)
      go_enter Try.func21, Try.ntmps21
      go_wp2_with fail
      generalize (((w.alloc (.cells #[I 18, I A, I B, I C, .string s, .string t] 31)).alloc (.cells #[I E, I 0, I M, S (T)] 40)).alloc (.cells #[I a, I p, I q] 36)) = v0 at *
      refine hN.mono ?_
      rintro e w1 ⟨rfl, b1⟩
      have aN := (Below.refl w1.heap.size w1).alloc (Nat.le_refl _) (.cells #[I n0, I n1, I n2] 36)
      have BO1 := (BO.below b1 BO.lt).old (.cells #[I n0, I n1, I n2] 36)
      have BA1 := (BA.below b1 BA.lt).old (.cells #[I n0, I n1, I n2] 36)
      have BW1 := (BW.below b1 BW.lt).old (.cells #[I n0, I n1, I n2] 36)
      have BN1 : Blk (w1.alloc (.cells #[I n0, I n1, I n2] 36)) w1.heap.size #[I n0, I n1, I n2] 36 := Blk.new rfl
      have bb1 := (b0.trans (b1.mono b0.size)).trans (aN.mono (by have := b0.size; have := b1.size; omega))
      clear b0 BO BA BW hN b1 aN h
      obtain ⟨o0, o1, o2⟩ := BO1.facts
      obtain ⟨x0, x1, x2⟩ := BA1.facts
      go_wp2
      generalize w1.alloc (.cells #[I n0, I n1, I n2] 36) = v1 at *
      generalize w1.heap.size = NB at *
      generalize w.heap.size + 2 = WB at *
      generalize w.heap.size + 1 = AB at *
      clear o0 o1 o2 x0 x1 x2
      have BN2 := BN1
      have BW2 := BW1
      have bb2 := bb1
      go_loopw [19] (fun r wr => ∃ k : Nat, k ≤ 3 ∧ r = I k ∧ Blk wr NB #[I n0, I n1, I n2] 36 ∧ Blk wr WB #[I a, I p, I q] 36 ∧ Below w.heap.size w wr) (fun r _ => (3 - intOf r).toNat)
      case atStart => exact ⟨0, by omega, rfl, BN2, BW2, bb2⟩
      case round =>
        clear BN2 BW2 bb2
        obtain ⟨k, hk, rfl, BN, BW, br⟩ := hrel
        have hkk : k = 0 ∨ k = 1 ∨ k = 2 ∨ k = 3 := by omega
        clear hk
        rcases hkk with rfl | rfl | rfl | rfl
        · have hE := ends_any 0 wr
          rw [show loR 0 = (-128) from rfl, show hiR 0 = 127 from rfl] at hE
          have m0 : wr.cell? ⟨NB, 0, none⟩ = some (I n0) := BN.cell 0
          have m1 : wr.cell? ⟨WB, 0, none⟩ = some (I a) := BW.cell 0
          have g1 : ¬ n0 < (-128) := by omega
          have g2 : ¬ 127 < n0 := by omega
          have hg : ((0 : Int) != -1) = true := by decide
          all_goals
            have hnw : (n0 != a) = false := by
              rcases e0 with e | e
              · rw [← e] at hg; simp at hg
              · rw [e]; simp
            go_wp2_with fail
            refine hE.mono ?_
            rintro e w3 ⟨rfl, rfl⟩
            go_wp2_with fail
            go_region
            go_wp2
            go_roundw
            case rel => exact ⟨1, by omega, rfl, BN, BW, br.drew⟩
            case measure => simp [intOf]
        · have hE := ends_any 1 wr
          rw [show loR 1 = (-32768) from rfl, show hiR 1 = 32767 from rfl] at hE
          have m0 : wr.cell? ⟨NB, 1, none⟩ = some (I n1) := BN.cell 1
          have m1 : wr.cell? ⟨WB, 1, none⟩ = some (I p) := BW.cell 1
          have g1 : ¬ n1 < (-32768) := by omega
          have g2 : ¬ 32767 < n1 := by omega
          have hg : ((1 : Int) != -1) = true := by decide
          all_goals
            have hnw : (n1 != p) = false := by
              rcases e1 with e | e
              · rw [← e] at hg; simp at hg
              · rw [e]; simp
            go_wp2_with fail
            refine hE.mono ?_
            rintro e w3 ⟨rfl, rfl⟩
            go_wp2_with fail
            go_region
            go_wp2
            go_roundw
            case rel => exact ⟨2, by omega, rfl, BN, BW, br.drew⟩
            case measure => simp [intOf]
        · have hE := ends_any 2 wr
          rw [show loR 2 = 0 from rfl, show hiR 2 = 65535 from rfl] at hE
          have m0 : wr.cell? ⟨NB, 2, none⟩ = some (I n2) := BN.cell 2
          have m1 : wr.cell? ⟨WB, 2, none⟩ = some (I q) := BW.cell 2
          have g1 : ¬ n2 < 0 := by omega
          have g2 : ¬ 65535 < n2 := by omega
          have hg : ((2 : Int) != -1) = true := by decide
          all_goals
            have hnw : (n2 != q) = false := by
              rcases e2 with e | e
              · rw [← e] at hg; simp at hg
              · rw [e]; simp
            go_wp2_with fail
            refine hE.mono ?_
            rintro e w3 ⟨rfl, rfl⟩
            go_wp2_with fail
            go_region
            go_wp2
            go_roundw
            case rel => exact ⟨3, by omega, rfl, BN, BW, br.drew⟩
            case measure => simp [intOf]
        · go_wp2
          go_ret
          exact ⟨rfl, br⟩
    · clear hA
      have ha := h.ha
      have hp := h.hp
      have hq := h.hq
      have b0 := (((Below.refl w.heap.size w).alloc (Nat.le_refl _) (.cells #[I 18, I A, I B, I C, .string s, .string t] 31)).alloc (by simp) (.cells #[I E, I 0, I M, S (T)] 40)).alloc (by simp; omega) (.cells #[I a, I p, I q] 36)
      have BO : Blk (((w.alloc (.cells #[I 18, I A, I B, I C, .string s, .string t] 31)).alloc (.cells #[I E, I 0, I M, S (T)] 40)).alloc (.cells #[I a, I p, I q] 36)) w.heap.size #[I 18, I A, I B, I C, .string s, .string t] 31 := ((Blk.new rfl).old _).old _
      have BA : Blk (((w.alloc (.cells #[I 18, I A, I B, I C, .string s, .string t] 31)).alloc (.cells #[I E, I 0, I M, S (T)] 40)).alloc (.cells #[I a, I p, I q] 36)) (w.heap.size + 1) #[I E, I 0, I M, S (T)] 40 := (Blk.new (by simp)).old _
      have BW : Blk (((w.alloc (.cells #[I 18, I A, I B, I C, .string s, .string t] 31)).alloc (.cells #[I E, I 0, I M, S (T)] 40)).alloc (.cells #[I a, I p, I q] 36)) (w.heap.size + 2) #[I a, I p, I q] 36 := Blk.new (by simp)
      have hN := nums_any _ b u n0 n1 n2 (h.later b0)
      go_enter Try.func21, Try.ntmps21
      go_wp2_with fail
      generalize (((w.alloc (.cells #[I 18, I A, I B, I C, .string s, .string t] 31)).alloc (.cells #[I E, I 0, I M, S (T)] 40)).alloc (.cells #[I a, I p, I q] 36)) = v0 at *
      refine hN.mono ?_
      rintro e w1 ⟨rfl, b1⟩
      have aN := (Below.refl w1.heap.size w1).alloc (Nat.le_refl _) (.cells #[I n0, I n1, I n2] 36)
      have BO1 := (BO.below b1 BO.lt).old (.cells #[I n0, I n1, I n2] 36)
      have BA1 := (BA.below b1 BA.lt).old (.cells #[I n0, I n1, I n2] 36)
      have BW1 := (BW.below b1 BW.lt).old (.cells #[I n0, I n1, I n2] 36)
      have BN1 : Blk (w1.alloc (.cells #[I n0, I n1, I n2] 36)) w1.heap.size #[I n0, I n1, I n2] 36 := Blk.new rfl
      have bb1 := (b0.trans (b1.mono b0.size)).trans (aN.mono (by have := b0.size; have := b1.size; omega))
      clear b0 BO BA BW hN b1 aN h
      obtain ⟨o0, o1, o2⟩ := BO1.facts
      obtain ⟨x0, x1, x2⟩ := BA1.facts
      go_wp2
      generalize w1.alloc (.cells #[I n0, I n1, I n2] 36) = v1 at *
      generalize w1.heap.size = NB at *
      generalize w.heap.size + 2 = WB at *
      generalize w.heap.size + 1 = AB at *
      clear o0 o1 o2 x0 x1 x2
      have BN2 := BN1
      have BW2 := BW1
      have bb2 := bb1
      go_loopw [19] (fun r wr => ∃ k : Nat, k ≤ 3 ∧ r = I k ∧ Blk wr NB #[I n0, I n1, I n2] 36 ∧ Blk wr WB #[I a, I p, I q] 36 ∧ Below w.heap.size w wr) (fun r _ => (3 - intOf r).toNat)
      case atStart => exact ⟨0, by omega, rfl, BN2, BW2, bb2⟩
      case round =>
        clear BN2 BW2 bb2
        obtain ⟨k, hk, rfl, BN, BW, br⟩ := hrel
        have hkk : k = 0 ∨ k = 1 ∨ k = 2 ∨ k = 3 := by omega
        clear hk
        rcases hkk with rfl | rfl | rfl | rfl
        · have hE := ends_any 0 wr
          rw [show loR 0 = (-128) from rfl, show hiR 0 = 127 from rfl] at hE
          have m0 : wr.cell? ⟨NB, 0, none⟩ = some (I n0) := BN.cell 0
          have m1 : wr.cell? ⟨WB, 0, none⟩ = some (I a) := BW.cell 0
          have g1 : ¬ n0 < (-128) := by omega
          have g2 : ¬ 127 < n0 := by omega
          have hg : ((0 : Int) != -1) = true := by decide
          all_goals
            have hnw : (n0 != a) = false := by
              rcases e0 with e | e
              · rw [← e] at hg; simp at hg
              · rw [e]; simp
            go_wp2_with fail
            refine hE.mono ?_
            rintro e w3 ⟨rfl, rfl⟩
            go_wp2_with fail
            go_region
            go_wp2
            go_roundw
            case rel => exact ⟨1, by omega, rfl, BN, BW, br.drew⟩
            case measure => simp [intOf]
        · have hE := ends_any 1 wr
          rw [show loR 1 = (-32768) from rfl, show hiR 1 = 32767 from rfl] at hE
          have m0 : wr.cell? ⟨NB, 1, none⟩ = some (I n1) := BN.cell 1
          have m1 : wr.cell? ⟨WB, 1, none⟩ = some (I p) := BW.cell 1
          have g1 : ¬ n1 < (-32768) := by omega
          have g2 : ¬ 32767 < n1 := by omega
          have hg : ((1 : Int) != -1) = true := by decide
          all_goals
            have hnw : (n1 != p) = false := by
              rcases e1 with e | e
              · rw [← e] at hg; simp at hg
              · rw [e]; simp
            go_wp2_with fail
            refine hE.mono ?_
            rintro e w3 ⟨rfl, rfl⟩
            go_wp2_with fail
            go_region
            go_wp2
            go_roundw
            case rel => exact ⟨2, by omega, rfl, BN, BW, br.drew⟩
            case measure => simp [intOf]
        · have hE := ends_any 2 wr
          rw [show loR 2 = 0 from rfl, show hiR 2 = 65535 from rfl] at hE
          have m0 : wr.cell? ⟨NB, 2, none⟩ = some (I n2) := BN.cell 2
          have m1 : wr.cell? ⟨WB, 2, none⟩ = some (I q) := BW.cell 2
          have g1 : ¬ n2 < 0 := by omega
          have g2 : ¬ 65535 < n2 := by omega
          have hg : ((2 : Int) != -1) = true := by decide
          all_goals
            have hnw : (n2 != q) = false := by
              rcases e2 with e | e
              · rw [← e] at hg; simp at hg
              · rw [e]; simp
            go_wp2_with fail
            refine hE.mono ?_
            rintro e w3 ⟨rfl, rfl⟩
            go_wp2_with fail
            go_region
            go_wp2
            go_roundw
            case rel => exact ⟨3, by omega, rfl, BN, BW, br.drew⟩
            case measure => simp [intOf]
        · go_wp2
          go_ret
          exact ⟨rfl, br⟩
end Go.Proofs.Qxb6500469a
