import Derived.Test.Qxb6500469aWk2
import Derived.Test.Qxb6500469aWk0
import Derived.Deep.RegionHeld3
import Derived.BigRegion
import Derived.Deep.QuietTactic
import Derived.BigQuiet
namespace Go.Proofs.Qxb6500469a
open Go.RowKit

set_option maxRecDepth 100000 in
set_option maxHeartbeats 8000000 in
theorem kn_17e0 (w : World) (b u : Nat)  (A B C : Int) (s t : ByteArray) (N M : Int) (T : List UInt8) (a p q : Int) (h : BdR w b u a p q) (c0 : A < 0) :
    Calls Try.prog 21 #[ptr b, OpV 17 A B C s t, AnsV 2 N M (T), .agg #[I a, I p, I q]] w fun e w' => e = .returned (.bool true) ∧ Below w.heap.size w w' := by
  have ha := h.ha
  have hp := h.hp
  have hq := h.hq
  have b0 := (((Below.refl w.heap.size w).alloc (Nat.le_refl _) (.cells #[I 17, I A, I B, I C, .string s, .string t] 31)).alloc (by simp) (.cells #[I 2, I N, I M, S (T)] 40)).alloc (by simp; omega) (.cells #[I a, I p, I q] 36)
  have BO : Blk (((w.alloc (.cells #[I 17, I A, I B, I C, .string s, .string t] 31)).alloc (.cells #[I 2, I N, I M, S (T)] 40)).alloc (.cells #[I a, I p, I q] 36)) w.heap.size #[I 17, I A, I B, I C, .string s, .string t] 31 := ((Blk.new rfl).old _).old _
  have BA : Blk (((w.alloc (.cells #[I 17, I A, I B, I C, .string s, .string t] 31)).alloc (.cells #[I 2, I N, I M, S (T)] 40)).alloc (.cells #[I a, I p, I q] 36)) (w.heap.size + 1) #[I 2, I N, I M, S (T)] 40 := (Blk.new (by simp)).old _
  have BW : Blk (((w.alloc (.cells #[I 17, I A, I B, I C, .string s, .string t] 31)).alloc (.cells #[I 2, I N, I M, S (T)] 40)).alloc (.cells #[I a, I p, I q] 36)) (w.heap.size + 2) #[I a, I p, I q] 36 := Blk.new (by simp)
  have hN := nums_any _ b u a p q (h.later b0)
  go_enter Try.func21, Try.ntmps21
  go_wp2_with fail
  generalize (((w.alloc (.cells #[I 17, I A, I B, I C, .string s, .string t] 31)).alloc (.cells #[I 2, I N, I M, S (T)] 40)).alloc (.cells #[I a, I p, I q] 36)) = v0 at *
  refine hN.mono ?_
  rintro e w1 ⟨rfl, b1⟩
  have aN := (Below.refl w1.heap.size w1).alloc (Nat.le_refl _) (.cells #[I a, I p, I q] 36)
  have BO1 := (BO.below b1 BO.lt).old (.cells #[I a, I p, I q] 36)
  have BA1 := (BA.below b1 BA.lt).old (.cells #[I a, I p, I q] 36)
  have BW1 := (BW.below b1 BW.lt).old (.cells #[I a, I p, I q] 36)
  have BN1 : Blk (w1.alloc (.cells #[I a, I p, I q] 36)) w1.heap.size #[I a, I p, I q] 36 := Blk.new rfl
  have bb1 := (b0.trans (b1.mono b0.size)).trans (aN.mono (by have := b0.size; have := b1.size; omega))
  clear b0 BO BA BW hN b1 aN h
  obtain ⟨o0, o1, o2⟩ := BO1.facts
  obtain ⟨x0, x1, x2⟩ := BA1.facts
  have hEq := fun W => arr_eql W a p q
  have hGu := arr_guard
  obtain ⟨y0, y1, y2⟩ := BW1.facts
  go_wp2
  go_ret
  exact ⟨rfl, bb1⟩
set_option maxRecDepth 100000 in
set_option maxHeartbeats 8000000 in
theorem kn_17e1 (w : World) (b u : Nat)  (A B C : Int) (s t : ByteArray) (N M : Int) (T : List UInt8) (a p q : Int) (h : BdR w b u a p q) (c0 : 3 ≤ A) (c1 : ¬ A < 0) :
    Calls Try.prog 21 #[ptr b, OpV 17 A B C s t, AnsV 2 N M (T), .agg #[I a, I p, I q]] w fun e w' => e = .returned (.bool true) ∧ Below w.heap.size w w' := by
  have ha := h.ha
  have hp := h.hp
  have hq := h.hq
  have b0 := (((Below.refl w.heap.size w).alloc (Nat.le_refl _) (.cells #[I 17, I A, I B, I C, .string s, .string t] 31)).alloc (by simp) (.cells #[I 2, I N, I M, S (T)] 40)).alloc (by simp; omega) (.cells #[I a, I p, I q] 36)
  have BO : Blk (((w.alloc (.cells #[I 17, I A, I B, I C, .string s, .string t] 31)).alloc (.cells #[I 2, I N, I M, S (T)] 40)).alloc (.cells #[I a, I p, I q] 36)) w.heap.size #[I 17, I A, I B, I C, .string s, .string t] 31 := ((Blk.new rfl).old _).old _
  have BA : Blk (((w.alloc (.cells #[I 17, I A, I B, I C, .string s, .string t] 31)).alloc (.cells #[I 2, I N, I M, S (T)] 40)).alloc (.cells #[I a, I p, I q] 36)) (w.heap.size + 1) #[I 2, I N, I M, S (T)] 40 := (Blk.new (by simp)).old _
  have BW : Blk (((w.alloc (.cells #[I 17, I A, I B, I C, .string s, .string t] 31)).alloc (.cells #[I 2, I N, I M, S (T)] 40)).alloc (.cells #[I a, I p, I q] 36)) (w.heap.size + 2) #[I a, I p, I q] 36 := Blk.new (by simp)
  have hN := nums_any _ b u a p q (h.later b0)
  go_enter Try.func21, Try.ntmps21
  go_wp2_with fail
  generalize (((w.alloc (.cells #[I 17, I A, I B, I C, .string s, .string t] 31)).alloc (.cells #[I 2, I N, I M, S (T)] 40)).alloc (.cells #[I a, I p, I q] 36)) = v0 at *
  refine hN.mono ?_
  rintro e w1 ⟨rfl, b1⟩
  have aN := (Below.refl w1.heap.size w1).alloc (Nat.le_refl _) (.cells #[I a, I p, I q] 36)
  have BO1 := (BO.below b1 BO.lt).old (.cells #[I a, I p, I q] 36)
  have BA1 := (BA.below b1 BA.lt).old (.cells #[I a, I p, I q] 36)
  have BW1 := (BW.below b1 BW.lt).old (.cells #[I a, I p, I q] 36)
  have BN1 : Blk (w1.alloc (.cells #[I a, I p, I q] 36)) w1.heap.size #[I a, I p, I q] 36 := Blk.new rfl
  have bb1 := (b0.trans (b1.mono b0.size)).trans (aN.mono (by have := b0.size; have := b1.size; omega))
  clear b0 BO BA BW hN b1 aN h
  obtain ⟨o0, o1, o2⟩ := BO1.facts
  obtain ⟨x0, x1, x2⟩ := BA1.facts
  have hEq := fun W => arr_eql W a p q
  have hGu := arr_guard
  obtain ⟨y0, y1, y2⟩ := BW1.facts
  go_wp2
  go_ret
  exact ⟨rfl, bb1⟩
set_option maxRecDepth 100000 in
set_option maxHeartbeats 8000000 in
theorem kn_17e2 (w : World) (b u : Nat)  (A B C : Int) (s t : ByteArray) (N M : Int) (T : List UInt8) (a p q : Int) (h : BdR w b u a p q) (c0 : B < 0) (c1 : ¬ A < 0) (c2 : ¬ 3 ≤ A) :
    Calls Try.prog 21 #[ptr b, OpV 17 A B C s t, AnsV 2 N M (T), .agg #[I a, I p, I q]] w fun e w' => e = .returned (.bool true) ∧ Below w.heap.size w w' := by
  have ha := h.ha
  have hp := h.hp
  have hq := h.hq
  have b0 := (((Below.refl w.heap.size w).alloc (Nat.le_refl _) (.cells #[I 17, I A, I B, I C, .string s, .string t] 31)).alloc (by simp) (.cells #[I 2, I N, I M, S (T)] 40)).alloc (by simp; omega) (.cells #[I a, I p, I q] 36)
  have BO : Blk (((w.alloc (.cells #[I 17, I A, I B, I C, .string s, .string t] 31)).alloc (.cells #[I 2, I N, I M, S (T)] 40)).alloc (.cells #[I a, I p, I q] 36)) w.heap.size #[I 17, I A, I B, I C, .string s, .string t] 31 := ((Blk.new rfl).old _).old _
  have BA : Blk (((w.alloc (.cells #[I 17, I A, I B, I C, .string s, .string t] 31)).alloc (.cells #[I 2, I N, I M, S (T)] 40)).alloc (.cells #[I a, I p, I q] 36)) (w.heap.size + 1) #[I 2, I N, I M, S (T)] 40 := (Blk.new (by simp)).old _
  have BW : Blk (((w.alloc (.cells #[I 17, I A, I B, I C, .string s, .string t] 31)).alloc (.cells #[I 2, I N, I M, S (T)] 40)).alloc (.cells #[I a, I p, I q] 36)) (w.heap.size + 2) #[I a, I p, I q] 36 := Blk.new (by simp)
  have hN := nums_any _ b u a p q (h.later b0)
  go_enter Try.func21, Try.ntmps21
  go_wp2_with fail
  generalize (((w.alloc (.cells #[I 17, I A, I B, I C, .string s, .string t] 31)).alloc (.cells #[I 2, I N, I M, S (T)] 40)).alloc (.cells #[I a, I p, I q] 36)) = v0 at *
  refine hN.mono ?_
  rintro e w1 ⟨rfl, b1⟩
  have aN := (Below.refl w1.heap.size w1).alloc (Nat.le_refl _) (.cells #[I a, I p, I q] 36)
  have BO1 := (BO.below b1 BO.lt).old (.cells #[I a, I p, I q] 36)
  have BA1 := (BA.below b1 BA.lt).old (.cells #[I a, I p, I q] 36)
  have BW1 := (BW.below b1 BW.lt).old (.cells #[I a, I p, I q] 36)
  have BN1 : Blk (w1.alloc (.cells #[I a, I p, I q] 36)) w1.heap.size #[I a, I p, I q] 36 := Blk.new rfl
  have bb1 := (b0.trans (b1.mono b0.size)).trans (aN.mono (by have := b0.size; have := b1.size; omega))
  clear b0 BO BA BW hN b1 aN h
  obtain ⟨o0, o1, o2⟩ := BO1.facts
  obtain ⟨x0, x1, x2⟩ := BA1.facts
  have hEq := fun W => arr_eql W a p q
  have hGu := arr_guard
  obtain ⟨y0, y1, y2⟩ := BW1.facts
  go_wp2
  go_ret
  exact ⟨rfl, bb1⟩
set_option maxRecDepth 100000 in
set_option maxHeartbeats 8000000 in
theorem kn_17e3 (w : World) (b u : Nat)  (A B C : Int) (s t : ByteArray) (N M : Int) (T : List UInt8) (a p q : Int) (h : BdR w b u a p q) (c0 : 3 ≤ B) (c1 : ¬ A < 0) (c2 : ¬ 3 ≤ A) (c3 : ¬ B < 0) :
    Calls Try.prog 21 #[ptr b, OpV 17 A B C s t, AnsV 2 N M (T), .agg #[I a, I p, I q]] w fun e w' => e = .returned (.bool true) ∧ Below w.heap.size w w' := by
  have ha := h.ha
  have hp := h.hp
  have hq := h.hq
  have b0 := (((Below.refl w.heap.size w).alloc (Nat.le_refl _) (.cells #[I 17, I A, I B, I C, .string s, .string t] 31)).alloc (by simp) (.cells #[I 2, I N, I M, S (T)] 40)).alloc (by simp; omega) (.cells #[I a, I p, I q] 36)
  have BO : Blk (((w.alloc (.cells #[I 17, I A, I B, I C, .string s, .string t] 31)).alloc (.cells #[I 2, I N, I M, S (T)] 40)).alloc (.cells #[I a, I p, I q] 36)) w.heap.size #[I 17, I A, I B, I C, .string s, .string t] 31 := ((Blk.new rfl).old _).old _
  have BA : Blk (((w.alloc (.cells #[I 17, I A, I B, I C, .string s, .string t] 31)).alloc (.cells #[I 2, I N, I M, S (T)] 40)).alloc (.cells #[I a, I p, I q] 36)) (w.heap.size + 1) #[I 2, I N, I M, S (T)] 40 := (Blk.new (by simp)).old _
  have BW : Blk (((w.alloc (.cells #[I 17, I A, I B, I C, .string s, .string t] 31)).alloc (.cells #[I 2, I N, I M, S (T)] 40)).alloc (.cells #[I a, I p, I q] 36)) (w.heap.size + 2) #[I a, I p, I q] 36 := Blk.new (by simp)
  have hN := nums_any _ b u a p q (h.later b0)
  go_enter Try.func21, Try.ntmps21
  go_wp2_with fail
  generalize (((w.alloc (.cells #[I 17, I A, I B, I C, .string s, .string t] 31)).alloc (.cells #[I 2, I N, I M, S (T)] 40)).alloc (.cells #[I a, I p, I q] 36)) = v0 at *
  refine hN.mono ?_
  rintro e w1 ⟨rfl, b1⟩
  have aN := (Below.refl w1.heap.size w1).alloc (Nat.le_refl _) (.cells #[I a, I p, I q] 36)
  have BO1 := (BO.below b1 BO.lt).old (.cells #[I a, I p, I q] 36)
  have BA1 := (BA.below b1 BA.lt).old (.cells #[I a, I p, I q] 36)
  have BW1 := (BW.below b1 BW.lt).old (.cells #[I a, I p, I q] 36)
  have BN1 : Blk (w1.alloc (.cells #[I a, I p, I q] 36)) w1.heap.size #[I a, I p, I q] 36 := Blk.new rfl
  have bb1 := (b0.trans (b1.mono b0.size)).trans (aN.mono (by have := b0.size; have := b1.size; omega))
  clear b0 BO BA BW hN b1 aN h
  obtain ⟨o0, o1, o2⟩ := BO1.facts
  obtain ⟨x0, x1, x2⟩ := BA1.facts
  have hEq := fun W => arr_eql W a p q
  have hGu := arr_guard
  obtain ⟨y0, y1, y2⟩ := BW1.facts
  go_wp2
  go_ret
  exact ⟨rfl, bb1⟩
set_option maxRecDepth 100000 in
set_option maxHeartbeats 8000000 in
theorem kn_17k (w : World) (b u : Nat) (n0 n1 n2 : Int) (h : BdR w b u n0 n1 n2) (C : Int) (s t : ByteArray) (N M : Int) (T : List UInt8) (a p q : Int) (ff tt : Nat) (hf3 : (ff : Int) < 3) (ht3 : (tt : Int) < 3) (lo hi x y SZ : Int) (e0 : (0 : Int) = (tt : Int) ∨ n0 = a) (e1 : (1 : Int) = (tt : Int) ∨ n1 = p) (e2 : (2 : Int) = (tt : Int) ∨ n2 = q) (hcw : (#[I a, I p, I q] : Array Value)[ff]? = some (I x)) (hcn : (#[I n0, I n1, I n2] : Array Value)[tt]? = some (I y)) (hS : hi - lo + 1 = SZ) (bl : -65536 ≤ lo ∧ lo ≤ 0) (bh : 0 < hi ∧ hi ≤ 65536) (bx : -65536 ≤ x ∧ x ≤ 65536) (by_ : -65536 ≤ y ∧ y ≤ 65536) (hm : (y - x).tmod SZ = 0) (hE : ∀ W, Calls Try.prog 50 #[I tt] W fun e w' => e = .returned (.tuple #[I lo, I hi]) ∧ w' = W) :
    Calls Try.prog 21 #[ptr b, OpV 17 ff tt C s t, AnsV 0 N M (T), .agg #[I a, I p, I q]] w fun e w' => e = .returned (.bool true) ∧ Below w.heap.size w w' := by
  have ha := h.ha
  have hp := h.hp
  have hq := h.hq
  have b0 := (((Below.refl w.heap.size w).alloc (Nat.le_refl _) (.cells #[I 17, I ff, I tt, I C, .string s, .string t] 31)).alloc (by simp) (.cells #[I 0, I N, I M, S (T)] 40)).alloc (by simp; omega) (.cells #[I a, I p, I q] 36)
  have BO : Blk (((w.alloc (.cells #[I 17, I ff, I tt, I C, .string s, .string t] 31)).alloc (.cells #[I 0, I N, I M, S (T)] 40)).alloc (.cells #[I a, I p, I q] 36)) w.heap.size #[I 17, I ff, I tt, I C, .string s, .string t] 31 := ((Blk.new rfl).old _).old _
  have BA : Blk (((w.alloc (.cells #[I 17, I ff, I tt, I C, .string s, .string t] 31)).alloc (.cells #[I 0, I N, I M, S (T)] 40)).alloc (.cells #[I a, I p, I q] 36)) (w.heap.size + 1) #[I 0, I N, I M, S (T)] 40 := (Blk.new (by simp)).old _
  have BW : Blk (((w.alloc (.cells #[I 17, I ff, I tt, I C, .string s, .string t] 31)).alloc (.cells #[I 0, I N, I M, S (T)] 40)).alloc (.cells #[I a, I p, I q] 36)) (w.heap.size + 2) #[I a, I p, I q] 36 := Blk.new (by simp)
  have hN := nums_any _ b u n0 n1 n2 (h.later b0)
  go_enter Try.func21, Try.ntmps21
  go_wp2_with fail
  generalize (((w.alloc (.cells #[I 17, I ff, I tt, I C, .string s, .string t] 31)).alloc (.cells #[I 0, I N, I M, S (T)] 40)).alloc (.cells #[I a, I p, I q] 36)) = v0 at *
  refine hN.mono ?_
  rintro e w1 ⟨rfl, b1⟩
  have aN := (Below.refl w1.heap.size w1).alloc (Nat.le_refl _) (.cells #[I n0, I n1, I n2] 36)
  have BO1 := (BO.below b1 BO.lt).old (.cells #[I n0, I n1, I n2] 36)
  have BA1 := (BA.below b1 BA.lt).old (.cells #[I n0, I n1, I n2] 36)
  have BW1 := (BW.below b1 BW.lt).old (.cells #[I n0, I n1, I n2] 36)
  have BN1 : Blk (w1.alloc (.cells #[I n0, I n1, I n2] 36)) w1.heap.size #[I n0, I n1, I n2] 36 := Blk.new rfl
  have bb1 := (b0.trans (b1.mono b0.size)).trans (aN.mono (by have := b0.size; have := b1.size; omega))
  clear b0 BO BA BW hN b1 aN h
  obtain ⟨o0, o1, o2⟩ := BO1.facts
  obtain ⟨x0, x1, x2⟩ := BA1.facts
  have f1 : ¬ (ff : Int) < 0 := by omega
  have f2 : ¬ (3 : Int) ≤ (ff : Int) := by omega
  have f3 : ¬ (tt : Int) < 0 := by omega
  have f4 : ¬ (3 : Int) ≤ (tt : Int) := by omega
  go_wp2_with fail
  refine (hE _).mono ?_
  rintro e w3 ⟨rfl, rfl⟩
  go_wp2_with fail
  generalize hv1 : w1.alloc (.cells #[I n0, I n1, I n2] 36) = v1 at *
  generalize w1.heap.size = NB at *
  generalize w.heap.size + 2 = WB at *
  generalize w.heap.size + 1 = AB at *
  have k0 : v1.cell? ⟨w.heap.size, 1, none⟩ = some (I ff) := BO1.cell 1
  have k1 : v1.cell? ⟨WB, ff, none⟩ = some (I x) := (BW1.cell ff).trans hcw
  have k2 : v1.cell? ⟨NB, tt, none⟩ = some (I y) := (BN1.cell tt).trans hcn
  have k3 : v1.cell? ⟨AB, 0, none⟩ = some (I 0) := BA1.cell 0
  have wa := wr64 (y - x) (by omega) (by omega)
  have wb := wr64 (hi - lo) (by omega) (by omega)
  have wc : IntKind.i64.wrap (hi - lo + 1) = SZ := by rw [← hS]; exact wr64 _ (by omega) (by omega)
  have hS0 : (SZ == 0) = false := by simp; omega
  have hS1 : ¬ SZ = 0 := by omega
  have bv3 : Below v1.heap.size v1 v1.drew := (Below.refl _ _).drew
  clear o0 o1 o2 x0 x1 x2 hE hS
  go_quiet (fail)
  have BN2 := fun n => BN1.below (below_drewN v1.heap.size v1 n) BN1.lt
  have BW2 := fun n => BW1.below (below_drewN v1.heap.size v1 n) BW1.lt
  have bb2 := fun n => bb1.trans ((below_drewN v1.heap.size v1 n).mono bb1.size)
  clear k0 k1 k2 k3 BN1 BW1 BA1 BO1 bb1 bv3 hcw hcn wa wb wc hS0 hS1
  go_wp2
  go_loopw [19] (fun r wr => ∃ k : Nat, k ≤ 3 ∧ r = I k ∧ Blk wr NB #[I n0, I n1, I n2] 36 ∧ Blk wr WB #[I a, I p, I q] 36 ∧ Below w.heap.size w wr) (fun r _ => (3 - intOf r).toNat)
  case atStart => exact ⟨0, by omega, rfl, BN2 _, BW2 _, bb2 _⟩
  case round =>
    clear BN2 BW2 bb2
    obtain ⟨k, hk, rfl, BN, BW, br⟩ := hrel
    have hkk : k = 0 ∨ k = 1 ∨ k = 2 ∨ k = 3 := by omega
    clear hk
    rcases hkk with rfl | rfl | rfl | rfl
    · have hE := ends_any 0 wr
      rw [show loR 0 = (-128) from rfl, show hiR 0 = 127 from rfl] at hE
      have m0 : wr.cell? ⟨NB, 0, none⟩ = some (I n0) := BN.cell 0
      have m1 : wr.cell? ⟨WB, 0, none⟩ = some (I a) := BW.cell 0
      have g1 : ¬ n0 < (-128) := by omega
      have g2 : ¬ 127 < n0 := by omega
      cases hg : ((0 : Int) != (tt : Int)) with
      | false =>
        go_wp2_with fail
        refine hE.mono ?_
        rintro e w3 ⟨rfl, rfl⟩
        go_wp2_with fail
        go_region
        go_wp2
        go_roundw
        case rel => exact ⟨1, by omega, rfl, BN, BW, br.drew⟩
        case measure => simp [intOf]
      | true =>
        have hnw : (n0 != a) = false := by
          rcases e0 with e | e
          · rw [← e] at hg; simp at hg
          · rw [e]; simp
        go_wp2_with fail
        refine hE.mono ?_
        rintro e w3 ⟨rfl, rfl⟩
        go_wp2_with fail
        go_region
        go_wp2
        go_roundw
        case rel => exact ⟨1, by omega, rfl, BN, BW, br.drew⟩
        case measure => simp [intOf]
    · have hE := ends_any 1 wr
      rw [show loR 1 = (-32768) from rfl, show hiR 1 = 32767 from rfl] at hE
      have m0 : wr.cell? ⟨NB, 1, none⟩ = some (I n1) := BN.cell 1
      have m1 : wr.cell? ⟨WB, 1, none⟩ = some (I p) := BW.cell 1
      have g1 : ¬ n1 < (-32768) := by omega
      have g2 : ¬ 32767 < n1 := by omega
      cases hg : ((1 : Int) != (tt : Int)) with
      | false =>
        go_wp2_with fail
        refine hE.mono ?_
        rintro e w3 ⟨rfl, rfl⟩
        go_wp2_with fail
        go_region
        go_wp2
        go_roundw
        case rel => exact ⟨2, by omega, rfl, BN, BW, br.drew⟩
        case measure => simp [intOf]
      | true =>
        have hnw : (n1 != p) = false := by
          rcases e1 with e | e
          · rw [← e] at hg; simp at hg
          · rw [e]; simp
        go_wp2_with fail
        refine hE.mono ?_
        rintro e w3 ⟨rfl, rfl⟩
        go_wp2_with fail
        go_region
        go_wp2
        go_roundw
        case rel => exact ⟨2, by omega, rfl, BN, BW, br.drew⟩
        case measure => simp [intOf]
    · have hE := ends_any 2 wr
      rw [show loR 2 = 0 from rfl, show hiR 2 = 65535 from rfl] at hE
      have m0 : wr.cell? ⟨NB, 2, none⟩ = some (I n2) := BN.cell 2
      have m1 : wr.cell? ⟨WB, 2, none⟩ = some (I q) := BW.cell 2
      have g1 : ¬ n2 < 0 := by omega
      have g2 : ¬ 65535 < n2 := by omega
      cases hg : ((2 : Int) != (tt : Int)) with
      | false =>
        go_wp2_with fail
        refine hE.mono ?_
        rintro e w3 ⟨rfl, rfl⟩
        go_wp2_with fail
        go_region
        go_wp2
        go_roundw
        case rel => exact ⟨3, by omega, rfl, BN, BW, br.drew⟩
        case measure => simp [intOf]
      | true =>
        have hnw : (n2 != q) = false := by
          rcases e2 with e | e
          · rw [← e] at hg; simp at hg
          · rw [e]; simp
        go_wp2_with fail
        refine hE.mono ?_
        rintro e w3 ⟨rfl, rfl⟩
        go_wp2_with fail
        go_region
        go_wp2
        go_roundw
        case rel => exact ⟨3, by omega, rfl, BN, BW, br.drew⟩
        case measure => simp [intOf]
    · go_wp2
      go_ret
      exact ⟨rfl, br⟩
end Go.Proofs.Qxb6500469a
