import Derived.Test.Qxb6500469aWd8
namespace Go.Proofs.Qxb6500469a
open Go.RowKit

set_option maxRecDepth 100000 in
set_option maxHeartbeats 4000000 in
theorem do_7s {P : World → World → Prop} {Q : World → Prop} (w : World) (xb bm bo wi oi : Nat) (hX : Pair w xb bm bo wi oi) (B C : Int) (s t : ByteArray) (E : Int)
    (hU : ∀ a v, P a v → Upd [bm] a v) (hQ : ∀ a v v', Below w.heap.size w a → w.heap.size + 2 ≤ a.heap.size → P a v → Upd [w.heap.size + 1] v v' → Q v')
    (hC : ∀ v, Below w.heap.size w v → Calls Try.prog 32 #[ptr bm, ptr bm] v fun e w' => e = .returned (I E) ∧ P v w') :
    Calls Try.prog 19 #[.slice (some ⟨xb, 0, none⟩) 2 2, I wi, OpV 7 0 B C s t] w fun e w' => e = .returned (AnsV (E) (0) (0) ([])) ∧ Q w' := by
  have b0 := ((Below.refl w.heap.size w).alloc (Nat.le_refl _) (.cells #[I 7, I 0, I B, I C, .string s, .string t] 31)).alloc (by simp) (.cells #[I 0, I 0, I 0, S []] 40)
  have BA : Blk ((w.alloc (.cells #[I 7, I 0, I B, I C, .string s, .string t] 31)).alloc (.cells #[I 0, I 0, I 0, S []] 40)) (w.heap.size + 1) #[I 0, I 0, I 0, S []] 40 := Blk.new (by simp)
  have hm := hX.hm
  have ho := hX.ho
  have lx := hX.lx
  have lm := hX.lm
  have hsum := hX.sum
  have q1 : (wi : Int) < 2 := by omega
  have q2 : (oi : Int) < 2 := by omega
  have q3 : (1 : Int) - (wi : Int) = (oi : Int) := by omega
  have q4 := wr64 (oi : Int) (by omega) (by omega)
  have hn1 : xb ≠ w.heap.size := by omega
  have hn2 : xb ≠ w.heap.size + 1 := by omega
  clear hX
  go_enter Try.func19, Try.ntmps19
  go_wp2_with fail
  refine (hC _ b0).mono ?_
  rintro e w1 ⟨rfl, P1⟩
  have u1 := hU _ _ P1
  have BA1 := BA.upd u1 (by simp; omega)
  have z1 := u1.size
  simp only [World.size_alloc] at z1
  have hq : ∀ v', Upd [w.heap.size + 1] w1 v' → Q v' := fun v' k => hQ _ w1 v' b0 (by simp) P1 k
  have HQ : Hid _ := hq
  clear hm ho q3 u1 BA hq P1 hC hQ b0
  obtain ⟨g0, g1, g2⟩ := BA1.facts
  go_wp2
  have BZ := (((BA1.set (i := 0) (I (E))).set (i := 1) (I (0))).set (i := 2) (I (0))).set (i := 3) (S ([]))
  exact ret_row Try.results19 rfl rfl BZ Try.underlying40 rfl (by kernel_rfl) ⟨rfl, HQ.out _ (((((Upd.refl _ _).setCell (p := ⟨w.heap.size + 1, 0, none⟩) (by simp) (I (E))).setCell (p := ⟨w.heap.size + 1, 1, none⟩) (by simp) (I (0))).setCell (p := ⟨w.heap.size + 1, 2, none⟩) (by simp) (I (0))).setCell (p := ⟨w.heap.size + 1, 3, none⟩) (by simp) (S ([])))⟩
set_option maxRecDepth 100000 in
set_option maxHeartbeats 4000000 in
theorem do_7o {P : World → World → Prop} {Q : World → Prop} (w : World) (xb bm bo wi oi : Nat) (hX : Pair w xb bm bo wi oi) (B C : Int) (s t : ByteArray) (E : Int)
    (hU : ∀ a v, P a v → Upd [bm] a v) (hQ : ∀ a v v', Below w.heap.size w a → w.heap.size + 2 ≤ a.heap.size → P a v → Upd [w.heap.size + 1] v v' → Q v')
    (hC : ∀ v, Below w.heap.size w v → Calls Try.prog 32 #[ptr bm, ptr bo] v fun e w' => e = .returned (I E) ∧ P v w') :
    Calls Try.prog 19 #[.slice (some ⟨xb, 0, none⟩) 2 2, I wi, OpV 7 1 B C s t] w fun e w' => e = .returned (AnsV (E) (0) (0) ([])) ∧ Q w' := by
  have b0 := ((Below.refl w.heap.size w).alloc (Nat.le_refl _) (.cells #[I 7, I 1, I B, I C, .string s, .string t] 31)).alloc (by simp) (.cells #[I 0, I 0, I 0, S []] 40)
  have BA : Blk ((w.alloc (.cells #[I 7, I 1, I B, I C, .string s, .string t] 31)).alloc (.cells #[I 0, I 0, I 0, S []] 40)) (w.heap.size + 1) #[I 0, I 0, I 0, S []] 40 := Blk.new (by simp)
  have hm := hX.hm
  have ho := hX.ho
  have lx := hX.lx
  have lm := hX.lm
  have hsum := hX.sum
  have q1 : (wi : Int) < 2 := by omega
  have q2 : (oi : Int) < 2 := by omega
  have q3 : (1 : Int) - (wi : Int) = (oi : Int) := by omega
  have q4 := wr64 (oi : Int) (by omega) (by omega)
  have hn1 : xb ≠ w.heap.size := by omega
  have hn2 : xb ≠ w.heap.size + 1 := by omega
  clear hX
  go_enter Try.func19, Try.ntmps19
  go_wp2_with fail
  refine (hC _ b0).mono ?_
  rintro e w1 ⟨rfl, P1⟩
  have u1 := hU _ _ P1
  have BA1 := BA.upd u1 (by simp; omega)
  have z1 := u1.size
  simp only [World.size_alloc] at z1
  have hq : ∀ v', Upd [w.heap.size + 1] w1 v' → Q v' := fun v' k => hQ _ w1 v' b0 (by simp) P1 k
  have HQ : Hid _ := hq
  clear hm ho q3 u1 BA hq P1 hC hQ b0
  obtain ⟨g0, g1, g2⟩ := BA1.facts
  go_wp2
  have BZ := (((BA1.set (i := 0) (I (E))).set (i := 1) (I (0))).set (i := 2) (I (0))).set (i := 3) (S ([]))
  exact ret_row Try.results19 rfl rfl BZ Try.underlying40 rfl (by kernel_rfl) ⟨rfl, HQ.out _ (((((Upd.refl _ _).setCell (p := ⟨w.heap.size + 1, 0, none⟩) (by simp) (I (E))).setCell (p := ⟨w.heap.size + 1, 1, none⟩) (by simp) (I (0))).setCell (p := ⟨w.heap.size + 1, 2, none⟩) (by simp) (I (0))).setCell (p := ⟨w.heap.size + 1, 3, none⟩) (by simp) (S ([])))⟩
set_option maxRecDepth 100000 in
set_option maxHeartbeats 4000000 in
theorem do_7n {P : World → World → Prop} {Q : World → Prop} (w : World) (xb bm bo wi oi : Nat) (hX : Pair w xb bm bo wi oi) (A B C : Int) (s t : ByteArray) (n0 : A ≠ 0) (n1 : A ≠ 1) (E : Int)
    (hU : ∀ a v, P a v → Upd [bm] a v) (hQ : ∀ a v v', Below w.heap.size w a → w.heap.size + 2 ≤ a.heap.size → P a v → Upd [w.heap.size + 1] v v' → Q v')
    (hC : ∀ v, Below w.heap.size w v → Calls Try.prog 32 #[ptr bm, .pointer none] v fun e w' => e = .returned (I E) ∧ P v w') :
    Calls Try.prog 19 #[.slice (some ⟨xb, 0, none⟩) 2 2, I wi, OpV 7 A B C s t] w fun e w' => e = .returned (AnsV E 0 0 []) ∧ Q w' := by
  have b0 := ((Below.refl w.heap.size w).alloc (Nat.le_refl _) (.cells #[I 7, I A, I B, I C, .string s, .string t] 31)).alloc (by simp) (.cells #[I 0, I 0, I 0, S []] 40)
  have BA : Blk ((w.alloc (.cells #[I 7, I A, I B, I C, .string s, .string t] 31)).alloc (.cells #[I 0, I 0, I 0, S []] 40)) (w.heap.size + 1) #[I 0, I 0, I 0, S []] 40 := Blk.new (by simp)
  have hm := hX.hm
  have ho := hX.ho
  have lx := hX.lx
  have lm := hX.lm
  have hsum := hX.sum
  have q1 : (wi : Int) < 2 := by omega
  have q2 : (oi : Int) < 2 := by omega
  have q3 : (1 : Int) - (wi : Int) = (oi : Int) := by omega
  have q4 := wr64 (oi : Int) (by omega) (by omega)
  have hn1 : xb ≠ w.heap.size := by omega
  have hn2 : xb ≠ w.heap.size + 1 := by omega
  clear hX
  have a0 : (A == 0) = false := by simpa using n0
  have a1 : (A == 1) = false := by simpa using n1
  clear n0 n1
  go_enter Try.func19, Try.ntmps19
  go_wp2_with fail
  refine (hC _ b0).mono ?_
  rintro e w1 ⟨rfl, P1⟩
  have u1 := hU _ _ P1
  have BA1 := BA.upd u1 (by simp; omega)
  have z1 := u1.size
  simp only [World.size_alloc] at z1
  have hq : ∀ v', Upd [w.heap.size + 1] w1 v' → Q v' := fun v' k => hQ _ w1 v' b0 (by simp) P1 k
  have HQ : Hid _ := hq
  clear hm ho q3 u1 BA hq P1 hC hQ b0
  obtain ⟨g0, g1, g2⟩ := BA1.facts
  go_wp2
  have BZ := (((BA1.set (i := 0) (I (E))).set (i := 1) (I (0))).set (i := 2) (I (0))).set (i := 3) (S ([]))
  exact ret_row Try.results19 rfl rfl BZ Try.underlying40 rfl (by kernel_rfl) ⟨rfl, HQ.out _ (((((Upd.refl _ _).setCell (p := ⟨w.heap.size + 1, 0, none⟩) (by simp) (I (E))).setCell (p := ⟨w.heap.size + 1, 1, none⟩) (by simp) (I (0))).setCell (p := ⟨w.heap.size + 1, 2, none⟩) (by simp) (I (0))).setCell (p := ⟨w.heap.size + 1, 3, none⟩) (by simp) (S ([])))⟩
set_option maxRecDepth 100000 in
set_option maxHeartbeats 4000000 in
theorem do_8s {P : World → World → Prop} {Q : World → Prop} (w : World) (xb bm bo wi oi : Nat) (hX : Pair w xb bm bo wi oi) (B C : Int) (s t : ByteArray) (E : Int)
    (hU : ∀ a v, P a v → Upd [bm] a v) (hQ : ∀ a v v', Below w.heap.size w a → w.heap.size + 2 ≤ a.heap.size → P a v → Upd [w.heap.size + 1] v v' → Q v')
    (hC : ∀ v, Below w.heap.size w v → Calls Try.prog 33 #[ptr bm, ptr bm] v fun e w' => e = .returned (I E) ∧ P v w') :
    Calls Try.prog 19 #[.slice (some ⟨xb, 0, none⟩) 2 2, I wi, OpV 8 0 B C s t] w fun e w' => e = .returned (AnsV (E) (0) (0) ([])) ∧ Q w' := by
  have b0 := ((Below.refl w.heap.size w).alloc (Nat.le_refl _) (.cells #[I 8, I 0, I B, I C, .string s, .string t] 31)).alloc (by simp) (.cells #[I 0, I 0, I 0, S []] 40)
  have BA : Blk ((w.alloc (.cells #[I 8, I 0, I B, I C, .string s, .string t] 31)).alloc (.cells #[I 0, I 0, I 0, S []] 40)) (w.heap.size + 1) #[I 0, I 0, I 0, S []] 40 := Blk.new (by simp)
  have hm := hX.hm
  have ho := hX.ho
  have lx := hX.lx
  have lm := hX.lm
  have hsum := hX.sum
  have q1 : (wi : Int) < 2 := by omega
  have q2 : (oi : Int) < 2 := by omega
  have q3 : (1 : Int) - (wi : Int) = (oi : Int) := by omega
  have q4 := wr64 (oi : Int) (by omega) (by omega)
  have hn1 : xb ≠ w.heap.size := by omega
  have hn2 : xb ≠ w.heap.size + 1 := by omega
  clear hX
  go_enter Try.func19, Try.ntmps19
  go_wp2_with fail
  refine (hC _ b0).mono ?_
  rintro e w1 ⟨rfl, P1⟩
  have u1 := hU _ _ P1
  have BA1 := BA.upd u1 (by simp; omega)
  have z1 := u1.size
  simp only [World.size_alloc] at z1
  have hq : ∀ v', Upd [w.heap.size + 1] w1 v' → Q v' := fun v' k => hQ _ w1 v' b0 (by simp) P1 k
  have HQ : Hid _ := hq
  clear hm ho q3 u1 BA hq P1 hC hQ b0
  obtain ⟨g0, g1, g2⟩ := BA1.facts
  go_wp2
  have BZ := (((BA1.set (i := 0) (I (E))).set (i := 1) (I (0))).set (i := 2) (I (0))).set (i := 3) (S ([]))
  exact ret_row Try.results19 rfl rfl BZ Try.underlying40 rfl (by kernel_rfl) ⟨rfl, HQ.out _ (((((Upd.refl _ _).setCell (p := ⟨w.heap.size + 1, 0, none⟩) (by simp) (I (E))).setCell (p := ⟨w.heap.size + 1, 1, none⟩) (by simp) (I (0))).setCell (p := ⟨w.heap.size + 1, 2, none⟩) (by simp) (I (0))).setCell (p := ⟨w.heap.size + 1, 3, none⟩) (by simp) (S ([])))⟩
set_option maxRecDepth 100000 in
set_option maxHeartbeats 4000000 in
theorem do_8o {P : World → World → Prop} {Q : World → Prop} (w : World) (xb bm bo wi oi : Nat) (hX : Pair w xb bm bo wi oi) (B C : Int) (s t : ByteArray) (E : Int)
    (hU : ∀ a v, P a v → Upd [bm] a v) (hQ : ∀ a v v', Below w.heap.size w a → w.heap.size + 2 ≤ a.heap.size → P a v → Upd [w.heap.size + 1] v v' → Q v')
    (hC : ∀ v, Below w.heap.size w v → Calls Try.prog 33 #[ptr bm, ptr bo] v fun e w' => e = .returned (I E) ∧ P v w') :
    Calls Try.prog 19 #[.slice (some ⟨xb, 0, none⟩) 2 2, I wi, OpV 8 1 B C s t] w fun e w' => e = .returned (AnsV (E) (0) (0) ([])) ∧ Q w' := by
  have b0 := ((Below.refl w.heap.size w).alloc (Nat.le_refl _) (.cells #[I 8, I 1, I B, I C, .string s, .string t] 31)).alloc (by simp) (.cells #[I 0, I 0, I 0, S []] 40)
  have BA : Blk ((w.alloc (.cells #[I 8, I 1, I B, I C, .string s, .string t] 31)).alloc (.cells #[I 0, I 0, I 0, S []] 40)) (w.heap.size + 1) #[I 0, I 0, I 0, S []] 40 := Blk.new (by simp)
  have hm := hX.hm
  have ho := hX.ho
  have lx := hX.lx
  have lm := hX.lm
  have hsum := hX.sum
  have q1 : (wi : Int) < 2 := by omega
  have q2 : (oi : Int) < 2 := by omega
  have q3 : (1 : Int) - (wi : Int) = (oi : Int) := by omega
  have q4 := wr64 (oi : Int) (by omega) (by omega)
  have hn1 : xb ≠ w.heap.size := by omega
  have hn2 : xb ≠ w.heap.size + 1 := by omega
  clear hX
  go_enter Try.func19, Try.ntmps19
  go_wp2_with fail
  refine (hC _ b0).mono ?_
  rintro e w1 ⟨rfl, P1⟩
  have u1 := hU _ _ P1
  have BA1 := BA.upd u1 (by simp; omega)
  have z1 := u1.size
  simp only [World.size_alloc] at z1
  have hq : ∀ v', Upd [w.heap.size + 1] w1 v' → Q v' := fun v' k => hQ _ w1 v' b0 (by simp) P1 k
  have HQ : Hid _ := hq
  clear hm ho q3 u1 BA hq P1 hC hQ b0
  obtain ⟨g0, g1, g2⟩ := BA1.facts
  go_wp2
  have BZ := (((BA1.set (i := 0) (I (E))).set (i := 1) (I (0))).set (i := 2) (I (0))).set (i := 3) (S ([]))
  exact ret_row Try.results19 rfl rfl BZ Try.underlying40 rfl (by kernel_rfl) ⟨rfl, HQ.out _ (((((Upd.refl _ _).setCell (p := ⟨w.heap.size + 1, 0, none⟩) (by simp) (I (E))).setCell (p := ⟨w.heap.size + 1, 1, none⟩) (by simp) (I (0))).setCell (p := ⟨w.heap.size + 1, 2, none⟩) (by simp) (I (0))).setCell (p := ⟨w.heap.size + 1, 3, none⟩) (by simp) (S ([])))⟩
set_option maxRecDepth 100000 in
set_option maxHeartbeats 4000000 in
theorem do_8n {P : World → World → Prop} {Q : World → Prop} (w : World) (xb bm bo wi oi : Nat) (hX : Pair w xb bm bo wi oi) (A B C : Int) (s t : ByteArray) (n0 : A ≠ 0) (n1 : A ≠ 1) (E : Int)
    (hU : ∀ a v, P a v → Upd [bm] a v) (hQ : ∀ a v v', Below w.heap.size w a → w.heap.size + 2 ≤ a.heap.size → P a v → Upd [w.heap.size + 1] v v' → Q v')
    (hC : ∀ v, Below w.heap.size w v → Calls Try.prog 33 #[ptr bm, .pointer none] v fun e w' => e = .returned (I E) ∧ P v w') :
    Calls Try.prog 19 #[.slice (some ⟨xb, 0, none⟩) 2 2, I wi, OpV 8 A B C s t] w fun e w' => e = .returned (AnsV E 0 0 []) ∧ Q w' := by
  have b0 := ((Below.refl w.heap.size w).alloc (Nat.le_refl _) (.cells #[I 8, I A, I B, I C, .string s, .string t] 31)).alloc (by simp) (.cells #[I 0, I 0, I 0, S []] 40)
  have BA : Blk ((w.alloc (.cells #[I 8, I A, I B, I C, .string s, .string t] 31)).alloc (.cells #[I 0, I 0, I 0, S []] 40)) (w.heap.size + 1) #[I 0, I 0, I 0, S []] 40 := Blk.new (by simp)
  have hm := hX.hm
  have ho := hX.ho
  have lx := hX.lx
  have lm := hX.lm
  have hsum := hX.sum
  have q1 : (wi : Int) < 2 := by omega
  have q2 : (oi : Int) < 2 := by omega
  have q3 : (1 : Int) - (wi : Int) = (oi : Int) := by omega
  have q4 := wr64 (oi : Int) (by omega) (by omega)
  have hn1 : xb ≠ w.heap.size := by omega
  have hn2 : xb ≠ w.heap.size + 1 := by omega
  clear hX
  have a0 : (A == 0) = false := by simpa using n0
  have a1 : (A == 1) = false := by simpa using n1
  clear n0 n1
  go_enter Try.func19, Try.ntmps19
  go_wp2_with fail
  refine (hC _ b0).mono ?_
  rintro e w1 ⟨rfl, P1⟩
  have u1 := hU _ _ P1
  have BA1 := BA.upd u1 (by simp; omega)
  have z1 := u1.size
  simp only [World.size_alloc] at z1
  have hq : ∀ v', Upd [w.heap.size + 1] w1 v' → Q v' := fun v' k => hQ _ w1 v' b0 (by simp) P1 k
  have HQ : Hid _ := hq
  clear hm ho q3 u1 BA hq P1 hC hQ b0
  obtain ⟨g0, g1, g2⟩ := BA1.facts
  go_wp2
  have BZ := (((BA1.set (i := 0) (I (E))).set (i := 1) (I (0))).set (i := 2) (I (0))).set (i := 3) (S ([]))
  exact ret_row Try.results19 rfl rfl BZ Try.underlying40 rfl (by kernel_rfl) ⟨rfl, HQ.out _ (((((Upd.refl _ _).setCell (p := ⟨w.heap.size + 1, 0, none⟩) (by simp) (I (E))).setCell (p := ⟨w.heap.size + 1, 1, none⟩) (by simp) (I (0))).setCell (p := ⟨w.heap.size + 1, 2, none⟩) (by simp) (I (0))).setCell (p := ⟨w.heap.size + 1, 3, none⟩) (by simp) (S ([])))⟩
set_option maxRecDepth 100000 in
set_option maxHeartbeats 4000000 in
theorem do_9s {P : World → World → Prop} {Q : World → Prop} (w : World) (xb bm bo wi oi : Nat) (hX : Pair w xb bm bo wi oi) (B C : Int) (s t : ByteArray) (E : Int)
    (hU : ∀ a v, P a v → Upd [bm] a v) (hQ : ∀ a v v', Below w.heap.size w a → w.heap.size + 2 ≤ a.heap.size → P a v → Upd [w.heap.size + 1] v v' → Q v')
    (hC : ∀ v, Below w.heap.size w v → Calls Try.prog 34 #[ptr bm, ptr bm] v fun e w' => e = .returned (I E) ∧ P v w') :
    Calls Try.prog 19 #[.slice (some ⟨xb, 0, none⟩) 2 2, I wi, OpV 9 0 B C s t] w fun e w' => e = .returned (AnsV (E) (0) (0) ([])) ∧ Q w' := by
  have b0 := ((Below.refl w.heap.size w).alloc (Nat.le_refl _) (.cells #[I 9, I 0, I B, I C, .string s, .string t] 31)).alloc (by simp) (.cells #[I 0, I 0, I 0, S []] 40)
  have BA : Blk ((w.alloc (.cells #[I 9, I 0, I B, I C, .string s, .string t] 31)).alloc (.cells #[I 0, I 0, I 0, S []] 40)) (w.heap.size + 1) #[I 0, I 0, I 0, S []] 40 := Blk.new (by simp)
  have hm := hX.hm
  have ho := hX.ho
  have lx := hX.lx
  have lm := hX.lm
  have hsum := hX.sum
  have q1 : (wi : Int) < 2 := by omega
  have q2 : (oi : Int) < 2 := by omega
  have q3 : (1 : Int) - (wi : Int) = (oi : Int) := by omega
  have q4 := wr64 (oi : Int) (by omega) (by omega)
  have hn1 : xb ≠ w.heap.size := by omega
  have hn2 : xb ≠ w.heap.size + 1 := by omega
  clear hX
  go_enter Try.func19, Try.ntmps19
  go_wp2_with fail
  refine (hC _ b0).mono ?_
  rintro e w1 ⟨rfl, P1⟩
  have u1 := hU _ _ P1
  have BA1 := BA.upd u1 (by simp; omega)
  have z1 := u1.size
  simp only [World.size_alloc] at z1
  have hq : ∀ v', Upd [w.heap.size + 1] w1 v' → Q v' := fun v' k => hQ _ w1 v' b0 (by simp) P1 k
  have HQ : Hid _ := hq
  clear hm ho q3 u1 BA hq P1 hC hQ b0
  obtain ⟨g0, g1, g2⟩ := BA1.facts
  go_wp2
  have BZ := (((BA1.set (i := 0) (I (E))).set (i := 1) (I (0))).set (i := 2) (I (0))).set (i := 3) (S ([]))
  exact ret_row Try.results19 rfl rfl BZ Try.underlying40 rfl (by kernel_rfl) ⟨rfl, HQ.out _ (((((Upd.refl _ _).setCell (p := ⟨w.heap.size + 1, 0, none⟩) (by simp) (I (E))).setCell (p := ⟨w.heap.size + 1, 1, none⟩) (by simp) (I (0))).setCell (p := ⟨w.heap.size + 1, 2, none⟩) (by simp) (I (0))).setCell (p := ⟨w.heap.size + 1, 3, none⟩) (by simp) (S ([])))⟩
set_option maxRecDepth 100000 in
set_option maxHeartbeats 4000000 in
theorem do_9o {P : World → World → Prop} {Q : World → Prop} (w : World) (xb bm bo wi oi : Nat) (hX : Pair w xb bm bo wi oi) (B C : Int) (s t : ByteArray) (E : Int)
    (hU : ∀ a v, P a v → Upd [bm] a v) (hQ : ∀ a v v', Below w.heap.size w a → w.heap.size + 2 ≤ a.heap.size → P a v → Upd [w.heap.size + 1] v v' → Q v')
    (hC : ∀ v, Below w.heap.size w v → Calls Try.prog 34 #[ptr bm, ptr bo] v fun e w' => e = .returned (I E) ∧ P v w') :
    Calls Try.prog 19 #[.slice (some ⟨xb, 0, none⟩) 2 2, I wi, OpV 9 1 B C s t] w fun e w' => e = .returned (AnsV (E) (0) (0) ([])) ∧ Q w' := by
  have b0 := ((Below.refl w.heap.size w).alloc (Nat.le_refl _) (.cells #[I 9, I 1, I B, I C, .string s, .string t] 31)).alloc (by simp) (.cells #[I 0, I 0, I 0, S []] 40)
  have BA : Blk ((w.alloc (.cells #[I 9, I 1, I B, I C, .string s, .string t] 31)).alloc (.cells #[I 0, I 0, I 0, S []] 40)) (w.heap.size + 1) #[I 0, I 0, I 0, S []] 40 := Blk.new (by simp)
  have hm := hX.hm
  have ho := hX.ho
  have lx := hX.lx
  have lm := hX.lm
  have hsum := hX.sum
  have q1 : (wi : Int) < 2 := by omega
  have q2 : (oi : Int) < 2 := by omega
  have q3 : (1 : Int) - (wi : Int) = (oi : Int) := by omega
  have q4 := wr64 (oi : Int) (by omega) (by omega)
  have hn1 : xb ≠ w.heap.size := by omega
  have hn2 : xb ≠ w.heap.size + 1 := by omega
  clear hX
  go_enter Try.func19, Try.ntmps19
  go_wp2_with fail
  refine (hC _ b0).mono ?_
  rintro e w1 ⟨rfl, P1⟩
  have u1 := hU _ _ P1
  have BA1 := BA.upd u1 (by simp; omega)
  have z1 := u1.size
  simp only [World.size_alloc] at z1
  have hq : ∀ v', Upd [w.heap.size + 1] w1 v' → Q v' := fun v' k => hQ _ w1 v' b0 (by simp) P1 k
  have HQ : Hid _ := hq
  clear hm ho q3 u1 BA hq P1 hC hQ b0
  obtain ⟨g0, g1, g2⟩ := BA1.facts
  go_wp2
  have BZ := (((BA1.set (i := 0) (I (E))).set (i := 1) (I (0))).set (i := 2) (I (0))).set (i := 3) (S ([]))
  exact ret_row Try.results19 rfl rfl BZ Try.underlying40 rfl (by kernel_rfl) ⟨rfl, HQ.out _ (((((Upd.refl _ _).setCell (p := ⟨w.heap.size + 1, 0, none⟩) (by simp) (I (E))).setCell (p := ⟨w.heap.size + 1, 1, none⟩) (by simp) (I (0))).setCell (p := ⟨w.heap.size + 1, 2, none⟩) (by simp) (I (0))).setCell (p := ⟨w.heap.size + 1, 3, none⟩) (by simp) (S ([])))⟩
set_option maxRecDepth 100000 in
set_option maxHeartbeats 4000000 in
theorem do_9n {P : World → World → Prop} {Q : World → Prop} (w : World) (xb bm bo wi oi : Nat) (hX : Pair w xb bm bo wi oi) (A B C : Int) (s t : ByteArray) (n0 : A ≠ 0) (n1 : A ≠ 1) (E : Int)
    (hU : ∀ a v, P a v → Upd [bm] a v) (hQ : ∀ a v v', Below w.heap.size w a → w.heap.size + 2 ≤ a.heap.size → P a v → Upd [w.heap.size + 1] v v' → Q v')
    (hC : ∀ v, Below w.heap.size w v → Calls Try.prog 34 #[ptr bm, .pointer none] v fun e w' => e = .returned (I E) ∧ P v w') :
    Calls Try.prog 19 #[.slice (some ⟨xb, 0, none⟩) 2 2, I wi, OpV 9 A B C s t] w fun e w' => e = .returned (AnsV E 0 0 []) ∧ Q w' := by
  have b0 := ((Below.refl w.heap.size w).alloc (Nat.le_refl _) (.cells #[I 9, I A, I B, I C, .string s, .string t] 31)).alloc (by simp) (.cells #[I 0, I 0, I 0, S []] 40)
  have BA : Blk ((w.alloc (.cells #[I 9, I A, I B, I C, .string s, .string t] 31)).alloc (.cells #[I 0, I 0, I 0, S []] 40)) (w.heap.size + 1) #[I 0, I 0, I 0, S []] 40 := Blk.new (by simp)
  have hm := hX.hm
  have ho := hX.ho
  have lx := hX.lx
  have lm := hX.lm
  have hsum := hX.sum
  have q1 : (wi : Int) < 2 := by omega
  have q2 : (oi : Int) < 2 := by omega
  have q3 : (1 : Int) - (wi : Int) = (oi : Int) := by omega
  have q4 := wr64 (oi : Int) (by omega) (by omega)
  have hn1 : xb ≠ w.heap.size := by omega
  have hn2 : xb ≠ w.heap.size + 1 := by omega
  clear hX
  have a0 : (A == 0) = false := by simpa using n0
  have a1 : (A == 1) = false := by simpa using n1
  clear n0 n1
  go_enter Try.func19, Try.ntmps19
  go_wp2_with fail
  refine (hC _ b0).mono ?_
  rintro e w1 ⟨rfl, P1⟩
  have u1 := hU _ _ P1
  have BA1 := BA.upd u1 (by simp; omega)
  have z1 := u1.size
  simp only [World.size_alloc] at z1
  have hq : ∀ v', Upd [w.heap.size + 1] w1 v' → Q v' := fun v' k => hQ _ w1 v' b0 (by simp) P1 k
  have HQ : Hid _ := hq
  clear hm ho q3 u1 BA hq P1 hC hQ b0
  obtain ⟨g0, g1, g2⟩ := BA1.facts
  go_wp2
  have BZ := (((BA1.set (i := 0) (I (E))).set (i := 1) (I (0))).set (i := 2) (I (0))).set (i := 3) (S ([]))
  exact ret_row Try.results19 rfl rfl BZ Try.underlying40 rfl (by kernel_rfl) ⟨rfl, HQ.out _ (((((Upd.refl _ _).setCell (p := ⟨w.heap.size + 1, 0, none⟩) (by simp) (I (E))).setCell (p := ⟨w.heap.size + 1, 1, none⟩) (by simp) (I (0))).setCell (p := ⟨w.heap.size + 1, 2, none⟩) (by simp) (I (0))).setCell (p := ⟨w.heap.size + 1, 3, none⟩) (by simp) (S ([])))⟩
set_option maxRecDepth 100000 in
set_option maxHeartbeats 4000000 in
theorem do_22 {P : World → World → Prop} {Q : World → Prop} (w : World) (xb bm bo wi oi : Nat) (hX : Pair w xb bm bo wi oi) (A B C : Int) (s t : ByteArray) (c : Bool)
    (hU : ∀ a v, P a v → Upd [bm] a v) (hQ : ∀ a v v', Below w.heap.size w a → w.heap.size + 2 ≤ a.heap.size → P a v → Upd [w.heap.size + 1] v v' → Q v')
    (hC : ∀ v, Below w.heap.size w v → Calls Try.prog 45 #[ptr bm] v fun e w' => e = .returned (.bool c) ∧ P v w') :
    Calls Try.prog 19 #[.slice (some ⟨xb, 0, none⟩) 2 2, I wi, OpV 22 A B C s t] w fun e w' => e = .returned (AnsV (0) (b2i c) (0) ([])) ∧ Q w' := by
  have b0 := ((Below.refl w.heap.size w).alloc (Nat.le_refl _) (.cells #[I 22, I A, I B, I C, .string s, .string t] 31)).alloc (by simp) (.cells #[I 0, I 0, I 0, S []] 40)
  have BA : Blk ((w.alloc (.cells #[I 22, I A, I B, I C, .string s, .string t] 31)).alloc (.cells #[I 0, I 0, I 0, S []] 40)) (w.heap.size + 1) #[I 0, I 0, I 0, S []] 40 := Blk.new (by simp)
  have hm := hX.hm
  have ho := hX.ho
  have lx := hX.lx
  have lm := hX.lm
  have hsum := hX.sum
  have q1 : (wi : Int) < 2 := by omega
  have q2 : (oi : Int) < 2 := by omega
  have q3 : (1 : Int) - (wi : Int) = (oi : Int) := by omega
  have q4 := wr64 (oi : Int) (by omega) (by omega)
  have hn1 : xb ≠ w.heap.size := by omega
  have hn2 : xb ≠ w.heap.size + 1 := by omega
  clear hX
  cases a1 : (A == 1) with
  | true =>
    obtain rfl : A = 1 := by simpa using a1
    clear a1
    go_enter Try.func19, Try.ntmps19
    go_wp2_with fail
    refine (hC _ b0).mono ?_
    rintro e w1 ⟨rfl, P1⟩
    have u1 := hU _ _ P1
    have BA1 := BA.upd u1 (by simp; omega)
    have z1 := u1.size
    simp only [World.size_alloc] at z1
    have hq : ∀ v', Upd [w.heap.size + 1] w1 v' → Q v' := fun v' k => hQ _ w1 v' b0 (by simp) P1 k
    have HQ : Hid _ := hq
    clear hm ho q3 u1 BA hq P1 hC hQ b0
    go_wp2_with fail
    refine (B_any _ _).mono ?_
    rintro e w2 ⟨rfl, rfl⟩
    obtain ⟨g0, g1, g2⟩ := BA1.facts
    go_wp2
    have BZ := (((BA1.set (i := 0) (I (0))).set (i := 1) (I (b2i c))).set (i := 2) (I (0))).set (i := 3) (S ([]))
    exact ret_row Try.results19 rfl rfl BZ Try.underlying40 rfl (by kernel_rfl) ⟨rfl, HQ.out _ (((((Upd.refl _ _).setCell (p := ⟨w.heap.size + 1, 0, none⟩) (by simp) (I (0))).setCell (p := ⟨w.heap.size + 1, 1, none⟩) (by simp) (I (b2i c))).setCell (p := ⟨w.heap.size + 1, 2, none⟩) (by simp) (I (0))).setCell (p := ⟨w.heap.size + 1, 3, none⟩) (by simp) (S ([])))⟩
  | false =>
    go_enter Try.func19, Try.ntmps19
    go_wp2_with fail
    refine (hC _ b0).mono ?_
    rintro e w1 ⟨rfl, P1⟩
    have u1 := hU _ _ P1
    have BA1 := BA.upd u1 (by simp; omega)
    have z1 := u1.size
    simp only [World.size_alloc] at z1
    have hq : ∀ v', Upd [w.heap.size + 1] w1 v' → Q v' := fun v' k => hQ _ w1 v' b0 (by simp) P1 k
    have HQ : Hid _ := hq
    clear hm ho q3 u1 BA hq P1 hC hQ b0
    go_wp2_with fail
    refine (B_any _ _).mono ?_
    rintro e w2 ⟨rfl, rfl⟩
    obtain ⟨g0, g1, g2⟩ := BA1.facts
    go_wp2
    have BZ := (((BA1.set (i := 0) (I (0))).set (i := 1) (I (b2i c))).set (i := 2) (I (0))).set (i := 3) (S ([]))
    exact ret_row Try.results19 rfl rfl BZ Try.underlying40 rfl (by kernel_rfl) ⟨rfl, HQ.out _ (((((Upd.refl _ _).setCell (p := ⟨w.heap.size + 1, 0, none⟩) (by simp) (I (0))).setCell (p := ⟨w.heap.size + 1, 1, none⟩) (by simp) (I (b2i c))).setCell (p := ⟨w.heap.size + 1, 2, none⟩) (by simp) (I (0))).setCell (p := ⟨w.heap.size + 1, 3, none⟩) (by simp) (S ([])))⟩
set_option maxRecDepth 100000 in
set_option maxHeartbeats 4000000 in
theorem do_o {Q : World → Prop} (w : World) (xb bm bo wi oi : Nat) (hX : Pair w xb bm bo wi oi) (K A B C : Int) (s t : ByteArray) (k3 : K ≠ 3) (k4 : K ≠ 4) (k5 : K ≠ 5) (k6 : K ≠ 6) (k7 : K ≠ 7) (k8 : K ≠ 8) (k9 : K ≠ 9) (k10 : K ≠ 10) (k11 : K ≠ 11) (k12 : K ≠ 12) (k13 : K ≠ 13) (k14 : K ≠ 14) (k15 : K ≠ 15) (k16 : K ≠ 16) (k17 : K ≠ 17) (k18 : K ≠ 18) (k19 : K ≠ 19) (k20 : K ≠ 20) (k21 : K ≠ 21) (k22 : K ≠ 22)
    (hQ : ∀ v', Below w.heap.size w v' → Q v') :
    Calls Try.prog 19 #[.slice (some ⟨xb, 0, none⟩) 2 2, I wi, OpV K A B C s t] w fun e w' => e = .returned (AnsV 0 0 0 []) ∧ Q w' := by
  have b0 := ((Below.refl w.heap.size w).alloc (Nat.le_refl _) (.cells #[I K, I A, I B, I C, .string s, .string t] 31)).alloc (by simp) (.cells #[I 0, I 0, I 0, S []] 40)
  have BA : Blk ((w.alloc (.cells #[I K, I A, I B, I C, .string s, .string t] 31)).alloc (.cells #[I 0, I 0, I 0, S []] 40)) (w.heap.size + 1) #[I 0, I 0, I 0, S []] 40 := Blk.new (by simp)
  have hm := hX.hm
  have ho := hX.ho
  have lx := hX.lx
  have lm := hX.lm
  have hsum := hX.sum
  have q1 : (wi : Int) < 2 := by omega
  have q2 : (oi : Int) < 2 := by omega
  have q3 : (1 : Int) - (wi : Int) = (oi : Int) := by omega
  have q4 := wr64 (oi : Int) (by omega) (by omega)
  have hn1 : xb ≠ w.heap.size := by omega
  have hn2 : xb ≠ w.heap.size + 1 := by omega
  clear hX
  have e3 : (K == 3) = false := by simpa using k3
  have e4 : (K == 4) = false := by simpa using k4
  have e5 : (K == 5) = false := by simpa using k5
  have e6 : (K == 6) = false := by simpa using k6
  have e7 : (K == 7) = false := by simpa using k7
  have e8 : (K == 8) = false := by simpa using k8
  have e9 : (K == 9) = false := by simpa using k9
  have e10 : (K == 10) = false := by simpa using k10
  have e11 : (K == 11) = false := by simpa using k11
  have e12 : (K == 12) = false := by simpa using k12
  have e13 : (K == 13) = false := by simpa using k13
  have e14 : (K == 14) = false := by simpa using k14
  have e15 : (K == 15) = false := by simpa using k15
  have e16 : (K == 16) = false := by simpa using k16
  have e17 : (K == 17) = false := by simpa using k17
  have e18 : (K == 18) = false := by simpa using k18
  have e19 : (K == 19) = false := by simpa using k19
  have e20 : (K == 20) = false := by simpa using k20
  have e21 : (K == 21) = false := by simpa using k21
  have e22 : (K == 22) = false := by simpa using k22
  clear k3 k4 k5 k6 k7 k8 k9 k10 k11 k12 k13 k14 k15 k16 k17 k18 k19 k20 k21 k22
  cases a1 : (A == 1) with
  | true =>
    go_enter Try.func19, Try.ntmps19
    go_wp2
    have BN : Blk ((w.alloc (.cells #[I K, I A, I B, I C, .string s, .string t] 31)).alloc (.cells #[I (0), I (0), I (0), S ([])] 40)) (w.heap.size + 1) #[I (0), I (0), I (0), S ([])] 40 := Blk.new (by simp)
    exact ret_row Try.results19 rfl rfl BN Try.underlying40 rfl (by kernel_rfl) ⟨rfl, hQ _ (((Below.refl w.heap.size w).alloc (Nat.le_refl _) _).alloc (by simp) _)⟩
  | false =>
    go_enter Try.func19, Try.ntmps19
    go_wp2
    have BN : Blk ((w.alloc (.cells #[I K, I A, I B, I C, .string s, .string t] 31)).alloc (.cells #[I (0), I (0), I (0), S ([])] 40)) (w.heap.size + 1) #[I (0), I (0), I (0), S ([])] 40 := Blk.new (by simp)
    exact ret_row Try.results19 rfl rfl BN Try.underlying40 rfl (by kernel_rfl) ⟨rfl, hQ _ (((Below.refl w.heap.size w).alloc (Nat.le_refl _) _).alloc (by simp) _)⟩
end Go.Proofs.Qxb6500469a
