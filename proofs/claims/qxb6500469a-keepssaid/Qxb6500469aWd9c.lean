import Derived.Test.Qxb6500469aWd8
namespace Go.Proofs.Qxb6500469a
open Go.RowKit

set_option maxRecDepth 100000 in
set_option maxHeartbeats 4000000 in
theorem do_10 {P : World → World → Prop} {Q : World → Prop} (w : World) (xb bm bo wi oi : Nat) (hX : Pair w xb bm bo wi oi) (A B C : Int) (s t : ByteArray)
    (hU : ∀ a v, P a v → Upd [bm] a v) (hQ : ∀ a v v', Below w.heap.size w a → w.heap.size + 2 ≤ a.heap.size → P a v → Upd [w.heap.size + 1] v v' → Q v')
    (hC : ∀ v, Below w.heap.size w v → Calls Try.prog 35 #[ptr bm] v fun e w' => e = .returned (.tuple #[]) ∧ P v w') :
    Calls Try.prog 19 #[.slice (some ⟨xb, 0, none⟩) 2 2, I wi, OpV 10 A B C s t] w fun e w' => e = .returned (AnsV (0) (0) (0) ([])) ∧ Q w' := by
  have b0 := ((Below.refl w.heap.size w).alloc (Nat.le_refl _) (.cells #[I 10, I A, I B, I C, .string s, .string t] 31)).alloc (by simp) (.cells #[I 0, I 0, I 0, S []] 40)
  have BA : Blk ((w.alloc (.cells #[I 10, I A, I B, I C, .string s, .string t] 31)).alloc (.cells #[I 0, I 0, I 0, S []] 40)) (w.heap.size + 1) #[I 0, I 0, I 0, S []] 40 := Blk.new (by simp)
  have hm := hX.hm
  have ho := hX.ho
  have lx := hX.lx
  have lm := hX.lm
  have hsum := hX.sum
  have q1 : (wi : Int) < 2 := by omega
  have q2 : (oi : Int) < 2 := by omega
  have q3 : (1 : Int) - (wi : Int) = (oi : Int) := by omega
  have q4 := wr64 (oi : Int) (by omega) (by omega)
  have hn1 : xb ≠ w.heap.size := by omega
  have hn2 : xb ≠ w.heap.size + 1 := by omega
  clear hX
  cases a1 : (A == 1) with
  | true =>
    obtain rfl : A = 1 := by simpa using a1
    clear a1
    go_enter Try.func19, Try.ntmps19
    go_wp2_with fail
    refine (hC _ b0).mono ?_
    rintro e w1 ⟨rfl, P1⟩
    have u1 := hU _ _ P1
    have BA1 := BA.upd u1 (by simp; omega)
    have z1 := u1.size
    simp only [World.size_alloc] at z1
    have hq : ∀ v', Upd [w.heap.size + 1] w1 v' → Q v' := fun v' k => hQ _ w1 v' b0 (by simp) P1 k
    have HQ : Hid _ := hq
    clear hm ho q3 u1 BA hq P1 hC hQ b0
    obtain ⟨g0, g1, g2⟩ := BA1.facts
    go_wp2
    have BZ := (((BA1.set (i := 0) (I (0))).set (i := 1) (I (0))).set (i := 2) (I (0))).set (i := 3) (S ([]))
    exact ret_row Try.results19 rfl rfl BZ Try.underlying40 rfl (by kernel_rfl) ⟨rfl, HQ.out _ (((((Upd.refl _ _).setCell (p := ⟨w.heap.size + 1, 0, none⟩) (by simp) (I (0))).setCell (p := ⟨w.heap.size + 1, 1, none⟩) (by simp) (I (0))).setCell (p := ⟨w.heap.size + 1, 2, none⟩) (by simp) (I (0))).setCell (p := ⟨w.heap.size + 1, 3, none⟩) (by simp) (S ([])))⟩
  | false =>
    go_enter Try.func19, Try.ntmps19
    go_wp2_with fail
    refine (hC _ b0).mono ?_
    rintro e w1 ⟨rfl, P1⟩
    have u1 := hU _ _ P1
    have BA1 := BA.upd u1 (by simp; omega)
    have z1 := u1.size
    simp only [World.size_alloc] at z1
    have hq : ∀ v', Upd [w.heap.size + 1] w1 v' → Q v' := fun v' k => hQ _ w1 v' b0 (by simp) P1 k
    have HQ : Hid _ := hq
    clear hm ho q3 u1 BA hq P1 hC hQ b0
    obtain ⟨g0, g1, g2⟩ := BA1.facts
    go_wp2
    have BZ := (((BA1.set (i := 0) (I (0))).set (i := 1) (I (0))).set (i := 2) (I (0))).set (i := 3) (S ([]))
    exact ret_row Try.results19 rfl rfl BZ Try.underlying40 rfl (by kernel_rfl) ⟨rfl, HQ.out _ (((((Upd.refl _ _).setCell (p := ⟨w.heap.size + 1, 0, none⟩) (by simp) (I (0))).setCell (p := ⟨w.heap.size + 1, 1, none⟩) (by simp) (I (0))).setCell (p := ⟨w.heap.size + 1, 2, none⟩) (by simp) (I (0))).setCell (p := ⟨w.heap.size + 1, 3, none⟩) (by simp) (S ([])))⟩
set_option maxRecDepth 100000 in
set_option maxHeartbeats 4000000 in
theorem do_12 {P : World → World → Prop} {Q : World → Prop} (w : World) (xb bm bo wi oi : Nat) (hX : Pair w xb bm bo wi oi) (A B C : Int) (s t : ByteArray)
    (hU : ∀ a v, P a v → Upd [bm] a v) (hQ : ∀ a v v', Below w.heap.size w a → w.heap.size + 2 ≤ a.heap.size → P a v → Upd [w.heap.size + 1] v v' → Q v')
    (hC : ∀ v, Below w.heap.size w v → Calls Try.prog 37 #[ptr bm, I A] v fun e w' => e = .returned (.tuple #[]) ∧ P v w') :
    Calls Try.prog 19 #[.slice (some ⟨xb, 0, none⟩) 2 2, I wi, OpV 12 A B C s t] w fun e w' => e = .returned (AnsV (0) (0) (0) ([])) ∧ Q w' := by
  have b0 := ((Below.refl w.heap.size w).alloc (Nat.le_refl _) (.cells #[I 12, I A, I B, I C, .string s, .string t] 31)).alloc (by simp) (.cells #[I 0, I 0, I 0, S []] 40)
  have BA : Blk ((w.alloc (.cells #[I 12, I A, I B, I C, .string s, .string t] 31)).alloc (.cells #[I 0, I 0, I 0, S []] 40)) (w.heap.size + 1) #[I 0, I 0, I 0, S []] 40 := Blk.new (by simp)
  have hm := hX.hm
  have ho := hX.ho
  have lx := hX.lx
  have lm := hX.lm
  have hsum := hX.sum
  have q1 : (wi : Int) < 2 := by omega
  have q2 : (oi : Int) < 2 := by omega
  have q3 : (1 : Int) - (wi : Int) = (oi : Int) := by omega
  have q4 := wr64 (oi : Int) (by omega) (by omega)
  have hn1 : xb ≠ w.heap.size := by omega
  have hn2 : xb ≠ w.heap.size + 1 := by omega
  clear hX
  cases a1 : (A == 1) with
  | true =>
    obtain rfl : A = 1 := by simpa using a1
    clear a1
    go_enter Try.func19, Try.ntmps19
    go_wp2_with fail
    refine (hC _ b0).mono ?_
    rintro e w1 ⟨rfl, P1⟩
    have u1 := hU _ _ P1
    have BA1 := BA.upd u1 (by simp; omega)
    have z1 := u1.size
    simp only [World.size_alloc] at z1
    have hq : ∀ v', Upd [w.heap.size + 1] w1 v' → Q v' := fun v' k => hQ _ w1 v' b0 (by simp) P1 k
    have HQ : Hid _ := hq
    clear hm ho q3 u1 BA hq P1 hC hQ b0
    obtain ⟨g0, g1, g2⟩ := BA1.facts
    go_wp2
    have BZ := (((BA1.set (i := 0) (I (0))).set (i := 1) (I (0))).set (i := 2) (I (0))).set (i := 3) (S ([]))
    exact ret_row Try.results19 rfl rfl BZ Try.underlying40 rfl (by kernel_rfl) ⟨rfl, HQ.out _ (((((Upd.refl _ _).setCell (p := ⟨w.heap.size + 1, 0, none⟩) (by simp) (I (0))).setCell (p := ⟨w.heap.size + 1, 1, none⟩) (by simp) (I (0))).setCell (p := ⟨w.heap.size + 1, 2, none⟩) (by simp) (I (0))).setCell (p := ⟨w.heap.size + 1, 3, none⟩) (by simp) (S ([])))⟩
  | false =>
    go_enter Try.func19, Try.ntmps19
    go_wp2_with fail
    refine (hC _ b0).mono ?_
    rintro e w1 ⟨rfl, P1⟩
    have u1 := hU _ _ P1
    have BA1 := BA.upd u1 (by simp; omega)
    have z1 := u1.size
    simp only [World.size_alloc] at z1
    have hq : ∀ v', Upd [w.heap.size + 1] w1 v' → Q v' := fun v' k => hQ _ w1 v' b0 (by simp) P1 k
    have HQ : Hid _ := hq
    clear hm ho q3 u1 BA hq P1 hC hQ b0
    obtain ⟨g0, g1, g2⟩ := BA1.facts
    go_wp2
    have BZ := (((BA1.set (i := 0) (I (0))).set (i := 1) (I (0))).set (i := 2) (I (0))).set (i := 3) (S ([]))
    exact ret_row Try.results19 rfl rfl BZ Try.underlying40 rfl (by kernel_rfl) ⟨rfl, HQ.out _ (((((Upd.refl _ _).setCell (p := ⟨w.heap.size + 1, 0, none⟩) (by simp) (I (0))).setCell (p := ⟨w.heap.size + 1, 1, none⟩) (by simp) (I (0))).setCell (p := ⟨w.heap.size + 1, 2, none⟩) (by simp) (I (0))).setCell (p := ⟨w.heap.size + 1, 3, none⟩) (by simp) (S ([])))⟩
set_option maxRecDepth 100000 in
set_option maxHeartbeats 4000000 in
theorem do_20 {P : World → World → Prop} {Q : World → Prop} (w : World) (xb bm bo wi oi : Nat) (hX : Pair w xb bm bo wi oi) (A B C : Int) (s t : ByteArray)
    (hU : ∀ a v, P a v → Upd [bm] a v) (hQ : ∀ a v v', Below w.heap.size w a → w.heap.size + 2 ≤ a.heap.size → P a v → Upd [w.heap.size + 1] v v' → Q v')
    (hC : ∀ v, Below w.heap.size w v → Calls Try.prog 44 #[ptr bm] v fun e w' => e = .returned (.tuple #[]) ∧ P v w') :
    Calls Try.prog 19 #[.slice (some ⟨xb, 0, none⟩) 2 2, I wi, OpV 20 A B C s t] w fun e w' => e = .returned (AnsV (0) (0) (0) ([])) ∧ Q w' := by
  have b0 := ((Below.refl w.heap.size w).alloc (Nat.le_refl _) (.cells #[I 20, I A, I B, I C, .string s, .string t] 31)).alloc (by simp) (.cells #[I 0, I 0, I 0, S []] 40)
  have BA : Blk ((w.alloc (.cells #[I 20, I A, I B, I C, .string s, .string t] 31)).alloc (.cells #[I 0, I 0, I 0, S []] 40)) (w.heap.size + 1) #[I 0, I 0, I 0, S []] 40 := Blk.new (by simp)
  have hm := hX.hm
  have ho := hX.ho
  have lx := hX.lx
  have lm := hX.lm
  have hsum := hX.sum
  have q1 : (wi : Int) < 2 := by omega
  have q2 : (oi : Int) < 2 := by omega
  have q3 : (1 : Int) - (wi : Int) = (oi : Int) := by omega
  have q4 := wr64 (oi : Int) (by omega) (by omega)
  have hn1 : xb ≠ w.heap.size := by omega
  have hn2 : xb ≠ w.heap.size + 1 := by omega
  clear hX
  cases a1 : (A == 1) with
  | true =>
    obtain rfl : A = 1 := by simpa using a1
    clear a1
    go_enter Try.func19, Try.ntmps19
    go_wp2_with fail
    refine (hC _ b0).mono ?_
    rintro e w1 ⟨rfl, P1⟩
    have u1 := hU _ _ P1
    have BA1 := BA.upd u1 (by simp; omega)
    have z1 := u1.size
    simp only [World.size_alloc] at z1
    have hq : ∀ v', Upd [w.heap.size + 1] w1 v' → Q v' := fun v' k => hQ _ w1 v' b0 (by simp) P1 k
    have HQ : Hid _ := hq
    clear hm ho q3 u1 BA hq P1 hC hQ b0
    obtain ⟨g0, g1, g2⟩ := BA1.facts
    go_wp2
    have BZ := (((BA1.set (i := 0) (I (0))).set (i := 1) (I (0))).set (i := 2) (I (0))).set (i := 3) (S ([]))
    exact ret_row Try.results19 rfl rfl BZ Try.underlying40 rfl (by kernel_rfl) ⟨rfl, HQ.out _ (((((Upd.refl _ _).setCell (p := ⟨w.heap.size + 1, 0, none⟩) (by simp) (I (0))).setCell (p := ⟨w.heap.size + 1, 1, none⟩) (by simp) (I (0))).setCell (p := ⟨w.heap.size + 1, 2, none⟩) (by simp) (I (0))).setCell (p := ⟨w.heap.size + 1, 3, none⟩) (by simp) (S ([])))⟩
  | false =>
    go_enter Try.func19, Try.ntmps19
    go_wp2_with fail
    refine (hC _ b0).mono ?_
    rintro e w1 ⟨rfl, P1⟩
    have u1 := hU _ _ P1
    have BA1 := BA.upd u1 (by simp; omega)
    have z1 := u1.size
    simp only [World.size_alloc] at z1
    have hq : ∀ v', Upd [w.heap.size + 1] w1 v' → Q v' := fun v' k => hQ _ w1 v' b0 (by simp) P1 k
    have HQ : Hid _ := hq
    clear hm ho q3 u1 BA hq P1 hC hQ b0
    obtain ⟨g0, g1, g2⟩ := BA1.facts
    go_wp2
    have BZ := (((BA1.set (i := 0) (I (0))).set (i := 1) (I (0))).set (i := 2) (I (0))).set (i := 3) (S ([]))
    exact ret_row Try.results19 rfl rfl BZ Try.underlying40 rfl (by kernel_rfl) ⟨rfl, HQ.out _ (((((Upd.refl _ _).setCell (p := ⟨w.heap.size + 1, 0, none⟩) (by simp) (I (0))).setCell (p := ⟨w.heap.size + 1, 1, none⟩) (by simp) (I (0))).setCell (p := ⟨w.heap.size + 1, 2, none⟩) (by simp) (I (0))).setCell (p := ⟨w.heap.size + 1, 3, none⟩) (by simp) (S ([])))⟩
set_option maxRecDepth 100000 in
set_option maxHeartbeats 4000000 in
theorem do_13 {P : World → World → Prop} {Q : World → Prop} (w : World) (xb bm bo wi oi : Nat) (hX : Pair w xb bm bo wi oi) (A B C : Int) (s t : ByteArray) (N : Int)
    (hU : ∀ a v, P a v → Upd [bm] a v) (hQ : ∀ a v v', Below w.heap.size w a → w.heap.size + 2 ≤ a.heap.size → P a v → Upd [w.heap.size + 1] v v' → Q v')
    (hC : ∀ v, Below w.heap.size w v → Calls Try.prog 38 #[ptr bm] v fun e w' => e = .returned (I N) ∧ P v w') :
    Calls Try.prog 19 #[.slice (some ⟨xb, 0, none⟩) 2 2, I wi, OpV 13 A B C s t] w fun e w' => e = .returned (AnsV (0) (N) (0) ([])) ∧ Q w' := by
  have b0 := ((Below.refl w.heap.size w).alloc (Nat.le_refl _) (.cells #[I 13, I A, I B, I C, .string s, .string t] 31)).alloc (by simp) (.cells #[I 0, I 0, I 0, S []] 40)
  have BA : Blk ((w.alloc (.cells #[I 13, I A, I B, I C, .string s, .string t] 31)).alloc (.cells #[I 0, I 0, I 0, S []] 40)) (w.heap.size + 1) #[I 0, I 0, I 0, S []] 40 := Blk.new (by simp)
  have hm := hX.hm
  have ho := hX.ho
  have lx := hX.lx
  have lm := hX.lm
  have hsum := hX.sum
  have q1 : (wi : Int) < 2 := by omega
  have q2 : (oi : Int) < 2 := by omega
  have q3 : (1 : Int) - (wi : Int) = (oi : Int) := by omega
  have q4 := wr64 (oi : Int) (by omega) (by omega)
  have hn1 : xb ≠ w.heap.size := by omega
  have hn2 : xb ≠ w.heap.size + 1 := by omega
  clear hX
  cases a1 : (A == 1) with
  | true =>
    obtain rfl : A = 1 := by simpa using a1
    clear a1
    go_enter Try.func19, Try.ntmps19
    go_wp2_with fail
    refine (hC _ b0).mono ?_
    rintro e w1 ⟨rfl, P1⟩
    have u1 := hU _ _ P1
    have BA1 := BA.upd u1 (by simp; omega)
    have z1 := u1.size
    simp only [World.size_alloc] at z1
    have hq : ∀ v', Upd [w.heap.size + 1] w1 v' → Q v' := fun v' k => hQ _ w1 v' b0 (by simp) P1 k
    have HQ : Hid _ := hq
    clear hm ho q3 u1 BA hq P1 hC hQ b0
    obtain ⟨g0, g1, g2⟩ := BA1.facts
    go_wp2
    have BZ := (((BA1.set (i := 0) (I (0))).set (i := 1) (I (N))).set (i := 2) (I (0))).set (i := 3) (S ([]))
    exact ret_row Try.results19 rfl rfl BZ Try.underlying40 rfl (by kernel_rfl) ⟨rfl, HQ.out _ (((((Upd.refl _ _).setCell (p := ⟨w.heap.size + 1, 0, none⟩) (by simp) (I (0))).setCell (p := ⟨w.heap.size + 1, 1, none⟩) (by simp) (I (N))).setCell (p := ⟨w.heap.size + 1, 2, none⟩) (by simp) (I (0))).setCell (p := ⟨w.heap.size + 1, 3, none⟩) (by simp) (S ([])))⟩
  | false =>
    go_enter Try.func19, Try.ntmps19
    go_wp2_with fail
    refine (hC _ b0).mono ?_
    rintro e w1 ⟨rfl, P1⟩
    have u1 := hU _ _ P1
    have BA1 := BA.upd u1 (by simp; omega)
    have z1 := u1.size
    simp only [World.size_alloc] at z1
    have hq : ∀ v', Upd [w.heap.size + 1] w1 v' → Q v' := fun v' k => hQ _ w1 v' b0 (by simp) P1 k
    have HQ : Hid _ := hq
    clear hm ho q3 u1 BA hq P1 hC hQ b0
    obtain ⟨g0, g1, g2⟩ := BA1.facts
    go_wp2
    have BZ := (((BA1.set (i := 0) (I (0))).set (i := 1) (I (N))).set (i := 2) (I (0))).set (i := 3) (S ([]))
    exact ret_row Try.results19 rfl rfl BZ Try.underlying40 rfl (by kernel_rfl) ⟨rfl, HQ.out _ (((((Upd.refl _ _).setCell (p := ⟨w.heap.size + 1, 0, none⟩) (by simp) (I (0))).setCell (p := ⟨w.heap.size + 1, 1, none⟩) (by simp) (I (N))).setCell (p := ⟨w.heap.size + 1, 2, none⟩) (by simp) (I (0))).setCell (p := ⟨w.heap.size + 1, 3, none⟩) (by simp) (S ([])))⟩
set_option maxRecDepth 100000 in
set_option maxHeartbeats 4000000 in
theorem do_18 {P : World → World → Prop} {Q : World → Prop} (w : World) (xb bm bo wi oi : Nat) (hX : Pair w xb bm bo wi oi) (A B C : Int) (s t : ByteArray) (N : Int)
    (hU : ∀ a v, P a v → Upd [bm] a v) (hQ : ∀ a v v', Below w.heap.size w a → w.heap.size + 2 ≤ a.heap.size → P a v → Upd [w.heap.size + 1] v v' → Q v')
    (hC : ∀ v, Below w.heap.size w v → Calls Try.prog 43 #[ptr bm, I A] v fun e w' => e = .returned (I N) ∧ P v w') :
    Calls Try.prog 19 #[.slice (some ⟨xb, 0, none⟩) 2 2, I wi, OpV 18 A B C s t] w fun e w' => e = .returned (AnsV (0) (N) (0) ([])) ∧ Q w' := by
  have b0 := ((Below.refl w.heap.size w).alloc (Nat.le_refl _) (.cells #[I 18, I A, I B, I C, .string s, .string t] 31)).alloc (by simp) (.cells #[I 0, I 0, I 0, S []] 40)
  have BA : Blk ((w.alloc (.cells #[I 18, I A, I B, I C, .string s, .string t] 31)).alloc (.cells #[I 0, I 0, I 0, S []] 40)) (w.heap.size + 1) #[I 0, I 0, I 0, S []] 40 := Blk.new (by simp)
  have hm := hX.hm
  have ho := hX.ho
  have lx := hX.lx
  have lm := hX.lm
  have hsum := hX.sum
  have q1 : (wi : Int) < 2 := by omega
  have q2 : (oi : Int) < 2 := by omega
  have q3 : (1 : Int) - (wi : Int) = (oi : Int) := by omega
  have q4 := wr64 (oi : Int) (by omega) (by omega)
  have hn1 : xb ≠ w.heap.size := by omega
  have hn2 : xb ≠ w.heap.size + 1 := by omega
  clear hX
  cases a1 : (A == 1) with
  | true =>
    obtain rfl : A = 1 := by simpa using a1
    clear a1
    go_enter Try.func19, Try.ntmps19
    go_wp2_with fail
    refine (hC _ b0).mono ?_
    rintro e w1 ⟨rfl, P1⟩
    have u1 := hU _ _ P1
    have BA1 := BA.upd u1 (by simp; omega)
    have z1 := u1.size
    simp only [World.size_alloc] at z1
    have hq : ∀ v', Upd [w.heap.size + 1] w1 v' → Q v' := fun v' k => hQ _ w1 v' b0 (by simp) P1 k
    have HQ : Hid _ := hq
    clear hm ho q3 u1 BA hq P1 hC hQ b0
    obtain ⟨g0, g1, g2⟩ := BA1.facts
    go_wp2
    have BZ := (((BA1.set (i := 0) (I (0))).set (i := 1) (I (N))).set (i := 2) (I (0))).set (i := 3) (S ([]))
    exact ret_row Try.results19 rfl rfl BZ Try.underlying40 rfl (by kernel_rfl) ⟨rfl, HQ.out _ (((((Upd.refl _ _).setCell (p := ⟨w.heap.size + 1, 0, none⟩) (by simp) (I (0))).setCell (p := ⟨w.heap.size + 1, 1, none⟩) (by simp) (I (N))).setCell (p := ⟨w.heap.size + 1, 2, none⟩) (by simp) (I (0))).setCell (p := ⟨w.heap.size + 1, 3, none⟩) (by simp) (S ([])))⟩
  | false =>
    go_enter Try.func19, Try.ntmps19
    go_wp2_with fail
    refine (hC _ b0).mono ?_
    rintro e w1 ⟨rfl, P1⟩
    have u1 := hU _ _ P1
    have BA1 := BA.upd u1 (by simp; omega)
    have z1 := u1.size
    simp only [World.size_alloc] at z1
    have hq : ∀ v', Upd [w.heap.size + 1] w1 v' → Q v' := fun v' k => hQ _ w1 v' b0 (by simp) P1 k
    have HQ : Hid _ := hq
    clear hm ho q3 u1 BA hq P1 hC hQ b0
    obtain ⟨g0, g1, g2⟩ := BA1.facts
    go_wp2
    have BZ := (((BA1.set (i := 0) (I (0))).set (i := 1) (I (N))).set (i := 2) (I (0))).set (i := 3) (S ([]))
    exact ret_row Try.results19 rfl rfl BZ Try.underlying40 rfl (by kernel_rfl) ⟨rfl, HQ.out _ (((((Upd.refl _ _).setCell (p := ⟨w.heap.size + 1, 0, none⟩) (by simp) (I (0))).setCell (p := ⟨w.heap.size + 1, 1, none⟩) (by simp) (I (N))).setCell (p := ⟨w.heap.size + 1, 2, none⟩) (by simp) (I (0))).setCell (p := ⟨w.heap.size + 1, 3, none⟩) (by simp) (S ([])))⟩
set_option maxRecDepth 100000 in
set_option maxHeartbeats 4000000 in
theorem do_14 {P : World → World → Prop} {Q : World → Prop} (w : World) (xb bm bo wi oi : Nat) (hX : Pair w xb bm bo wi oi) (A B C : Int) (s t : ByteArray) (N : Int) (c : Bool)
    (hU : ∀ a v, P a v → Upd [bm] a v) (hQ : ∀ a v v', Below w.heap.size w a → w.heap.size + 2 ≤ a.heap.size → P a v → Upd [w.heap.size + 1] v v' → Q v')
    (hC : ∀ v, Below w.heap.size w v → Calls Try.prog 39 #[ptr bm] v fun e w' => e = .returned (.tuple #[I N, .bool c]) ∧ P v w') :
    Calls Try.prog 19 #[.slice (some ⟨xb, 0, none⟩) 2 2, I wi, OpV 14 A B C s t] w fun e w' => e = .returned (AnsV (0) (N) (b2i c) ([])) ∧ Q w' := by
  have b0 := ((Below.refl w.heap.size w).alloc (Nat.le_refl _) (.cells #[I 14, I A, I B, I C, .string s, .string t] 31)).alloc (by simp) (.cells #[I 0, I 0, I 0, S []] 40)
  have BA : Blk ((w.alloc (.cells #[I 14, I A, I B, I C, .string s, .string t] 31)).alloc (.cells #[I 0, I 0, I 0, S []] 40)) (w.heap.size + 1) #[I 0, I 0, I 0, S []] 40 := Blk.new (by simp)
  have hm := hX.hm
  have ho := hX.ho
  have lx := hX.lx
  have lm := hX.lm
  have hsum := hX.sum
  have q1 : (wi : Int) < 2 := by omega
  have q2 : (oi : Int) < 2 := by omega
  have q3 : (1 : Int) - (wi : Int) = (oi : Int) := by omega
  have q4 := wr64 (oi : Int) (by omega) (by omega)
  have hn1 : xb ≠ w.heap.size := by omega
  have hn2 : xb ≠ w.heap.size + 1 := by omega
  clear hX
  cases a1 : (A == 1) with
  | true =>
    obtain rfl : A = 1 := by simpa using a1
    clear a1
    go_enter Try.func19, Try.ntmps19
    go_wp2_with fail
    refine (hC _ b0).mono ?_
    rintro e w1 ⟨rfl, P1⟩
    have u1 := hU _ _ P1
    have BA1 := BA.upd u1 (by simp; omega)
    have z1 := u1.size
    simp only [World.size_alloc] at z1
    have hq : ∀ v', Upd [w.heap.size + 1] w1 v' → Q v' := fun v' k => hQ _ w1 v' b0 (by simp) P1 k
    have HQ : Hid _ := hq
    clear hm ho q3 u1 BA hq P1 hC hQ b0
    go_wp2_with fail
    refine (B_any _ _).mono ?_
    rintro e w2 ⟨rfl, rfl⟩
    obtain ⟨g0, g1, g2⟩ := BA1.facts
    go_wp2
    have BZ := (((BA1.set (i := 0) (I (0))).set (i := 1) (I (N))).set (i := 2) (I (b2i c))).set (i := 3) (S ([]))
    exact ret_row Try.results19 rfl rfl BZ Try.underlying40 rfl (by kernel_rfl) ⟨rfl, HQ.out _ (((((Upd.refl _ _).setCell (p := ⟨w.heap.size + 1, 0, none⟩) (by simp) (I (0))).setCell (p := ⟨w.heap.size + 1, 1, none⟩) (by simp) (I (N))).setCell (p := ⟨w.heap.size + 1, 2, none⟩) (by simp) (I (b2i c))).setCell (p := ⟨w.heap.size + 1, 3, none⟩) (by simp) (S ([])))⟩
  | false =>
    go_enter Try.func19, Try.ntmps19
    go_wp2_with fail
    refine (hC _ b0).mono ?_
    rintro e w1 ⟨rfl, P1⟩
    have u1 := hU _ _ P1
    have BA1 := BA.upd u1 (by simp; omega)
    have z1 := u1.size
    simp only [World.size_alloc] at z1
    have hq : ∀ v', Upd [w.heap.size + 1] w1 v' → Q v' := fun v' k => hQ _ w1 v' b0 (by simp) P1 k
    have HQ : Hid _ := hq
    clear hm ho q3 u1 BA hq P1 hC hQ b0
    go_wp2_with fail
    refine (B_any _ _).mono ?_
    rintro e w2 ⟨rfl, rfl⟩
    obtain ⟨g0, g1, g2⟩ := BA1.facts
    go_wp2
    have BZ := (((BA1.set (i := 0) (I (0))).set (i := 1) (I (N))).set (i := 2) (I (b2i c))).set (i := 3) (S ([]))
    exact ret_row Try.results19 rfl rfl BZ Try.underlying40 rfl (by kernel_rfl) ⟨rfl, HQ.out _ (((((Upd.refl _ _).setCell (p := ⟨w.heap.size + 1, 0, none⟩) (by simp) (I (0))).setCell (p := ⟨w.heap.size + 1, 1, none⟩) (by simp) (I (N))).setCell (p := ⟨w.heap.size + 1, 2, none⟩) (by simp) (I (b2i c))).setCell (p := ⟨w.heap.size + 1, 3, none⟩) (by simp) (S ([])))⟩
set_option maxRecDepth 100000 in
set_option maxHeartbeats 4000000 in
theorem do_15 {P : World → World → Prop} {Q : World → Prop} (w : World) (xb bm bo wi oi : Nat) (hX : Pair w xb bm bo wi oi) (A B C : Int) (s t : ByteArray) (N : Int) (c : Bool)
    (hU : ∀ a v, P a v → Upd [bm] a v) (hQ : ∀ a v v', Below w.heap.size w a → w.heap.size + 2 ≤ a.heap.size → P a v → Upd [w.heap.size + 1] v v' → Q v')
    (hC : ∀ v, Below w.heap.size w v → Calls Try.prog 40 #[ptr bm] v fun e w' => e = .returned (.tuple #[I N, .bool c]) ∧ P v w') :
    Calls Try.prog 19 #[.slice (some ⟨xb, 0, none⟩) 2 2, I wi, OpV 15 A B C s t] w fun e w' => e = .returned (AnsV (0) (N) (b2i c) ([])) ∧ Q w' := by
  have b0 := ((Below.refl w.heap.size w).alloc (Nat.le_refl _) (.cells #[I 15, I A, I B, I C, .string s, .string t] 31)).alloc (by simp) (.cells #[I 0, I 0, I 0, S []] 40)
  have BA : Blk ((w.alloc (.cells #[I 15, I A, I B, I C, .string s, .string t] 31)).alloc (.cells #[I 0, I 0, I 0, S []] 40)) (w.heap.size + 1) #[I 0, I 0, I 0, S []] 40 := Blk.new (by simp)
  have hm := hX.hm
  have ho := hX.ho
  have lx := hX.lx
  have lm := hX.lm
  have hsum := hX.sum
  have q1 : (wi : Int) < 2 := by omega
  have q2 : (oi : Int) < 2 := by omega
  have q3 : (1 : Int) - (wi : Int) = (oi : Int) := by omega
  have q4 := wr64 (oi : Int) (by omega) (by omega)
  have hn1 : xb ≠ w.heap.size := by omega
  have hn2 : xb ≠ w.heap.size + 1 := by omega
  clear hX
  cases a1 : (A == 1) with
  | true =>
    obtain rfl : A = 1 := by simpa using a1
    clear a1
    go_enter Try.func19, Try.ntmps19
    go_wp2_with fail
    refine (hC _ b0).mono ?_
    rintro e w1 ⟨rfl, P1⟩
    have u1 := hU _ _ P1
    have BA1 := BA.upd u1 (by simp; omega)
    have z1 := u1.size
    simp only [World.size_alloc] at z1
    have hq : ∀ v', Upd [w.heap.size + 1] w1 v' → Q v' := fun v' k => hQ _ w1 v' b0 (by simp) P1 k
    have HQ : Hid _ := hq
    clear hm ho q3 u1 BA hq P1 hC hQ b0
    go_wp2_with fail
    refine (B_any _ _).mono ?_
    rintro e w2 ⟨rfl, rfl⟩
    obtain ⟨g0, g1, g2⟩ := BA1.facts
    go_wp2
    have BZ := (((BA1.set (i := 0) (I (0))).set (i := 1) (I (N))).set (i := 2) (I (b2i c))).set (i := 3) (S ([]))
    exact ret_row Try.results19 rfl rfl BZ Try.underlying40 rfl (by kernel_rfl) ⟨rfl, HQ.out _ (((((Upd.refl _ _).setCell (p := ⟨w.heap.size + 1, 0, none⟩) (by simp) (I (0))).setCell (p := ⟨w.heap.size + 1, 1, none⟩) (by simp) (I (N))).setCell (p := ⟨w.heap.size + 1, 2, none⟩) (by simp) (I (b2i c))).setCell (p := ⟨w.heap.size + 1, 3, none⟩) (by simp) (S ([])))⟩
  | false =>
    go_enter Try.func19, Try.ntmps19
    go_wp2_with fail
    refine (hC _ b0).mono ?_
    rintro e w1 ⟨rfl, P1⟩
    have u1 := hU _ _ P1
    have BA1 := BA.upd u1 (by simp; omega)
    have z1 := u1.size
    simp only [World.size_alloc] at z1
    have hq : ∀ v', Upd [w.heap.size + 1] w1 v' → Q v' := fun v' k => hQ _ w1 v' b0 (by simp) P1 k
    have HQ : Hid _ := hq
    clear hm ho q3 u1 BA hq P1 hC hQ b0
    go_wp2_with fail
    refine (B_any _ _).mono ?_
    rintro e w2 ⟨rfl, rfl⟩
    obtain ⟨g0, g1, g2⟩ := BA1.facts
    go_wp2
    have BZ := (((BA1.set (i := 0) (I (0))).set (i := 1) (I (N))).set (i := 2) (I (b2i c))).set (i := 3) (S ([]))
    exact ret_row Try.results19 rfl rfl BZ Try.underlying40 rfl (by kernel_rfl) ⟨rfl, HQ.out _ (((((Upd.refl _ _).setCell (p := ⟨w.heap.size + 1, 0, none⟩) (by simp) (I (0))).setCell (p := ⟨w.heap.size + 1, 1, none⟩) (by simp) (I (N))).setCell (p := ⟨w.heap.size + 1, 2, none⟩) (by simp) (I (b2i c))).setCell (p := ⟨w.heap.size + 1, 3, none⟩) (by simp) (S ([])))⟩
set_option maxRecDepth 100000 in
set_option maxHeartbeats 4000000 in
theorem do_19 {P : World → World → Prop} {Q : World → Prop} (w : World) (xb bm bo wi oi : Nat) (hX : Pair w xb bm bo wi oi) (A B C : Int) (s t : ByteArray) (a p q : Int) (h1 : -9223372036854775808 ≤ q) (h2 : q ≤ 9223372036854775807)
    (hU : ∀ a v, P a v → Upd [bm] a v) (hQ : ∀ a v v', Below w.heap.size w a → w.heap.size + 2 ≤ a.heap.size → P a v → Upd [w.heap.size + 1] v v' → Q v')
    (hC : ∀ v, Below w.heap.size w v → Calls Try.prog 28 #[ptr bm] v fun e w' => e = .returned (.tuple #[I a, I p, I q]) ∧ P v w') :
    Calls Try.prog 19 #[.slice (some ⟨xb, 0, none⟩) 2 2, I wi, OpV 19 A B C s t] w fun e w' => e = .returned (AnsV (0) (a) (p) (itoa q)) ∧ Q w' := by
  have b0 := ((Below.refl w.heap.size w).alloc (Nat.le_refl _) (.cells #[I 19, I A, I B, I C, .string s, .string t] 31)).alloc (by simp) (.cells #[I 0, I 0, I 0, S []] 40)
  have BA : Blk ((w.alloc (.cells #[I 19, I A, I B, I C, .string s, .string t] 31)).alloc (.cells #[I 0, I 0, I 0, S []] 40)) (w.heap.size + 1) #[I 0, I 0, I 0, S []] 40 := Blk.new (by simp)
  have hm := hX.hm
  have ho := hX.ho
  have lx := hX.lx
  have lm := hX.lm
  have hsum := hX.sum
  have q1 : (wi : Int) < 2 := by omega
  have q2 : (oi : Int) < 2 := by omega
  have q3 : (1 : Int) - (wi : Int) = (oi : Int) := by omega
  have q4 := wr64 (oi : Int) (by omega) (by omega)
  have hn1 : xb ≠ w.heap.size := by omega
  have hn2 : xb ≠ w.heap.size + 1 := by omega
  clear hX
  cases a1 : (A == 1) with
  | true =>
    obtain rfl : A = 1 := by simpa using a1
    clear a1
    go_enter Try.func19, Try.ntmps19
    go_wp2_with fail
    refine (hC _ b0).mono ?_
    rintro e w1 ⟨rfl, P1⟩
    have u1 := hU _ _ P1
    have BA1 := BA.upd u1 (by simp; omega)
    have z1 := u1.size
    simp only [World.size_alloc] at z1
    have hq : ∀ v', Upd [w.heap.size + 1] w1 v' → Q v' := fun v' k => hQ _ w1 v' b0 (by simp) P1 k
    have HQ : Hid _ := hq
    clear hm ho q3 u1 BA hq P1 hC hQ b0
    go_wp2_with fail
    refine (itoa_any q (by omega) (by omega) _).mono ?_
    rintro e w2 ⟨rfl, d2⟩
    have BA2 := BA1.below d2 BA1.lt
    obtain ⟨g0, g1, g2⟩ := BA2.facts
    go_wp2
    have BZ := (((BA2.set (i := 0) (I (0))).set (i := 1) (I (a))).set (i := 2) (I (p))).set (i := 3) (S (itoa q))
    exact ret_row Try.results19 rfl rfl BZ Try.underlying40 rfl (by kernel_rfl) ⟨rfl, HQ.out _ (((((Upd.of_below d2).setCell (p := ⟨w.heap.size + 1, 0, none⟩) (by simp) (I (0))).setCell (p := ⟨w.heap.size + 1, 1, none⟩) (by simp) (I (a))).setCell (p := ⟨w.heap.size + 1, 2, none⟩) (by simp) (I (p))).setCell (p := ⟨w.heap.size + 1, 3, none⟩) (by simp) (S (itoa q)))⟩
  | false =>
    go_enter Try.func19, Try.ntmps19
    go_wp2_with fail
    refine (hC _ b0).mono ?_
    rintro e w1 ⟨rfl, P1⟩
    have u1 := hU _ _ P1
    have BA1 := BA.upd u1 (by simp; omega)
    have z1 := u1.size
    simp only [World.size_alloc] at z1
    have hq : ∀ v', Upd [w.heap.size + 1] w1 v' → Q v' := fun v' k => hQ _ w1 v' b0 (by simp) P1 k
    have HQ : Hid _ := hq
    clear hm ho q3 u1 BA hq P1 hC hQ b0
    go_wp2_with fail
    refine (itoa_any q (by omega) (by omega) _).mono ?_
    rintro e w2 ⟨rfl, d2⟩
    have BA2 := BA1.below d2 BA1.lt
    obtain ⟨g0, g1, g2⟩ := BA2.facts
    go_wp2
    have BZ := (((BA2.set (i := 0) (I (0))).set (i := 1) (I (a))).set (i := 2) (I (p))).set (i := 3) (S (itoa q))
    exact ret_row Try.results19 rfl rfl BZ Try.underlying40 rfl (by kernel_rfl) ⟨rfl, HQ.out _ (((((Upd.of_below d2).setCell (p := ⟨w.heap.size + 1, 0, none⟩) (by simp) (I (0))).setCell (p := ⟨w.heap.size + 1, 1, none⟩) (by simp) (I (a))).setCell (p := ⟨w.heap.size + 1, 2, none⟩) (by simp) (I (p))).setCell (p := ⟨w.heap.size + 1, 3, none⟩) (by simp) (S (itoa q)))⟩
set_option maxRecDepth 100000 in
set_option maxHeartbeats 4000000 in
theorem do_21 {P : World → World → Prop} {Q : World → Prop} (w : World) (xb bm bo wi oi : Nat) (hX : Pair w xb bm bo wi oi) (A B C : Int) (s t : ByteArray) (T : List UInt8)
    (hU : ∀ a v, P a v → Upd [bm] a v) (hQ : ∀ a v v', Below w.heap.size w a → w.heap.size + 2 ≤ a.heap.size → P a v → Upd [w.heap.size + 1] v v' → Q v')
    (hC : ∀ v, Below w.heap.size w v → Calls Try.prog 17 #[ptr bm] v fun e w' => e = .returned (S T) ∧ P v w') :
    Calls Try.prog 19 #[.slice (some ⟨xb, 0, none⟩) 2 2, I wi, OpV 21 A B C s t] w fun e w' => e = .returned (AnsV (0) (0) (0) (T)) ∧ Q w' := by
  have b0 := ((Below.refl w.heap.size w).alloc (Nat.le_refl _) (.cells #[I 21, I A, I B, I C, .string s, .string t] 31)).alloc (by simp) (.cells #[I 0, I 0, I 0, S []] 40)
  have BA : Blk ((w.alloc (.cells #[I 21, I A, I B, I C, .string s, .string t] 31)).alloc (.cells #[I 0, I 0, I 0, S []] 40)) (w.heap.size + 1) #[I 0, I 0, I 0, S []] 40 := Blk.new (by simp)
  have hm := hX.hm
  have ho := hX.ho
  have lx := hX.lx
  have lm := hX.lm
  have hsum := hX.sum
  have q1 : (wi : Int) < 2 := by omega
  have q2 : (oi : Int) < 2 := by omega
  have q3 : (1 : Int) - (wi : Int) = (oi : Int) := by omega
  have q4 := wr64 (oi : Int) (by omega) (by omega)
  have hn1 : xb ≠ w.heap.size := by omega
  have hn2 : xb ≠ w.heap.size + 1 := by omega
  clear hX
  cases a1 : (A == 1) with
  | true =>
    obtain rfl : A = 1 := by simpa using a1
    clear a1
    go_enter Try.func19, Try.ntmps19
    go_wp2_with fail
    refine (hC _ b0).mono ?_
    rintro e w1 ⟨rfl, P1⟩
    have u1 := hU _ _ P1
    have BA1 := BA.upd u1 (by simp; omega)
    have z1 := u1.size
    simp only [World.size_alloc] at z1
    have hq : ∀ v', Upd [w.heap.size + 1] w1 v' → Q v' := fun v' k => hQ _ w1 v' b0 (by simp) P1 k
    have HQ : Hid _ := hq
    clear hm ho q3 u1 BA hq P1 hC hQ b0
    obtain ⟨g0, g1, g2⟩ := BA1.facts
    go_wp2
    have BZ := (((BA1.set (i := 0) (I (0))).set (i := 1) (I (0))).set (i := 2) (I (0))).set (i := 3) (S (T))
    exact ret_row Try.results19 rfl rfl BZ Try.underlying40 rfl (by kernel_rfl) ⟨rfl, HQ.out _ (((((Upd.refl _ _).setCell (p := ⟨w.heap.size + 1, 0, none⟩) (by simp) (I (0))).setCell (p := ⟨w.heap.size + 1, 1, none⟩) (by simp) (I (0))).setCell (p := ⟨w.heap.size + 1, 2, none⟩) (by simp) (I (0))).setCell (p := ⟨w.heap.size + 1, 3, none⟩) (by simp) (S (T)))⟩
  | false =>
    go_enter Try.func19, Try.ntmps19
    go_wp2_with fail
    refine (hC _ b0).mono ?_
    rintro e w1 ⟨rfl, P1⟩
    have u1 := hU _ _ P1
    have BA1 := BA.upd u1 (by simp; omega)
    have z1 := u1.size
    simp only [World.size_alloc] at z1
    have hq : ∀ v', Upd [w.heap.size + 1] w1 v' → Q v' := fun v' k => hQ _ w1 v' b0 (by simp) P1 k
    have HQ : Hid _ := hq
    clear hm ho q3 u1 BA hq P1 hC hQ b0
    obtain ⟨g0, g1, g2⟩ := BA1.facts
    go_wp2
    have BZ := (((BA1.set (i := 0) (I (0))).set (i := 1) (I (0))).set (i := 2) (I (0))).set (i := 3) (S (T))
    exact ret_row Try.results19 rfl rfl BZ Try.underlying40 rfl (by kernel_rfl) ⟨rfl, HQ.out _ (((((Upd.refl _ _).setCell (p := ⟨w.heap.size + 1, 0, none⟩) (by simp) (I (0))).setCell (p := ⟨w.heap.size + 1, 1, none⟩) (by simp) (I (0))).setCell (p := ⟨w.heap.size + 1, 2, none⟩) (by simp) (I (0))).setCell (p := ⟨w.heap.size + 1, 3, none⟩) (by simp) (S (T)))⟩
end Go.Proofs.Qxb6500469a
