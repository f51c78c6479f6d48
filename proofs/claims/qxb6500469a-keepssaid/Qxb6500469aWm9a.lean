import Derived.Test.Qxb6500469aWd8
namespace Go.Proofs.Qxb6500469a
open Go.RowKit

set_option maxRecDepth 100000 in
set_option maxHeartbeats 4000000 in
theorem dom_3 {P : World → World → Prop} {Q : World → Prop} (w : World) (xb bm bo wi oi : Nat) (hX : Pair w xb bm bo wi oi) (A B C : Int) (s t : ByteArray) (E : Int)
    (hU : ∀ a v, P a v → Upd [bm] a v) (hQ : ∀ a v v', Below w.heap.size w a → w.heap.size + 2 ≤ a.heap.size → P a v → Upd [w.heap.size + 1] v v' → Q v')
    (hC : ∀ v, Below w.heap.size w v → Calls Try.prog 64 #[ptr bm, I A] v fun e w' => e = .returned (I E) ∧ P v w') :
    Calls Try.prog 56 #[.slice (some ⟨xb, 0, none⟩) 2 2, I wi, OpV 3 A B C s t] w fun e w' => e = .returned (AnsV (E) (0) (0) ([])) ∧ Q w' := by
  have b0 := ((Below.refl w.heap.size w).alloc (Nat.le_refl _) (.cells #[I 3, I A, I B, I C, .string s, .string t] 31)).alloc (by simp) (.cells #[I 0, I 0, I 0, S []] 40)
  have BA : Blk ((w.alloc (.cells #[I 3, I A, I B, I C, .string s, .string t] 31)).alloc (.cells #[I 0, I 0, I 0, S []] 40)) (w.heap.size + 1) #[I 0, I 0, I 0, S []] 40 := Blk.new (by simp)
  have hm := hX.hm
  have ho := hX.ho
  have lx := hX.lx
  have lm := hX.lm
  have hsum := hX.sum
  have q1 : (wi : Int) < 2 := by omega
  have q2 : (oi : Int) < 2 := by omega
  have q3 : (1 : Int) - (wi : Int) = (oi : Int) := by omega
  have q4 := wr64 (oi : Int) (by omega) (by omega)
  have hn1 : xb ≠ w.heap.size := by omega
  have hn2 : xb ≠ w.heap.size + 1 := by omega
  clear hX
  cases a1 : (A == 1) with
  | true =>
    obtain rfl : A = 1 := by simpa using a1
    clear a1
    go_enter Try.func56, Try.ntmps56
    go_wp2_with fail
    refine (hC _ b0).mono ?_
    rintro e w1 ⟨rfl, P1⟩
    have u1 := hU _ _ P1
    have BA1 := BA.upd u1 (by simp; omega)
    have z1 := u1.size
    simp only [World.size_alloc] at z1
    have hq : ∀ v', Upd [w.heap.size + 1] w1 v' → Q v' := fun v' k => hQ _ w1 v' b0 (by simp) P1 k
    have HQ : Hid _ := hq
    clear hm ho q3 u1 BA hq P1 hC hQ b0
    obtain ⟨g0, g1, g2⟩ := BA1.facts
    go_wp2
    have BZ := (((BA1.set (i := 0) (I (E))).set (i := 1) (I (0))).set (i := 2) (I (0))).set (i := 3) (S ([]))
    exact ret_row Try.results56 rfl rfl BZ Try.underlying40 rfl (by kernel_rfl) ⟨rfl, HQ.out _ (((((Upd.refl _ _).setCell (p := ⟨w.heap.size + 1, 0, none⟩) (by simp) (I (E))).setCell (p := ⟨w.heap.size + 1, 1, none⟩) (by simp) (I (0))).setCell (p := ⟨w.heap.size + 1, 2, none⟩) (by simp) (I (0))).setCell (p := ⟨w.heap.size + 1, 3, none⟩) (by simp) (S ([])))⟩
  | false =>
    go_enter Try.func56, Try.ntmps56
    go_wp2_with fail
    refine (hC _ b0).mono ?_
    rintro e w1 ⟨rfl, P1⟩
    have u1 := hU _ _ P1
    have BA1 := BA.upd u1 (by simp; omega)
    have z1 := u1.size
    simp only [World.size_alloc] at z1
    have hq : ∀ v', Upd [w.heap.size + 1] w1 v' → Q v' := fun v' k => hQ _ w1 v' b0 (by simp) P1 k
    have HQ : Hid _ := hq
    clear hm ho q3 u1 BA hq P1 hC hQ b0
    obtain ⟨g0, g1, g2⟩ := BA1.facts
    go_wp2
    have BZ := (((BA1.set (i := 0) (I (E))).set (i := 1) (I (0))).set (i := 2) (I (0))).set (i := 3) (S ([]))
    exact ret_row Try.results56 rfl rfl BZ Try.underlying40 rfl (by kernel_rfl) ⟨rfl, HQ.out _ (((((Upd.refl _ _).setCell (p := ⟨w.heap.size + 1, 0, none⟩) (by simp) (I (E))).setCell (p := ⟨w.heap.size + 1, 1, none⟩) (by simp) (I (0))).setCell (p := ⟨w.heap.size + 1, 2, none⟩) (by simp) (I (0))).setCell (p := ⟨w.heap.size + 1, 3, none⟩) (by simp) (S ([])))⟩
set_option maxRecDepth 100000 in
set_option maxHeartbeats 4000000 in
theorem dom_4 {P : World → World → Prop} {Q : World → Prop} (w : World) (xb bm bo wi oi : Nat) (hX : Pair w xb bm bo wi oi) (A B C : Int) (s t : ByteArray) (E : Int)
    (hU : ∀ a v, P a v → Upd [bm] a v) (hQ : ∀ a v v', Below w.heap.size w a → w.heap.size + 2 ≤ a.heap.size → P a v → Upd [w.heap.size + 1] v v' → Q v')
    (hC : ∀ v, Below w.heap.size w v → Calls Try.prog 65 #[ptr bm, I A] v fun e w' => e = .returned (I E) ∧ P v w') :
    Calls Try.prog 56 #[.slice (some ⟨xb, 0, none⟩) 2 2, I wi, OpV 4 A B C s t] w fun e w' => e = .returned (AnsV (E) (0) (0) ([])) ∧ Q w' := by
  have b0 := ((Below.refl w.heap.size w).alloc (Nat.le_refl _) (.cells #[I 4, I A, I B, I C, .string s, .string t] 31)).alloc (by simp) (.cells #[I 0, I 0, I 0, S []] 40)
  have BA : Blk ((w.alloc (.cells #[I 4, I A, I B, I C, .string s, .string t] 31)).alloc (.cells #[I 0, I 0, I 0, S []] 40)) (w.heap.size + 1) #[I 0, I 0, I 0, S []] 40 := Blk.new (by simp)
  have hm := hX.hm
  have ho := hX.ho
  have lx := hX.lx
  have lm := hX.lm
  have hsum := hX.sum
  have q1 : (wi : Int) < 2 := by omega
  have q2 : (oi : Int) < 2 := by omega
  have q3 : (1 : Int) - (wi : Int) = (oi : Int) := by omega
  have q4 := wr64 (oi : Int) (by omega) (by omega)
  have hn1 : xb ≠ w.heap.size := by omega
  have hn2 : xb ≠ w.heap.size + 1 := by omega
  clear hX
  cases a1 : (A == 1) with
  | true =>
    obtain rfl : A = 1 := by simpa using a1
    clear a1
    go_enter Try.func56, Try.ntmps56
    go_wp2_with fail
    refine (hC _ b0).mono ?_
    rintro e w1 ⟨rfl, P1⟩
    have u1 := hU _ _ P1
    have BA1 := BA.upd u1 (by simp; omega)
    have z1 := u1.size
    simp only [World.size_alloc] at z1
    have hq : ∀ v', Upd [w.heap.size + 1] w1 v' → Q v' := fun v' k => hQ _ w1 v' b0 (by simp) P1 k
    have HQ : Hid _ := hq
    clear hm ho q3 u1 BA hq P1 hC hQ b0
    obtain ⟨g0, g1, g2⟩ := BA1.facts
    go_wp2
    have BZ := (((BA1.set (i := 0) (I (E))).set (i := 1) (I (0))).set (i := 2) (I (0))).set (i := 3) (S ([]))
    exact ret_row Try.results56 rfl rfl BZ Try.underlying40 rfl (by kernel_rfl) ⟨rfl, HQ.out _ (((((Upd.refl _ _).setCell (p := ⟨w.heap.size + 1, 0, none⟩) (by simp) (I (E))).setCell (p := ⟨w.heap.size + 1, 1, none⟩) (by simp) (I (0))).setCell (p := ⟨w.heap.size + 1, 2, none⟩) (by simp) (I (0))).setCell (p := ⟨w.heap.size + 1, 3, none⟩) (by simp) (S ([])))⟩
  | false =>
    go_enter Try.func56, Try.ntmps56
    go_wp2_with fail
    refine (hC _ b0).mono ?_
    rintro e w1 ⟨rfl, P1⟩
    have u1 := hU _ _ P1
    have BA1 := BA.upd u1 (by simp; omega)
    have z1 := u1.size
    simp only [World.size_alloc] at z1
    have hq : ∀ v', Upd [w.heap.size + 1] w1 v' → Q v' := fun v' k => hQ _ w1 v' b0 (by simp) P1 k
    have HQ : Hid _ := hq
    clear hm ho q3 u1 BA hq P1 hC hQ b0
    obtain ⟨g0, g1, g2⟩ := BA1.facts
    go_wp2
    have BZ := (((BA1.set (i := 0) (I (E))).set (i := 1) (I (0))).set (i := 2) (I (0))).set (i := 3) (S ([]))
    exact ret_row Try.results56 rfl rfl BZ Try.underlying40 rfl (by kernel_rfl) ⟨rfl, HQ.out _ (((((Upd.refl _ _).setCell (p := ⟨w.heap.size + 1, 0, none⟩) (by simp) (I (E))).setCell (p := ⟨w.heap.size + 1, 1, none⟩) (by simp) (I (0))).setCell (p := ⟨w.heap.size + 1, 2, none⟩) (by simp) (I (0))).setCell (p := ⟨w.heap.size + 1, 3, none⟩) (by simp) (S ([])))⟩
set_option maxRecDepth 100000 in
set_option maxHeartbeats 4000000 in
theorem dom_5 {P : World → World → Prop} {Q : World → Prop} (w : World) (xb bm bo wi oi : Nat) (hX : Pair w xb bm bo wi oi) (A B C : Int) (s t : ByteArray) (E : Int)
    (hU : ∀ a v, P a v → Upd [bm] a v) (hQ : ∀ a v v', Below w.heap.size w a → w.heap.size + 2 ≤ a.heap.size → P a v → Upd [w.heap.size + 1] v v' → Q v')
    (hC : ∀ v, Below w.heap.size w v → Calls Try.prog 66 #[ptr bm, I A] v fun e w' => e = .returned (I E) ∧ P v w') :
    Calls Try.prog 56 #[.slice (some ⟨xb, 0, none⟩) 2 2, I wi, OpV 5 A B C s t] w fun e w' => e = .returned (AnsV (E) (0) (0) ([])) ∧ Q w' := by
  have b0 := ((Below.refl w.heap.size w).alloc (Nat.le_refl _) (.cells #[I 5, I A, I B, I C, .string s, .string t] 31)).alloc (by simp) (.cells #[I 0, I 0, I 0, S []] 40)
  have BA : Blk ((w.alloc (.cells #[I 5, I A, I B, I C, .string s, .string t] 31)).alloc (.cells #[I 0, I 0, I 0, S []] 40)) (w.heap.size + 1) #[I 0, I 0, I 0, S []] 40 := Blk.new (by simp)
  have hm := hX.hm
  have ho := hX.ho
  have lx := hX.lx
  have lm := hX.lm
  have hsum := hX.sum
  have q1 : (wi : Int) < 2 := by omega
  have q2 : (oi : Int) < 2 := by omega
  have q3 : (1 : Int) - (wi : Int) = (oi : Int) := by omega
  have q4 := wr64 (oi : Int) (by omega) (by omega)
  have hn1 : xb ≠ w.heap.size := by omega
  have hn2 : xb ≠ w.heap.size + 1 := by omega
  clear hX
  cases a1 : (A == 1) with
  | true =>
    obtain rfl : A = 1 := by simpa using a1
    clear a1
    go_enter Try.func56, Try.ntmps56
    go_wp2_with fail
    refine (hC _ b0).mono ?_
    rintro e w1 ⟨rfl, P1⟩
    have u1 := hU _ _ P1
    have BA1 := BA.upd u1 (by simp; omega)
    have z1 := u1.size
    simp only [World.size_alloc] at z1
    have hq : ∀ v', Upd [w.heap.size + 1] w1 v' → Q v' := fun v' k => hQ _ w1 v' b0 (by simp) P1 k
    have HQ : Hid _ := hq
    clear hm ho q3 u1 BA hq P1 hC hQ b0
    obtain ⟨g0, g1, g2⟩ := BA1.facts
    go_wp2
    have BZ := (((BA1.set (i := 0) (I (E))).set (i := 1) (I (0))).set (i := 2) (I (0))).set (i := 3) (S ([]))
    exact ret_row Try.results56 rfl rfl BZ Try.underlying40 rfl (by kernel_rfl) ⟨rfl, HQ.out _ (((((Upd.refl _ _).setCell (p := ⟨w.heap.size + 1, 0, none⟩) (by simp) (I (E))).setCell (p := ⟨w.heap.size + 1, 1, none⟩) (by simp) (I (0))).setCell (p := ⟨w.heap.size + 1, 2, none⟩) (by simp) (I (0))).setCell (p := ⟨w.heap.size + 1, 3, none⟩) (by simp) (S ([])))⟩
  | false =>
    go_enter Try.func56, Try.ntmps56
    go_wp2_with fail
    refine (hC _ b0).mono ?_
    rintro e w1 ⟨rfl, P1⟩
    have u1 := hU _ _ P1
    have BA1 := BA.upd u1 (by simp; omega)
    have z1 := u1.size
    simp only [World.size_alloc] at z1
    have hq : ∀ v', Upd [w.heap.size + 1] w1 v' → Q v' := fun v' k => hQ _ w1 v' b0 (by simp) P1 k
    have HQ : Hid _ := hq
    clear hm ho q3 u1 BA hq P1 hC hQ b0
    obtain ⟨g0, g1, g2⟩ := BA1.facts
    go_wp2
    have BZ := (((BA1.set (i := 0) (I (E))).set (i := 1) (I (0))).set (i := 2) (I (0))).set (i := 3) (S ([]))
    exact ret_row Try.results56 rfl rfl BZ Try.underlying40 rfl (by kernel_rfl) ⟨rfl, HQ.out _ (((((Upd.refl _ _).setCell (p := ⟨w.heap.size + 1, 0, none⟩) (by simp) (I (E))).setCell (p := ⟨w.heap.size + 1, 1, none⟩) (by simp) (I (0))).setCell (p := ⟨w.heap.size + 1, 2, none⟩) (by simp) (I (0))).setCell (p := ⟨w.heap.size + 1, 3, none⟩) (by simp) (S ([])))⟩
set_option maxRecDepth 100000 in
set_option maxHeartbeats 4000000 in
theorem dom_11 {P : World → World → Prop} {Q : World → Prop} (w : World) (xb bm bo wi oi : Nat) (hX : Pair w xb bm bo wi oi) (A B C : Int) (s t : ByteArray) (E : Int)
    (hU : ∀ a v, P a v → Upd [bm] a v) (hQ : ∀ a v v', Below w.heap.size w a → w.heap.size + 2 ≤ a.heap.size → P a v → Upd [w.heap.size + 1] v v' → Q v')
    (hC : ∀ v, Below w.heap.size w v → Calls Try.prog 72 #[ptr bm, I A] v fun e w' => e = .returned (I E) ∧ P v w') :
    Calls Try.prog 56 #[.slice (some ⟨xb, 0, none⟩) 2 2, I wi, OpV 11 A B C s t] w fun e w' => e = .returned (AnsV (E) (0) (0) ([])) ∧ Q w' := by
  have b0 := ((Below.refl w.heap.size w).alloc (Nat.le_refl _) (.cells #[I 11, I A, I B, I C, .string s, .string t] 31)).alloc (by simp) (.cells #[I 0, I 0, I 0, S []] 40)
  have BA : Blk ((w.alloc (.cells #[I 11, I A, I B, I C, .string s, .string t] 31)).alloc (.cells #[I 0, I 0, I 0, S []] 40)) (w.heap.size + 1) #[I 0, I 0, I 0, S []] 40 := Blk.new (by simp)
  have hm := hX.hm
  have ho := hX.ho
  have lx := hX.lx
  have lm := hX.lm
  have hsum := hX.sum
  have q1 : (wi : Int) < 2 := by omega
  have q2 : (oi : Int) < 2 := by omega
  have q3 : (1 : Int) - (wi : Int) = (oi : Int) := by omega
  have q4 := wr64 (oi : Int) (by omega) (by omega)
  have hn1 : xb ≠ w.heap.size := by omega
  have hn2 : xb ≠ w.heap.size + 1 := by omega
  clear hX
  cases a1 : (A == 1) with
  | true =>
    obtain rfl : A = 1 := by simpa using a1
    clear a1
    go_enter Try.func56, Try.ntmps56
    go_wp2_with fail
    refine (hC _ b0).mono ?_
    rintro e w1 ⟨rfl, P1⟩
    have u1 := hU _ _ P1
    have BA1 := BA.upd u1 (by simp; omega)
    have z1 := u1.size
    simp only [World.size_alloc] at z1
    have hq : ∀ v', Upd [w.heap.size + 1] w1 v' → Q v' := fun v' k => hQ _ w1 v' b0 (by simp) P1 k
    have HQ : Hid _ := hq
    clear hm ho q3 u1 BA hq P1 hC hQ b0
    obtain ⟨g0, g1, g2⟩ := BA1.facts
    go_wp2
    have BZ := (((BA1.set (i := 0) (I (E))).set (i := 1) (I (0))).set (i := 2) (I (0))).set (i := 3) (S ([]))
    exact ret_row Try.results56 rfl rfl BZ Try.underlying40 rfl (by kernel_rfl) ⟨rfl, HQ.out _ (((((Upd.refl _ _).setCell (p := ⟨w.heap.size + 1, 0, none⟩) (by simp) (I (E))).setCell (p := ⟨w.heap.size + 1, 1, none⟩) (by simp) (I (0))).setCell (p := ⟨w.heap.size + 1, 2, none⟩) (by simp) (I (0))).setCell (p := ⟨w.heap.size + 1, 3, none⟩) (by simp) (S ([])))⟩
  | false =>
    go_enter Try.func56, Try.ntmps56
    go_wp2_with fail
    refine (hC _ b0).mono ?_
    rintro e w1 ⟨rfl, P1⟩
    have u1 := hU _ _ P1
    have BA1 := BA.upd u1 (by simp; omega)
    have z1 := u1.size
    simp only [World.size_alloc] at z1
    have hq : ∀ v', Upd [w.heap.size + 1] w1 v' → Q v' := fun v' k => hQ _ w1 v' b0 (by simp) P1 k
    have HQ : Hid _ := hq
    clear hm ho q3 u1 BA hq P1 hC hQ b0
    obtain ⟨g0, g1, g2⟩ := BA1.facts
    go_wp2
    have BZ := (((BA1.set (i := 0) (I (E))).set (i := 1) (I (0))).set (i := 2) (I (0))).set (i := 3) (S ([]))
    exact ret_row Try.results56 rfl rfl BZ Try.underlying40 rfl (by kernel_rfl) ⟨rfl, HQ.out _ (((((Upd.refl _ _).setCell (p := ⟨w.heap.size + 1, 0, none⟩) (by simp) (I (E))).setCell (p := ⟨w.heap.size + 1, 1, none⟩) (by simp) (I (0))).setCell (p := ⟨w.heap.size + 1, 2, none⟩) (by simp) (I (0))).setCell (p := ⟨w.heap.size + 1, 3, none⟩) (by simp) (S ([])))⟩
set_option maxRecDepth 100000 in
set_option maxHeartbeats 4000000 in
theorem dom_6 {P : World → World → Prop} {Q : World → Prop} (w : World) (xb bm bo wi oi : Nat) (hX : Pair w xb bm bo wi oi) (A B C : Int) (s t : ByteArray) (c : Bool)
    (hU : ∀ a v, P a v → Upd [bm] a v) (hQ : ∀ a v v', Below w.heap.size w a → w.heap.size + 2 ≤ a.heap.size → P a v → Upd [w.heap.size + 1] v v' → Q v')
    (hC : ∀ v, Below w.heap.size w v → Calls Try.prog 67 #[ptr bm, I A] v fun e w' => e = .returned (.bool c) ∧ P v w') :
    Calls Try.prog 56 #[.slice (some ⟨xb, 0, none⟩) 2 2, I wi, OpV 6 A B C s t] w fun e w' => e = .returned (AnsV (0) (b2i c) (0) ([])) ∧ Q w' := by
  have b0 := ((Below.refl w.heap.size w).alloc (Nat.le_refl _) (.cells #[I 6, I A, I B, I C, .string s, .string t] 31)).alloc (by simp) (.cells #[I 0, I 0, I 0, S []] 40)
  have BA : Blk ((w.alloc (.cells #[I 6, I A, I B, I C, .string s, .string t] 31)).alloc (.cells #[I 0, I 0, I 0, S []] 40)) (w.heap.size + 1) #[I 0, I 0, I 0, S []] 40 := Blk.new (by simp)
  have hm := hX.hm
  have ho := hX.ho
  have lx := hX.lx
  have lm := hX.lm
  have hsum := hX.sum
  have q1 : (wi : Int) < 2 := by omega
  have q2 : (oi : Int) < 2 := by omega
  have q3 : (1 : Int) - (wi : Int) = (oi : Int) := by omega
  have q4 := wr64 (oi : Int) (by omega) (by omega)
  have hn1 : xb ≠ w.heap.size := by omega
  have hn2 : xb ≠ w.heap.size + 1 := by omega
  clear hX
  cases a1 : (A == 1) with
  | true =>
    obtain rfl : A = 1 := by simpa using a1
    clear a1
    go_enter Try.func56, Try.ntmps56
    go_wp2_with fail
    refine (hC _ b0).mono ?_
    rintro e w1 ⟨rfl, P1⟩
    have u1 := hU _ _ P1
    have BA1 := BA.upd u1 (by simp; omega)
    have z1 := u1.size
    simp only [World.size_alloc] at z1
    have hq : ∀ v', Upd [w.heap.size + 1] w1 v' → Q v' := fun v' k => hQ _ w1 v' b0 (by simp) P1 k
    have HQ : Hid _ := hq
    clear hm ho q3 u1 BA hq P1 hC hQ b0
    go_wp2_with fail
    refine (B_any _ _).mono ?_
    rintro e w2 ⟨rfl, rfl⟩
    obtain ⟨g0, g1, g2⟩ := BA1.facts
    go_wp2
    have BZ := (((BA1.set (i := 0) (I (0))).set (i := 1) (I (b2i c))).set (i := 2) (I (0))).set (i := 3) (S ([]))
    exact ret_row Try.results56 rfl rfl BZ Try.underlying40 rfl (by kernel_rfl) ⟨rfl, HQ.out _ (((((Upd.refl _ _).setCell (p := ⟨w.heap.size + 1, 0, none⟩) (by simp) (I (0))).setCell (p := ⟨w.heap.size + 1, 1, none⟩) (by simp) (I (b2i c))).setCell (p := ⟨w.heap.size + 1, 2, none⟩) (by simp) (I (0))).setCell (p := ⟨w.heap.size + 1, 3, none⟩) (by simp) (S ([])))⟩
  | false =>
    go_enter Try.func56, Try.ntmps56
    go_wp2_with fail
    refine (hC _ b0).mono ?_
    rintro e w1 ⟨rfl, P1⟩
    have u1 := hU _ _ P1
    have BA1 := BA.upd u1 (by simp; omega)
    have z1 := u1.size
    simp only [World.size_alloc] at z1
    have hq : ∀ v', Upd [w.heap.size + 1] w1 v' → Q v' := fun v' k => hQ _ w1 v' b0 (by simp) P1 k
    have HQ : Hid _ := hq
    clear hm ho q3 u1 BA hq P1 hC hQ b0
    go_wp2_with fail
    refine (B_any _ _).mono ?_
    rintro e w2 ⟨rfl, rfl⟩
    obtain ⟨g0, g1, g2⟩ := BA1.facts
    go_wp2
    have BZ := (((BA1.set (i := 0) (I (0))).set (i := 1) (I (b2i c))).set (i := 2) (I (0))).set (i := 3) (S ([]))
    exact ret_row Try.results56 rfl rfl BZ Try.underlying40 rfl (by kernel_rfl) ⟨rfl, HQ.out _ (((((Upd.refl _ _).setCell (p := ⟨w.heap.size + 1, 0, none⟩) (by simp) (I (0))).setCell (p := ⟨w.heap.size + 1, 1, none⟩) (by simp) (I (b2i c))).setCell (p := ⟨w.heap.size + 1, 2, none⟩) (by simp) (I (0))).setCell (p := ⟨w.heap.size + 1, 3, none⟩) (by simp) (S ([])))⟩
set_option maxRecDepth 100000 in
set_option maxHeartbeats 4000000 in
theorem dom_16 {P : World → World → Prop} {Q : World → Prop} (w : World) (xb bm bo wi oi : Nat) (hX : Pair w xb bm bo wi oi) (A B C : Int) (s t : ByteArray) (E : Int)
    (hU : ∀ a v, P a v → Upd [bm] a v) (hQ : ∀ a v v', Below w.heap.size w a → w.heap.size + 2 ≤ a.heap.size → P a v → Upd [w.heap.size + 1] v v' → Q v')
    (hC : ∀ v, Below w.heap.size w v → Calls Try.prog 77 #[ptr bm, I A, I B, I C] v fun e w' => e = .returned (I E) ∧ P v w') :
    Calls Try.prog 56 #[.slice (some ⟨xb, 0, none⟩) 2 2, I wi, OpV 16 A B C s t] w fun e w' => e = .returned (AnsV (E) (0) (0) ([])) ∧ Q w' := by
  have b0 := ((Below.refl w.heap.size w).alloc (Nat.le_refl _) (.cells #[I 16, I A, I B, I C, .string s, .string t] 31)).alloc (by simp) (.cells #[I 0, I 0, I 0, S []] 40)
  have BA : Blk ((w.alloc (.cells #[I 16, I A, I B, I C, .string s, .string t] 31)).alloc (.cells #[I 0, I 0, I 0, S []] 40)) (w.heap.size + 1) #[I 0, I 0, I 0, S []] 40 := Blk.new (by simp)
  have hm := hX.hm
  have ho := hX.ho
  have lx := hX.lx
  have lm := hX.lm
  have hsum := hX.sum
  have q1 : (wi : Int) < 2 := by omega
  have q2 : (oi : Int) < 2 := by omega
  have q3 : (1 : Int) - (wi : Int) = (oi : Int) := by omega
  have q4 := wr64 (oi : Int) (by omega) (by omega)
  have hn1 : xb ≠ w.heap.size := by omega
  have hn2 : xb ≠ w.heap.size + 1 := by omega
  clear hX
  cases a1 : (A == 1) with
  | true =>
    obtain rfl : A = 1 := by simpa using a1
    clear a1
    go_enter Try.func56, Try.ntmps56
    go_wp2_with fail
    refine (hC _ b0).mono ?_
    rintro e w1 ⟨rfl, P1⟩
    have u1 := hU _ _ P1
    have BA1 := BA.upd u1 (by simp; omega)
    have z1 := u1.size
    simp only [World.size_alloc] at z1
    have hq : ∀ v', Upd [w.heap.size + 1] w1 v' → Q v' := fun v' k => hQ _ w1 v' b0 (by simp) P1 k
    have HQ : Hid _ := hq
    clear hm ho q3 u1 BA hq P1 hC hQ b0
    obtain ⟨g0, g1, g2⟩ := BA1.facts
    go_wp2
    have BZ := (((BA1.set (i := 0) (I (E))).set (i := 1) (I (0))).set (i := 2) (I (0))).set (i := 3) (S ([]))
    exact ret_row Try.results56 rfl rfl BZ Try.underlying40 rfl (by kernel_rfl) ⟨rfl, HQ.out _ (((((Upd.refl _ _).setCell (p := ⟨w.heap.size + 1, 0, none⟩) (by simp) (I (E))).setCell (p := ⟨w.heap.size + 1, 1, none⟩) (by simp) (I (0))).setCell (p := ⟨w.heap.size + 1, 2, none⟩) (by simp) (I (0))).setCell (p := ⟨w.heap.size + 1, 3, none⟩) (by simp) (S ([])))⟩
  | false =>
    go_enter Try.func56, Try.ntmps56
    go_wp2_with fail
    refine (hC _ b0).mono ?_
    rintro e w1 ⟨rfl, P1⟩
    have u1 := hU _ _ P1
    have BA1 := BA.upd u1 (by simp; omega)
    have z1 := u1.size
    simp only [World.size_alloc] at z1
    have hq : ∀ v', Upd [w.heap.size + 1] w1 v' → Q v' := fun v' k => hQ _ w1 v' b0 (by simp) P1 k
    have HQ : Hid _ := hq
    clear hm ho q3 u1 BA hq P1 hC hQ b0
    obtain ⟨g0, g1, g2⟩ := BA1.facts
    go_wp2
    have BZ := (((BA1.set (i := 0) (I (E))).set (i := 1) (I (0))).set (i := 2) (I (0))).set (i := 3) (S ([]))
    exact ret_row Try.results56 rfl rfl BZ Try.underlying40 rfl (by kernel_rfl) ⟨rfl, HQ.out _ (((((Upd.refl _ _).setCell (p := ⟨w.heap.size + 1, 0, none⟩) (by simp) (I (E))).setCell (p := ⟨w.heap.size + 1, 1, none⟩) (by simp) (I (0))).setCell (p := ⟨w.heap.size + 1, 2, none⟩) (by simp) (I (0))).setCell (p := ⟨w.heap.size + 1, 3, none⟩) (by simp) (S ([])))⟩
set_option maxRecDepth 100000 in
set_option maxHeartbeats 4000000 in
theorem dom_17 {P : World → World → Prop} {Q : World → Prop} (w : World) (xb bm bo wi oi : Nat) (hX : Pair w xb bm bo wi oi) (A B C : Int) (s t : ByteArray) (E : Int)
    (hU : ∀ a v, P a v → Upd [bm] a v) (hQ : ∀ a v v', Below w.heap.size w a → w.heap.size + 2 ≤ a.heap.size → P a v → Upd [w.heap.size + 1] v v' → Q v')
    (hC : ∀ v, Below w.heap.size w v → Calls Try.prog 78 #[ptr bm, I A, I B] v fun e w' => e = .returned (I E) ∧ P v w') :
    Calls Try.prog 56 #[.slice (some ⟨xb, 0, none⟩) 2 2, I wi, OpV 17 A B C s t] w fun e w' => e = .returned (AnsV (E) (0) (0) ([])) ∧ Q w' := by
  have b0 := ((Below.refl w.heap.size w).alloc (Nat.le_refl _) (.cells #[I 17, I A, I B, I C, .string s, .string t] 31)).alloc (by simp) (.cells #[I 0, I 0, I 0, S []] 40)
  have BA : Blk ((w.alloc (.cells #[I 17, I A, I B, I C, .string s, .string t] 31)).alloc (.cells #[I 0, I 0, I 0, S []] 40)) (w.heap.size + 1) #[I 0, I 0, I 0, S []] 40 := Blk.new (by simp)
  have hm := hX.hm
  have ho := hX.ho
  have lx := hX.lx
  have lm := hX.lm
  have hsum := hX.sum
  have q1 : (wi : Int) < 2 := by omega
  have q2 : (oi : Int) < 2 := by omega
  have q3 : (1 : Int) - (wi : Int) = (oi : Int) := by omega
  have q4 := wr64 (oi : Int) (by omega) (by omega)
  have hn1 : xb ≠ w.heap.size := by omega
  have hn2 : xb ≠ w.heap.size + 1 := by omega
  clear hX
  cases a1 : (A == 1) with
  | true =>
    obtain rfl : A = 1 := by simpa using a1
    clear a1
    go_enter Try.func56, Try.ntmps56
    go_wp2_with fail
    refine (hC _ b0).mono ?_
    rintro e w1 ⟨rfl, P1⟩
    have u1 := hU _ _ P1
    have BA1 := BA.upd u1 (by simp; omega)
    have z1 := u1.size
    simp only [World.size_alloc] at z1
    have hq : ∀ v', Upd [w.heap.size + 1] w1 v' → Q v' := fun v' k => hQ _ w1 v' b0 (by simp) P1 k
    have HQ : Hid _ := hq
    clear hm ho q3 u1 BA hq P1 hC hQ b0
    obtain ⟨g0, g1, g2⟩ := BA1.facts
    go_wp2
    have BZ := (((BA1.set (i := 0) (I (E))).set (i := 1) (I (0))).set (i := 2) (I (0))).set (i := 3) (S ([]))
    exact ret_row Try.results56 rfl rfl BZ Try.underlying40 rfl (by kernel_rfl) ⟨rfl, HQ.out _ (((((Upd.refl _ _).setCell (p := ⟨w.heap.size + 1, 0, none⟩) (by simp) (I (E))).setCell (p := ⟨w.heap.size + 1, 1, none⟩) (by simp) (I (0))).setCell (p := ⟨w.heap.size + 1, 2, none⟩) (by simp) (I (0))).setCell (p := ⟨w.heap.size + 1, 3, none⟩) (by simp) (S ([])))⟩
  | false =>
    go_enter Try.func56, Try.ntmps56
    go_wp2_with fail
    refine (hC _ b0).mono ?_
    rintro e w1 ⟨rfl, P1⟩
    have u1 := hU _ _ P1
    have BA1 := BA.upd u1 (by simp; omega)
    have z1 := u1.size
    simp only [World.size_alloc] at z1
    have hq : ∀ v', Upd [w.heap.size + 1] w1 v' → Q v' := fun v' k => hQ _ w1 v' b0 (by simp) P1 k
    have HQ : Hid _ := hq
    clear hm ho q3 u1 BA hq P1 hC hQ b0
    obtain ⟨g0, g1, g2⟩ := BA1.facts
    go_wp2
    have BZ := (((BA1.set (i := 0) (I (E))).set (i := 1) (I (0))).set (i := 2) (I (0))).set (i := 3) (S ([]))
    exact ret_row Try.results56 rfl rfl BZ Try.underlying40 rfl (by kernel_rfl) ⟨rfl, HQ.out _ (((((Upd.refl _ _).setCell (p := ⟨w.heap.size + 1, 0, none⟩) (by simp) (I (E))).setCell (p := ⟨w.heap.size + 1, 1, none⟩) (by simp) (I (0))).setCell (p := ⟨w.heap.size + 1, 2, none⟩) (by simp) (I (0))).setCell (p := ⟨w.heap.size + 1, 3, none⟩) (by simp) (S ([])))⟩
end Go.Proofs.Qxb6500469a
