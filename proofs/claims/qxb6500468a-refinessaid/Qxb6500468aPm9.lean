import Derived.Test.Qxb6500468aPm5
import Derived.Test.Qxb6500468aPm6
import Derived.Test.Qxb6500468aPm8
namespace Go.Proofs.Qxb6500468a
open Go.RowKit

theorem Upd.fresh {bs : List Nat} {w a c : World} (h : Upd bs w a) {y : Nat} (k : Upd [y] a c) (hy : w.heap.size ≤ y) : Upd bs w c :=
  ⟨k.os.trans h.os, k.tape.trans h.tape, k.output.trans h.output, Nat.le_trans h.size k.size, fun z hz hn => (k.block z (Nat.lt_of_lt_of_le hz h.size) (fun hm => by have := List.mem_singleton.1 hm; omega)).trans (h.block z hz hn)⟩
theorem Mon.fresh {w : World} {m : Nat} {U : Nat} {W : List Nat} {v v' : World} (h : Mon w m U W v) {y : Nat} (k : Upd [y] v v') (hm : m ≠ y) (hy : w.heap.size ≤ y) : Mon w m U W v' := by
  obtain ⟨us', hs', h1, h2, h3⟩ := h
  exact ⟨us', hs', h1.upd k (fun e => hm (List.mem_singleton.1 e)), h2, h3.fresh k hy⟩
set_option maxRecDepth 100000 in
set_option maxHeartbeats 2000000 in
theorem dom_4 (w : World) (m : Nat) (lm : m < w.heap.size) (b off : Nat) (k d l f s : Int) (img : List UInt8) (hd : DeskR w b off k d l f s img) (A B C : Int) (S1 : List UInt8) (t : ByteArray) (E N : Int) (U : Nat) (W : List Nat)
    (hC : ∀ v, Below w.heap.size w v → Calls Try.prog 63 #[ptr m, HdV k d l f s] v fun e w' => e = .returned (.tuple #[I N, I E]) ∧ Mon v m U W w') :
    Calls Try.prog 48 #[ptr m, .pointer (some ⟨b, off, none⟩), OpV 4 A B C (str S1) t] w fun e w' => e = .returned (AnsV E N []) ∧ Mon w m U W w' := by
  have b0 := ((Below.refl w.heap.size w).alloc (Nat.le_refl _) (.cells #[I 4, I A, I B, I C, S S1, .string t] 38)).alloc (by simp) (.cells #[I 0, I 0, I 0, S []] 42)
  have BA : Blk ((w.alloc (.cells #[I 4, I A, I B, I C, S S1, .string t] 38)).alloc (.cells #[I 0, I 0, I 0, S []] 42)) (w.heap.size + 1) #[I 0, I 0, I 0, S []] 42 := Blk.new (by simp)
  obtain ⟨d0, d1, d2, d3, d4, d5, ld⟩ := hd.cells
  go_enter Try.func48, Try.ntmps48
  go_wp2_with fail
  refine (hC _ b0).mono ?_
  rintro e w1 ⟨rfl, M1⟩
  have u1 : Upd [m] _ w1 := (by obtain ⟨_, _, _, _, u⟩ := M1; exact u)
  have BA1 := BA.upd u1 (by simp; omega)
  have M2 := M1.since b0
  obtain ⟨q0, q1, q2⟩ := BA1.facts
  clear d0 d1 d2 d3 d4 d5 u1 BA b0 M1
  go_wp2
  have BA2 := (((BA1.set (i := 0) (I E)).set (i := 1) (I N)).set (i := 2) (I 0)).set (i := 3) (S [])
  exact ret_row Try.results48 rfl rfl BA2 Try.underlying42 rfl (by kernel_rfl) ⟨rfl, M2.fresh (y := w.heap.size + 1) (((((Upd.refl _ _).setCell (by simp) _).setCell (by simp) _).setCell (by simp) _).setCell (by simp) _) (by omega) (Nat.le_succ _)⟩
set_option maxRecDepth 100000 in
set_option maxHeartbeats 2000000 in
theorem dom_6 (w : World) (m : Nat) (lm : m < w.heap.size) (b off : Nat) (k d l f s : Int) (img : List UInt8) (hd : DeskR w b off k d l f s img) (A B C : Int) (S1 : List UInt8) (t : ByteArray) (E : Int) (U : Nat) (W : List Nat)
    (hC : ∀ v, Below w.heap.size w v → Calls Try.prog 65 #[ptr m, I A] v fun e w' => e = .returned (I E) ∧ Mon v m U W w') :
    Calls Try.prog 48 #[ptr m, .pointer (some ⟨b, off, none⟩), OpV 6 A B C (str S1) t] w fun e w' => e = .returned (AnsV E 0 []) ∧ Mon w m U W w' := by
  have b0 := ((Below.refl w.heap.size w).alloc (Nat.le_refl _) (.cells #[I 6, I A, I B, I C, S S1, .string t] 38)).alloc (by simp) (.cells #[I 0, I 0, I 0, S []] 42)
  have BA : Blk ((w.alloc (.cells #[I 6, I A, I B, I C, S S1, .string t] 38)).alloc (.cells #[I 0, I 0, I 0, S []] 42)) (w.heap.size + 1) #[I 0, I 0, I 0, S []] 42 := Blk.new (by simp)
  obtain ⟨d0, d1, d2, d3, d4, d5, ld⟩ := hd.cells
  go_enter Try.func48, Try.ntmps48
  go_wp2_with fail
  refine (hC _ b0).mono ?_
  rintro e w1 ⟨rfl, M1⟩
  have u1 : Upd [m] _ w1 := (by obtain ⟨_, _, _, _, u⟩ := M1; exact u)
  have BA1 := BA.upd u1 (by simp; omega)
  have M2 := M1.since b0
  obtain ⟨q0, q1, q2⟩ := BA1.facts
  clear d0 d1 d2 d3 d4 d5 u1 BA b0 M1
  go_wp2
  have BA2 := (((BA1.set (i := 0) (I E)).set (i := 1) (I 0)).set (i := 2) (I 0)).set (i := 3) (S [])
  exact ret_row Try.results48 rfl rfl BA2 Try.underlying42 rfl (by kernel_rfl) ⟨rfl, M2.fresh (y := w.heap.size + 1) (((((Upd.refl _ _).setCell (by simp) _).setCell (by simp) _).setCell (by simp) _).setCell (by simp) _) (by omega) (Nat.le_succ _)⟩
set_option maxRecDepth 100000 in
set_option maxHeartbeats 2000000 in
theorem dom_7 (w : World) (m : Nat) (lm : m < w.heap.size) (b off : Nat) (k d l f s : Int) (img : List UInt8) (hd : DeskR w b off k d l f s img) (A B C : Int) (S1 : List UInt8) (t : ByteArray) (E : Int) (U : Nat) (W : List Nat)
    (hC : ∀ v, Below w.heap.size w v → Calls Try.prog 66 #[ptr m, I A, I B] v fun e w' => e = .returned (I E) ∧ Mon v m U W w') :
    Calls Try.prog 48 #[ptr m, .pointer (some ⟨b, off, none⟩), OpV 7 A B C (str S1) t] w fun e w' => e = .returned (AnsV E 0 []) ∧ Mon w m U W w' := by
  have b0 := ((Below.refl w.heap.size w).alloc (Nat.le_refl _) (.cells #[I 7, I A, I B, I C, S S1, .string t] 38)).alloc (by simp) (.cells #[I 0, I 0, I 0, S []] 42)
  have BA : Blk ((w.alloc (.cells #[I 7, I A, I B, I C, S S1, .string t] 38)).alloc (.cells #[I 0, I 0, I 0, S []] 42)) (w.heap.size + 1) #[I 0, I 0, I 0, S []] 42 := Blk.new (by simp)
  obtain ⟨d0, d1, d2, d3, d4, d5, ld⟩ := hd.cells
  go_enter Try.func48, Try.ntmps48
  go_wp2_with fail
  refine (hC _ b0).mono ?_
  rintro e w1 ⟨rfl, M1⟩
  have u1 : Upd [m] _ w1 := (by obtain ⟨_, _, _, _, u⟩ := M1; exact u)
  have BA1 := BA.upd u1 (by simp; omega)
  have M2 := M1.since b0
  obtain ⟨q0, q1, q2⟩ := BA1.facts
  clear d0 d1 d2 d3 d4 d5 u1 BA b0 M1
  go_wp2
  have BA2 := (((BA1.set (i := 0) (I E)).set (i := 1) (I 0)).set (i := 2) (I 0)).set (i := 3) (S [])
  exact ret_row Try.results48 rfl rfl BA2 Try.underlying42 rfl (by kernel_rfl) ⟨rfl, M2.fresh (y := w.heap.size + 1) (((((Upd.refl _ _).setCell (by simp) _).setCell (by simp) _).setCell (by simp) _).setCell (by simp) _) (by omega) (Nat.le_succ _)⟩
set_option maxRecDepth 100000 in
set_option maxHeartbeats 2000000 in
theorem dom_8 (w : World) (m : Nat) (lm : m < w.heap.size) (b off : Nat) (k d l f s : Int) (img : List UInt8) (hd : DeskR w b off k d l f s img) (A B C : Int) (S1 : List UInt8) (t : ByteArray) (N : Int) (U : Nat) (W : List Nat)
    (hC : ∀ v, Below w.heap.size w v → Calls Try.prog 67 #[ptr m] v fun e w' => e = .returned (I N) ∧ Mon v m U W w') :
    Calls Try.prog 48 #[ptr m, .pointer (some ⟨b, off, none⟩), OpV 8 A B C (str S1) t] w fun e w' => e = .returned (AnsV 0 N []) ∧ Mon w m U W w' := by
  have b0 := ((Below.refl w.heap.size w).alloc (Nat.le_refl _) (.cells #[I 8, I A, I B, I C, S S1, .string t] 38)).alloc (by simp) (.cells #[I 0, I 0, I 0, S []] 42)
  have BA : Blk ((w.alloc (.cells #[I 8, I A, I B, I C, S S1, .string t] 38)).alloc (.cells #[I 0, I 0, I 0, S []] 42)) (w.heap.size + 1) #[I 0, I 0, I 0, S []] 42 := Blk.new (by simp)
  obtain ⟨d0, d1, d2, d3, d4, d5, ld⟩ := hd.cells
  go_enter Try.func48, Try.ntmps48
  go_wp2_with fail
  refine (hC _ b0).mono ?_
  rintro e w1 ⟨rfl, M1⟩
  have u1 : Upd [m] _ w1 := (by obtain ⟨_, _, _, _, u⟩ := M1; exact u)
  have BA1 := BA.upd u1 (by simp; omega)
  have M2 := M1.since b0
  obtain ⟨q0, q1, q2⟩ := BA1.facts
  clear d0 d1 d2 d3 d4 d5 u1 BA b0 M1
  go_wp2
  have BA2 := (((BA1.set (i := 0) (I 0)).set (i := 1) (I N)).set (i := 2) (I 0)).set (i := 3) (S [])
  exact ret_row Try.results48 rfl rfl BA2 Try.underlying42 rfl (by kernel_rfl) ⟨rfl, M2.fresh (y := w.heap.size + 1) (((((Upd.refl _ _).setCell (by simp) _).setCell (by simp) _).setCell (by simp) _).setCell (by simp) _) (by omega) (Nat.le_succ _)⟩
set_option maxRecDepth 100000 in
set_option maxHeartbeats 2000000 in
theorem dom_9 (w : World) (m : Nat) (lm : m < w.heap.size) (b off : Nat) (k d l f s : Int) (img : List UInt8) (hd : DeskR w b off k d l f s img) (A B C : Int) (S1 : List UInt8) (t : ByteArray) (T : List UInt8) (U : Nat) (W : List Nat)
    (hC : ∀ v, Below w.heap.size w v → Calls Try.prog 68 #[ptr m] v fun e w' => e = .returned (S T) ∧ Mon v m U W w') :
    Calls Try.prog 48 #[ptr m, .pointer (some ⟨b, off, none⟩), OpV 9 A B C (str S1) t] w fun e w' => e = .returned (AnsV 0 0 T) ∧ Mon w m U W w' := by
  have b0 := ((Below.refl w.heap.size w).alloc (Nat.le_refl _) (.cells #[I 9, I A, I B, I C, S S1, .string t] 38)).alloc (by simp) (.cells #[I 0, I 0, I 0, S []] 42)
  have BA : Blk ((w.alloc (.cells #[I 9, I A, I B, I C, S S1, .string t] 38)).alloc (.cells #[I 0, I 0, I 0, S []] 42)) (w.heap.size + 1) #[I 0, I 0, I 0, S []] 42 := Blk.new (by simp)
  obtain ⟨d0, d1, d2, d3, d4, d5, ld⟩ := hd.cells
  go_enter Try.func48, Try.ntmps48
  go_wp2_with fail
  refine (hC _ b0).mono ?_
  rintro e w1 ⟨rfl, M1⟩
  have u1 : Upd [m] _ w1 := (by obtain ⟨_, _, _, _, u⟩ := M1; exact u)
  have BA1 := BA.upd u1 (by simp; omega)
  have M2 := M1.since b0
  obtain ⟨q0, q1, q2⟩ := BA1.facts
  clear d0 d1 d2 d3 d4 d5 u1 BA b0 M1
  go_wp2
  have BA2 := (((BA1.set (i := 0) (I 0)).set (i := 1) (I 0)).set (i := 2) (I 0)).set (i := 3) (S T)
  exact ret_row Try.results48 rfl rfl BA2 Try.underlying42 rfl (by kernel_rfl) ⟨rfl, M2.fresh (y := w.heap.size + 1) (((((Upd.refl _ _).setCell (by simp) _).setCell (by simp) _).setCell (by simp) _).setCell (by simp) _) (by omega) (Nat.le_succ _)⟩
set_option maxRecDepth 100000 in
set_option maxHeartbeats 2000000 in
theorem dom_10 (w : World) (m : Nat) (lm : m < w.heap.size) (b off : Nat) (k d l f s : Int) (img : List UInt8) (hd : DeskR w b off k d l f s img) (A B C : Int) (S1 : List UInt8) (t : ByteArray) (E : Int) (U : Nat) (W : List Nat)
    (hC : ∀ v, Below w.heap.size w v → Calls Try.prog 69 #[ptr m, S S1] v fun e w' => e = .returned (I E) ∧ Mon v m U W w') :
    Calls Try.prog 48 #[ptr m, .pointer (some ⟨b, off, none⟩), OpV 10 A B C (str S1) t] w fun e w' => e = .returned (AnsV E 0 []) ∧ Mon w m U W w' := by
  have b0 := ((Below.refl w.heap.size w).alloc (Nat.le_refl _) (.cells #[I 10, I A, I B, I C, S S1, .string t] 38)).alloc (by simp) (.cells #[I 0, I 0, I 0, S []] 42)
  have BA : Blk ((w.alloc (.cells #[I 10, I A, I B, I C, S S1, .string t] 38)).alloc (.cells #[I 0, I 0, I 0, S []] 42)) (w.heap.size + 1) #[I 0, I 0, I 0, S []] 42 := Blk.new (by simp)
  obtain ⟨d0, d1, d2, d3, d4, d5, ld⟩ := hd.cells
  go_enter Try.func48, Try.ntmps48
  go_wp2_with fail
  refine (hC _ b0).mono ?_
  rintro e w1 ⟨rfl, M1⟩
  have u1 : Upd [m] _ w1 := (by obtain ⟨_, _, _, _, u⟩ := M1; exact u)
  have BA1 := BA.upd u1 (by simp; omega)
  have M2 := M1.since b0
  obtain ⟨q0, q1, q2⟩ := BA1.facts
  clear d0 d1 d2 d3 d4 d5 u1 BA b0 M1
  go_wp2
  have BA2 := (((BA1.set (i := 0) (I E)).set (i := 1) (I 0)).set (i := 2) (I 0)).set (i := 3) (S [])
  exact ret_row Try.results48 rfl rfl BA2 Try.underlying42 rfl (by kernel_rfl) ⟨rfl, M2.fresh (y := w.heap.size + 1) (((((Upd.refl _ _).setCell (by simp) _).setCell (by simp) _).setCell (by simp) _).setCell (by simp) _) (by omega) (Nat.le_succ _)⟩
set_option maxRecDepth 100000 in
set_option maxHeartbeats 2000000 in
theorem dom_11 (w : World) (m : Nat) (lm : m < w.heap.size) (b off : Nat) (k d l f s : Int) (img : List UInt8) (hd : DeskR w b off k d l f s img) (A B C : Int) (S1 : List UInt8) (t : ByteArray) (E : Int) (U : Nat) (W : List Nat)
    (hC : ∀ v, Below w.heap.size w v → Calls Try.prog 69 #[ptr m, S img] v fun e w' => e = .returned (I E) ∧ Mon v m U W w') :
    Calls Try.prog 48 #[ptr m, .pointer (some ⟨b, off, none⟩), OpV 11 A B C (str S1) t] w fun e w' => e = .returned (AnsV E 0 []) ∧ Mon w m U W w' := by
  have b0 := ((Below.refl w.heap.size w).alloc (Nat.le_refl _) (.cells #[I 11, I A, I B, I C, S S1, .string t] 38)).alloc (by simp) (.cells #[I 0, I 0, I 0, S []] 42)
  have BA : Blk ((w.alloc (.cells #[I 11, I A, I B, I C, S S1, .string t] 38)).alloc (.cells #[I 0, I 0, I 0, S []] 42)) (w.heap.size + 1) #[I 0, I 0, I 0, S []] 42 := Blk.new (by simp)
  obtain ⟨d0, d1, d2, d3, d4, d5, ld⟩ := hd.cells
  go_enter Try.func48, Try.ntmps48
  go_wp2_with fail
  refine (hC _ b0).mono ?_
  rintro e w1 ⟨rfl, M1⟩
  have u1 : Upd [m] _ w1 := (by obtain ⟨_, _, _, _, u⟩ := M1; exact u)
  have BA1 := BA.upd u1 (by simp; omega)
  have M2 := M1.since b0
  obtain ⟨q0, q1, q2⟩ := BA1.facts
  clear d0 d1 d2 d3 d4 d5 u1 BA b0 M1
  go_wp2
  have BA2 := (((BA1.set (i := 0) (I E)).set (i := 1) (I 0)).set (i := 2) (I 0)).set (i := 3) (S [])
  exact ret_row Try.results48 rfl rfl BA2 Try.underlying42 rfl (by kernel_rfl) ⟨rfl, M2.fresh (y := w.heap.size + 1) (((((Upd.refl _ _).setCell (by simp) _).setCell (by simp) _).setCell (by simp) _).setCell (by simp) _) (by omega) (Nat.le_succ _)⟩
set_option maxRecDepth 100000 in
set_option maxHeartbeats 2000000 in
theorem dom_14 (w : World) (m : Nat) (lm : m < w.heap.size) (b off : Nat) (k d l f s : Int) (img : List UInt8) (hd : DeskR w b off k d l f s img) (A B C : Int) (S1 : List UInt8) (t : ByteArray) (T : List UInt8) (U : Nat) (W : List Nat)
    (hC : ∀ v, Below w.heap.size w v → Calls Try.prog 50 #[ptr m] v fun e w' => e = .returned (S T) ∧ Mon v m U W w') :
    Calls Try.prog 48 #[ptr m, .pointer (some ⟨b, off, none⟩), OpV 14 A B C (str S1) t] w fun e w' => e = .returned (AnsV 0 0 T) ∧ Mon w m U W w' := by
  have b0 := ((Below.refl w.heap.size w).alloc (Nat.le_refl _) (.cells #[I 14, I A, I B, I C, S S1, .string t] 38)).alloc (by simp) (.cells #[I 0, I 0, I 0, S []] 42)
  have BA : Blk ((w.alloc (.cells #[I 14, I A, I B, I C, S S1, .string t] 38)).alloc (.cells #[I 0, I 0, I 0, S []] 42)) (w.heap.size + 1) #[I 0, I 0, I 0, S []] 42 := Blk.new (by simp)
  obtain ⟨d0, d1, d2, d3, d4, d5, ld⟩ := hd.cells
  go_enter Try.func48, Try.ntmps48
  go_wp2_with fail
  refine (hC _ b0).mono ?_
  rintro e w1 ⟨rfl, M1⟩
  have u1 : Upd [m] _ w1 := (by obtain ⟨_, _, _, _, u⟩ := M1; exact u)
  have BA1 := BA.upd u1 (by simp; omega)
  have M2 := M1.since b0
  obtain ⟨q0, q1, q2⟩ := BA1.facts
  clear d0 d1 d2 d3 d4 d5 u1 BA b0 M1
  go_wp2
  have BA2 := (((BA1.set (i := 0) (I 0)).set (i := 1) (I 0)).set (i := 2) (I 0)).set (i := 3) (S T)
  exact ret_row Try.results48 rfl rfl BA2 Try.underlying42 rfl (by kernel_rfl) ⟨rfl, M2.fresh (y := w.heap.size + 1) (((((Upd.refl _ _).setCell (by simp) _).setCell (by simp) _).setCell (by simp) _).setCell (by simp) _) (by omega) (Nat.le_succ _)⟩
set_option maxRecDepth 100000 in
set_option maxHeartbeats 2000000 in
theorem dom_5 (w : World) (m : Nat) (lm : m < w.heap.size) (b off : Nat) (k d l f s : Int) (img : List UInt8) (hd : DeskR w b off k d l f s img) (A B C : Int) (S1 : List UInt8) (t : ByteArray) (E : Int) (n : Nat) (U : Nat) (W : List Nat)
    (hC : ∀ v, Below w.heap.size w v → Calls Try.prog 64 #[ptr m, I A] v fun e w' => e = .returned (.tuple #[UnV n, I E]) ∧ Mon v m U W w') :
    Calls Try.prog 48 #[ptr m, .pointer (some ⟨b, off, none⟩), OpV 5 A B C (str S1) t] w fun e w' => e = .returned (AnsV E 0 (shH (unK n) (unD n) (unL n) (unF n) (unS n))) ∧ Mon w m U W w' := by
  have b0 := ((Below.refl w.heap.size w).alloc (Nat.le_refl _) (.cells #[I 5, I A, I B, I C, S S1, .string t] 38)).alloc (by simp) (.cells #[I 0, I 0, I 0, S []] 42)
  have BA : Blk ((w.alloc (.cells #[I 5, I A, I B, I C, S S1, .string t] 38)).alloc (.cells #[I 0, I 0, I 0, S []] 42)) (w.heap.size + 1) #[I 0, I 0, I 0, S []] 42 := Blk.new (by simp)
  obtain ⟨d0, d1, d2, d3, d4, d5, ld⟩ := hd.cells
  go_enter Try.func48, Try.ntmps48
  go_wp2_with fail
  refine (hC _ b0).mono ?_
  rintro e w1 ⟨rfl, M1⟩
  have u1 : Upd [m] _ w1 := (by obtain ⟨_, _, _, _, u⟩ := M1; exact u)
  have BA1 := BA.upd u1 (by simp; omega)
  have M2 := M1.since b0
  have hz1 : w.heap.size + 1 < w1.heap.size := BA1.lt
  clear d0 d1 d2 d3 d4 d5 u1 BA b0 M1
  obtain ⟨e1, e2, e3, e4, e5⟩ := un_in64 n
  have aB := (Below.refl w1.heap.size w1).alloc (Nat.le_refl _) (.cells #[I (unK n), I (unD n), I (unL n), I (unF n), I (unS n)] 27)
  have BH : Blk (w1.alloc (.cells #[I (unK n), I (unD n), I (unL n), I (unF n), I (unS n)] 27)) w1.heap.size #[I (unK n), I (unD n), I (unL n), I (unF n), I (unS n)] 27 := Blk.new rfl
  have M3 := M2.later aB
  have BA2 := BA1.below aB BA1.lt
  clear M2 BA1 aB
  go_wp2_with fail
  generalize w1.alloc (.cells #[I (unK n), I (unD n), I (unL n), I (unF n), I (unS n)] 27) = v2 at *
  refine (showH_any _ _ _ _ _ e1 e2 e3 e4 e5 v2).mono ?_
  rintro e w3 ⟨rfl, b3⟩
  have BA3 := BA2.below b3 BA2.lt
  have M4 := M3.later b3
  obtain ⟨q0, q1, q2⟩ := BA3.facts
  clear BA2 M3 b3 BH
  go_wp2
  have BA4 := (((BA3.set (i := 0) (I E)).set (i := 1) (I 0)).set (i := 2) (I 0)).set (i := 3) (S (shH (unK n) (unD n) (unL n) (unF n) (unS n)))
  exact ret_row Try.results48 rfl rfl BA4 Try.underlying42 rfl (by kernel_rfl) ⟨rfl, M4.fresh (y := w.heap.size + 1) (((((Upd.refl _ _).setCell (by simp) _).setCell (by simp) _).setCell (by simp) _).setCell (by simp) _) (by omega) (Nat.le_succ _)⟩
set_option maxRecDepth 100000 in
set_option maxHeartbeats 2000000 in
theorem dom_15 (w : World) (m : Nat) (b off : Nat) (A B C : Int) (S1 : List UInt8) (t : ByteArray) :
    Calls Try.prog 48 #[ptr m, .pointer (some ⟨b, off, none⟩), OpV 15 A B C (str S1) t] w fun e w' => e = .returned (AnsV 0 1 []) ∧ Below w.heap.size w w' := by
  have b0 := ((Below.refl w.heap.size w).alloc (Nat.le_refl _) (.cells #[I 15, I A, I B, I C, S S1, .string t] 38)).alloc (by simp) (.cells #[I 0, I 1, I 0, S []] 42)
  have BA : Blk ((w.alloc (.cells #[I 15, I A, I B, I C, S S1, .string t] 38)).alloc (.cells #[I 0, I 1, I 0, S []] 42)) (w.heap.size + 1) #[I 0, I 1, I 0, S []] 42 := Blk.new (by simp)
  go_enter Try.func48, Try.ntmps48
  go_wp2
  exact ret_row Try.results48 rfl rfl BA Try.underlying42 rfl (by kernel_rfl) ⟨rfl, b0⟩
set_option maxRecDepth 100000 in
set_option maxHeartbeats 2000000 in
theorem dom_o (w : World) (m : Nat) (b off : Nat) (K : Int) (A B C : Int) (S1 : List UInt8) (t : ByteArray) (k4 : K ≠ 4) (k5 : K ≠ 5) (k6 : K ≠ 6) (k7 : K ≠ 7) (k8 : K ≠ 8) (k9 : K ≠ 9) (k10 : K ≠ 10) (k11 : K ≠ 11) (k14 : K ≠ 14) (k15 : K ≠ 15) :
    Calls Try.prog 48 #[ptr m, .pointer (some ⟨b, off, none⟩), OpV K A B C (str S1) t] w fun e w' => e = .returned (AnsV 0 0 []) ∧ Below w.heap.size w w' := by
  have e4 : (K == 4) = false := by simpa using k4
  have e5 : (K == 5) = false := by simpa using k5
  have e6 : (K == 6) = false := by simpa using k6
  have e7 : (K == 7) = false := by simpa using k7
  have e8 : (K == 8) = false := by simpa using k8
  have e9 : (K == 9) = false := by simpa using k9
  have e10 : (K == 10) = false := by simpa using k10
  have e11 : (K == 11) = false := by simpa using k11
  have e14 : (K == 14) = false := by simpa using k14
  have e15 : (K == 15) = false := by simpa using k15
  clear k4 k5 k6 k7 k8 k9 k10 k11 k14 k15
  have b0 := ((Below.refl w.heap.size w).alloc (Nat.le_refl _) (.cells #[I K, I A, I B, I C, S S1, .string t] 38)).alloc (by simp) (.cells #[I 0, I 0, I 0, S []] 42)
  have BA : Blk ((w.alloc (.cells #[I K, I A, I B, I C, S S1, .string t] 38)).alloc (.cells #[I 0, I 0, I 0, S []] 42)) (w.heap.size + 1) #[I 0, I 0, I 0, S []] 42 := Blk.new (by simp)
  go_enter Try.func48, Try.ntmps48
  go_wp2
  exact ret_row Try.results48 rfl rfl BA Try.underlying42 rfl (by kernel_rfl) ⟨rfl, b0⟩

theorem dom_any (w : World) (m : Nat) (us : List Bool) (hs : List Int) (h : MoR w m us hs) (u : Nat) (ws : List Nat) (ht : Tells u ws us hs) (hu : u < 256) (lw : ws.length = 8) (hlt : ∀ i, ws.getD i 0 < 72057594037927936) (b off : Nat) (k d l f s : Int) (img : List UInt8) (hd : DeskR w b off k d l f s img) (K A B C : Int) (S1 : List UInt8) (t : ByteArray) :
    Calls Try.prog 48 #[ptr m, .pointer (some ⟨b, off, none⟩), OpV K A B C (str S1) t] w fun e w' => e = .returned (AnsV (doP K A B S1 img k d l f s u ws).1.1 (doP K A B S1 img k d l f s u ws).1.2.1 (doP K A B S1 img k d l f s u ws).1.2.2) ∧ Mon w m (doP K A B S1 img k d l f s u ws).2.1 (doP K A B S1 img k d l f s u ws).2.2 w' := by
  have lm := h.head.lt
  have low : ∀ (g : Nat) (args : Array Value) (V : Value), (∀ v, MoR v m us hs → Calls Try.prog g args v fun e w' => e = .returned V ∧ Below v.heap.size v w') → ∀ v, Below w.heap.size w v → Calls Try.prog g args v fun e w' => e = .returned V ∧ Mon v m u ws w' := by
    intro g args V hg v bv
    refine (hg v (h.later bv)).mono ?_
    rintro e w' ⟨rfl, b'⟩
    exact ⟨rfl, us, hs, (h.later bv).later b', ht, Upd.of_below b'⟩
  have lowA : ∀ v', Below w.heap.size w v' → Mon w m u ws v' := fun v' b' => ⟨us, hs, h.later b', ht, Upd.of_below b'⟩
  unfold doP
  by_cases k4 : K = 4
  · subst k4
    rw [if_pos rfl]
    refine dom_4 w m lm b off k d l f s img hd A B C S1 t _ _ _ _ (fun v bv => ?_)
    cases hg : goodB k d l f s with
    | true =>
      rw [if_pos rfl]
      exact mput_good v m us hs (h.later bv) u ws ht hu lw k d l f s ((goodB_iff _ _ _ _ _).1 hg) (lowZ u) rfl _ _ _ _ (by show _ = _; split <;> rfl)
    | false =>
      rw [if_neg (by simp)]
      refine (mput_bad v m k d l f s (fun e => by rw [(goodB_iff _ _ _ _ _).2 e] at hg; cases hg)).mono ?_
      rintro e w' ⟨rfl, b'⟩
      exact ⟨rfl, us, hs, (h.later bv).later b', ht, Upd.of_below b'⟩
  rw [if_neg k4]
  by_cases k5 : K = 5
  · subst k5
    rw [if_pos rfl]
    exact dom_5 w m lm b off k d l f s img hd A B C S1 t _ _ _ _ (low _ _ _ (fun v hv => mget_any v m us hs hv u ws ht A))
  rw [if_neg k5]
  by_cases k6 : K = 6
  · subst k6
    rw [if_pos rfl]
    exact dom_6 w m lm b off k d l f s img hd A B C S1 t _ _ _ (fun v bv => mdrop_any v m us hs (h.later bv) u ws ht hu lw A _ _ ⟨rfl, rfl⟩)
  rw [if_neg k6]
  by_cases k7 : K = 7
  · subst k7
    rw [if_pos rfl]
    exact dom_7 w m lm b off k d l f s img hd A B C S1 t _ _ _ (fun v bv => mbump_any v m us hs (h.later bv) u ws ht lw A B _ rfl)
  rw [if_neg k7]
  by_cases k8 : K = 8
  · subst k8
    rw [if_pos rfl]
    exact dom_8 w m lm b off k d l f s img hd A B C S1 t _ _ _ (low _ _ _ (fun v hv => mlen_any v m us hs hv u ws ht hu))
  rw [if_neg k8]
  by_cases k9 : K = 9
  · subst k9
    rw [if_pos rfl]
    exact dom_9 w m lm b off k d l f s img hd A B C S1 t _ _ _ (low _ _ _ (fun v hv => mexp_any v m us hs hv u ws ht hlt))
  rw [if_neg k9]
  have imp : ∀ (z : List UInt8) (v : World), Below w.heap.size w v → Calls Try.prog 69 #[ptr m, S z] v fun e w' => e = .returned (I (if imgB z then ((0 : Int), impU z (z.length / 8), impW z (z.length / 8)) else (badE z, u, ws)).1) ∧ Mon v m (if imgB z then ((0 : Int), impU z (z.length / 8), impW z (z.length / 8)) else (badE z, u, ws)).2.1 (if imgB z then ((0 : Int), impU z (z.length / 8), impW z (z.length / 8)) else (badE z, u, ws)).2.2 w' := by
    intro z v bv
    cases hg : imgB z with
    | true =>
      rw [if_pos rfl]
      exact mimp_any v m us hs (h.later bv) u ws ht z _ _ _ (.inl ⟨(imgB_iff _).1 hg, rfl, rfl, rfl⟩)
    | false =>
      rw [if_neg (by simp)]
      exact mimp_any v m us hs (h.later bv) u ws ht z _ _ _ (.inr ⟨(fun e => by rw [(imgB_iff _).2 e] at hg; cases hg), rfl, rfl, rfl⟩)
  by_cases k10 : K = 10
  · subst k10
    rw [if_pos rfl]
    exact dom_10 w m lm b off k d l f s img hd A B C S1 t _ _ _ (imp S1)
  rw [if_neg k10]
  by_cases k11 : K = 11
  · subst k11
    rw [if_pos rfl]
    exact dom_11 w m lm b off k d l f s img hd A B C S1 t _ _ _ (imp img)
  rw [if_neg k11]
  by_cases k14 : K = 14
  · subst k14
    rw [if_pos rfl]
    exact dom_14 w m lm b off k d l f s img hd A B C S1 t _ _ _ (low _ _ _ (fun v hv => mshow_any v m us hs hv u ws ht))
  rw [if_neg k14]
  by_cases k15 : K = 15
  · subst k15
    rw [if_pos rfl]
    refine (dom_15 w m b off A B C S1 t).mono ?_
    rintro e w' ⟨rfl, b'⟩
    exact ⟨rfl, lowA _ b'⟩
  rw [if_neg k15]
  refine (dom_o w m b off K A B C S1 t k4 k5 k6 k7 k8 k9 k10 k11 k14 k15).mono ?_
  rintro e w' ⟨rfl, b'⟩
  exact ⟨rfl, lowA _ b'⟩
end Go.Proofs.Qxb6500468a
