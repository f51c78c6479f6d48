import Derived.Test.Qxb6500469aWk5a
import Derived.Test.Qxb6500469aWk5b
import Derived.Test.Qxb6500469aWk5c
import Derived.Test.Qxb6500469aWk6
namespace Go.Proofs.Qxb6500469a
open Go.RowKit

set_option maxRecDepth 100000 in
set_option maxHeartbeats 8000000 in
theorem keptSet_gen (w : World) (b U : Nat) (a' p' q' : Int) (h : BdR w b U a' p' q') (K A B C : Int) (s t : ByteArray) (E N M : Int) (T : List UInt8) (f g : Nat → Bool) (e : Int)
    (hD : ∀ W, Calls Try.prog 46 #[OpV K A B C s t] W fun e' w' => e' = .returned (I e) ∧ Below W.heap.size W w') (hE : K = 16 ∨ K = 17 ∨ E = e)
    (hO : e = 0 → ∀ W, Calls Try.prog 47 #[OpV K A B C s t, S (imgF f 64), S (imgF (if A = 0 then f else g) 64)] W fun e' w' => e' = .returned (S (imgF U.testBit 64)) ∧ Below W.heap.size W w')
    (hn : e ≠ 0 → imgF f 64 = imgF U.testBit 64)
    (hC : ∀ W, BdR W b U a' p' q' → Calls Try.prog 48 #[ptr b, S (imgF U.testBit 64), OpV K A B C s t, AnsV E N M T] W fun e' w' => e' = .returned (.bool true) ∧ Below W.heap.size W w') :
    Calls Try.prog 20 #[ptr b, OpV K A B C s t, AnsV E N M T, S (imgF f 64), S (imgF g 64)] w fun e w' => e = .returned (.bool true) ∧ Below w.heap.size w w' := by
  have b0 := ((Below.refl w.heap.size w).alloc (Nat.le_refl _) (.cells #[I K, I A, I B, I C, .string s, .string t] 31)).alloc (by simp) (.cells #[I E, I N, I M, S T] 40)
  have BO : Blk ((w.alloc (.cells #[I K, I A, I B, I C, .string s, .string t] 31)).alloc (.cells #[I E, I N, I M, S T] 40)) w.heap.size #[I K, I A, I B, I C, .string s, .string t] 31 := (Blk.new rfl).old _
  have BA : Blk ((w.alloc (.cells #[I K, I A, I B, I C, .string s, .string t] 31)).alloc (.cells #[I E, I N, I M, S T] 40)) (w.heap.size + 1) #[I E, I N, I M, S T] 40 := Blk.new (by simp)
  have h0 := h.later b0
  have hI := fun W (hW : BdR W b U a' p' q') => image_any W b U a' p' q' hW
  generalize imgF U.testBit 64 = now at *
  have fin : ∀ w2, Below w.heap.size w w2 → BdR w2 b U a' p' q' → Blk w2 w.heap.size #[I K, I A, I B, I C, .string s, .string t] 31 → Blk w2 (w.heap.size + 1) #[I E, I N, I M, S T] 40 → True := fun _ _ _ _ _ => trivial
  clear fin h
  by_cases k16 : K = 16
  · subst k16
    clear hE
    by_cases e0 : e = 0
    · subst e0
      have hO' := hO rfl
      by_cases a0 : A = 0
      · subst a0
        rw [if_pos rfl] at hO'
        go_enter Try.func20, Try.ntmps20
        go_wp2_with fail
        refine (hD _).mono ?_
        rintro e' w1 ⟨rfl, d1⟩
        have BO1 := BO.below d1 BO.lt
        have BA1 := BA.below d1 BA.lt
        have h1 := h0.later d1
        have bb1 := b0.trans (d1.mono b0.size)
        clear BO BA h0 b0 d1
        obtain ⟨o0, o1, o2⟩ := BO1.facts
        obtain ⟨x0, x1, x2⟩ := BA1.facts
        go_wp2_with fail
        refine (hO' _).mono ?_
        rintro e' w2 ⟨rfl, d2⟩
        have BO2 := BO1.below d2 BO1.lt
        have BA2 := BA1.below d2 BA1.lt
        have h2 := h1.later d2
        have bb2 := bb1.trans (d2.mono bb1.size)
        clear BO1 BA1 h1 bb1 d2 o0 o1 o2 x0 x1 x2
        obtain ⟨o0, o1, o2⟩ := BO2.facts
        obtain ⟨x0, x1, x2⟩ := BA2.facts
        go_wp2_with fail
        refine (hI _ h2).mono ?_
        rintro e' w3 ⟨rfl, d3⟩
        have BO3 := BO2.below d3 BO2.lt
        have BA3 := BA2.below d3 BA2.lt
        have h3 := h2.later d3
        have bb3 := bb2.trans (d3.mono bb2.size)
        clear d3 o0 o1 o2 x0 x1 x2
        obtain ⟨o0, o1, o2⟩ := BO3.facts
        obtain ⟨x0, x1, x2⟩ := BA3.facts
        go_wp2_with fail
        refine (hC _ h3).mono ?_
        rintro e' w4 ⟨rfl, d4⟩
        have bb4 := bb3.trans (d4.mono bb3.size)
        go_wp2
        go_ret
        exact ⟨rfl, bb4⟩
      · rw [if_neg a0] at hO'
        have a0' : (A == 0) = false := by simpa using a0
        clear a0
        go_enter Try.func20, Try.ntmps20
        go_wp2_with fail
        refine (hD _).mono ?_
        rintro e' w1 ⟨rfl, d1⟩
        have BO1 := BO.below d1 BO.lt
        have BA1 := BA.below d1 BA.lt
        have h1 := h0.later d1
        have bb1 := b0.trans (d1.mono b0.size)
        clear BO BA h0 b0 d1
        obtain ⟨o0, o1, o2⟩ := BO1.facts
        obtain ⟨x0, x1, x2⟩ := BA1.facts
        go_wp2_with fail
        refine (hO' _).mono ?_
        rintro e' w2 ⟨rfl, d2⟩
        have BO2 := BO1.below d2 BO1.lt
        have BA2 := BA1.below d2 BA1.lt
        have h2 := h1.later d2
        have bb2 := bb1.trans (d2.mono bb1.size)
        clear BO1 BA1 h1 bb1 d2 o0 o1 o2 x0 x1 x2
        obtain ⟨o0, o1, o2⟩ := BO2.facts
        obtain ⟨x0, x1, x2⟩ := BA2.facts
        go_wp2_with fail
        refine (hI _ h2).mono ?_
        rintro e' w3 ⟨rfl, d3⟩
        have BO3 := BO2.below d3 BO2.lt
        have BA3 := BA2.below d3 BA2.lt
        have h3 := h2.later d3
        have bb3 := bb2.trans (d3.mono bb2.size)
        clear d3 o0 o1 o2 x0 x1 x2
        obtain ⟨o0, o1, o2⟩ := BO3.facts
        obtain ⟨x0, x1, x2⟩ := BA3.facts
        go_wp2_with fail
        refine (hC _ h3).mono ?_
        rintro e' w4 ⟨rfl, d4⟩
        have bb4 := bb3.trans (d4.mono bb3.size)
        go_wp2
        go_ret
        exact ⟨rfl, bb4⟩
    · have hn' := hn e0
      have e0' : (e == 0) = false := by simpa using e0
      rw [hn']
      clear hO e0
      go_enter Try.func20, Try.ntmps20
      go_wp2_with fail
      refine (hD _).mono ?_
      rintro e' w1 ⟨rfl, d1⟩
      have BO1 := BO.below d1 BO.lt
      have BA1 := BA.below d1 BA.lt
      have h1 := h0.later d1
      have bb1 := b0.trans (d1.mono b0.size)
      clear BO BA h0 b0 d1
      obtain ⟨o0, o1, o2⟩ := BO1.facts
      obtain ⟨x0, x1, x2⟩ := BA1.facts
      go_wp2_with fail
      have BO2 := BO1
      have BA2 := BA1
      have h2 := h1
      have bb2 := bb1
      refine (hI _ h2).mono ?_
      rintro e' w3 ⟨rfl, d3⟩
      have BO3 := BO2.below d3 BO2.lt
      have BA3 := BA2.below d3 BA2.lt
      have h3 := h2.later d3
      have bb3 := bb2.trans (d3.mono bb2.size)
      clear d3 o0 o1 o2 x0 x1 x2
      obtain ⟨o0, o1, o2⟩ := BO3.facts
      obtain ⟨x0, x1, x2⟩ := BA3.facts
      go_wp2_with fail
      refine (hC _ h3).mono ?_
      rintro e' w4 ⟨rfl, d4⟩
      have bb4 := bb3.trans (d4.mono bb3.size)
      go_wp2
      go_ret
      exact ⟨rfl, bb4⟩
  by_cases k17 : K = 17
  · subst k17
    clear hE k16
    by_cases e0 : e = 0
    · subst e0
      have hO' := hO rfl
      by_cases a0 : A = 0
      · subst a0
        rw [if_pos rfl] at hO'
        go_enter Try.func20, Try.ntmps20
        go_wp2_with fail
        refine (hD _).mono ?_
        rintro e' w1 ⟨rfl, d1⟩
        have BO1 := BO.below d1 BO.lt
        have BA1 := BA.below d1 BA.lt
        have h1 := h0.later d1
        have bb1 := b0.trans (d1.mono b0.size)
        clear BO BA h0 b0 d1
        obtain ⟨o0, o1, o2⟩ := BO1.facts
        obtain ⟨x0, x1, x2⟩ := BA1.facts
        go_wp2_with fail
        refine (hO' _).mono ?_
        rintro e' w2 ⟨rfl, d2⟩
        have BO2 := BO1.below d2 BO1.lt
        have BA2 := BA1.below d2 BA1.lt
        have h2 := h1.later d2
        have bb2 := bb1.trans (d2.mono bb1.size)
        clear BO1 BA1 h1 bb1 d2 o0 o1 o2 x0 x1 x2
        obtain ⟨o0, o1, o2⟩ := BO2.facts
        obtain ⟨x0, x1, x2⟩ := BA2.facts
        go_wp2_with fail
        refine (hI _ h2).mono ?_
        rintro e' w3 ⟨rfl, d3⟩
        have BO3 := BO2.below d3 BO2.lt
        have BA3 := BA2.below d3 BA2.lt
        have h3 := h2.later d3
        have bb3 := bb2.trans (d3.mono bb2.size)
        clear d3 o0 o1 o2 x0 x1 x2
        obtain ⟨o0, o1, o2⟩ := BO3.facts
        obtain ⟨x0, x1, x2⟩ := BA3.facts
        go_wp2_with fail
        refine (hC _ h3).mono ?_
        rintro e' w4 ⟨rfl, d4⟩
        have bb4 := bb3.trans (d4.mono bb3.size)
        go_wp2
        go_ret
        exact ⟨rfl, bb4⟩
      · rw [if_neg a0] at hO'
        have a0' : (A == 0) = false := by simpa using a0
        clear a0
        go_enter Try.func20, Try.ntmps20
        go_wp2_with fail
        refine (hD _).mono ?_
        rintro e' w1 ⟨rfl, d1⟩
        have BO1 := BO.below d1 BO.lt
        have BA1 := BA.below d1 BA.lt
        have h1 := h0.later d1
        have bb1 := b0.trans (d1.mono b0.size)
        clear BO BA h0 b0 d1
        obtain ⟨o0, o1, o2⟩ := BO1.facts
        obtain ⟨x0, x1, x2⟩ := BA1.facts
        go_wp2_with fail
        refine (hO' _).mono ?_
        rintro e' w2 ⟨rfl, d2⟩
        have BO2 := BO1.below d2 BO1.lt
        have BA2 := BA1.below d2 BA1.lt
        have h2 := h1.later d2
        have bb2 := bb1.trans (d2.mono bb1.size)
        clear BO1 BA1 h1 bb1 d2 o0 o1 o2 x0 x1 x2
        obtain ⟨o0, o1, o2⟩ := BO2.facts
        obtain ⟨x0, x1, x2⟩ := BA2.facts
        go_wp2_with fail
        refine (hI _ h2).mono ?_
        rintro e' w3 ⟨rfl, d3⟩
        have BO3 := BO2.below d3 BO2.lt
        have BA3 := BA2.below d3 BA2.lt
        have h3 := h2.later d3
        have bb3 := bb2.trans (d3.mono bb2.size)
        clear d3 o0 o1 o2 x0 x1 x2
        obtain ⟨o0, o1, o2⟩ := BO3.facts
        obtain ⟨x0, x1, x2⟩ := BA3.facts
        go_wp2_with fail
        refine (hC _ h3).mono ?_
        rintro e' w4 ⟨rfl, d4⟩
        have bb4 := bb3.trans (d4.mono bb3.size)
        go_wp2
        go_ret
        exact ⟨rfl, bb4⟩
    · have hn' := hn e0
      have e0' : (e == 0) = false := by simpa using e0
      rw [hn']
      clear hO e0
      go_enter Try.func20, Try.ntmps20
      go_wp2_with fail
      refine (hD _).mono ?_
      rintro e' w1 ⟨rfl, d1⟩
      have BO1 := BO.below d1 BO.lt
      have BA1 := BA.below d1 BA.lt
      have h1 := h0.later d1
      have bb1 := b0.trans (d1.mono b0.size)
      clear BO BA h0 b0 d1
      obtain ⟨o0, o1, o2⟩ := BO1.facts
      obtain ⟨x0, x1, x2⟩ := BA1.facts
      go_wp2_with fail
      have BO2 := BO1
      have BA2 := BA1
      have h2 := h1
      have bb2 := bb1
      refine (hI _ h2).mono ?_
      rintro e' w3 ⟨rfl, d3⟩
      have BO3 := BO2.below d3 BO2.lt
      have BA3 := BA2.below d3 BA2.lt
      have h3 := h2.later d3
      have bb3 := bb2.trans (d3.mono bb2.size)
      clear d3 o0 o1 o2 x0 x1 x2
      obtain ⟨o0, o1, o2⟩ := BO3.facts
      obtain ⟨x0, x1, x2⟩ := BA3.facts
      go_wp2_with fail
      refine (hC _ h3).mono ?_
      rintro e' w4 ⟨rfl, d4⟩
      have bb4 := bb3.trans (d4.mono bb3.size)
      go_wp2
      go_ret
      exact ⟨rfl, bb4⟩
  obtain rfl : E = e := by rcases hE with e1 | e1 | e1; exact absurd e1 k16; exact absurd e1 k17; exact e1
  have j16 : (K != 16) = true := by simpa using k16
  have j17 : (K != 17) = true := by simpa using k17
  clear k16 k17 hE
  by_cases e0 : E = 0
  · subst e0
    have hO' := hO rfl
    by_cases a0 : A = 0
    · subst a0
      rw [if_pos rfl] at hO'
      go_enter Try.func20, Try.ntmps20
      go_wp2_with fail
      refine (hD _).mono ?_
      rintro e' w1 ⟨rfl, d1⟩
      have BO1 := BO.below d1 BO.lt
      have BA1 := BA.below d1 BA.lt
      have h1 := h0.later d1
      have bb1 := b0.trans (d1.mono b0.size)
      clear BO BA h0 b0 d1
      obtain ⟨o0, o1, o2⟩ := BO1.facts
      obtain ⟨x0, x1, x2⟩ := BA1.facts
      go_wp2_with fail
      refine (hO' _).mono ?_
      rintro e' w2 ⟨rfl, d2⟩
      have BO2 := BO1.below d2 BO1.lt
      have BA2 := BA1.below d2 BA1.lt
      have h2 := h1.later d2
      have bb2 := bb1.trans (d2.mono bb1.size)
      clear BO1 BA1 h1 bb1 d2 o0 o1 o2 x0 x1 x2
      obtain ⟨o0, o1, o2⟩ := BO2.facts
      obtain ⟨x0, x1, x2⟩ := BA2.facts
      go_wp2_with fail
      refine (hI _ h2).mono ?_
      rintro e' w3 ⟨rfl, d3⟩
      have BO3 := BO2.below d3 BO2.lt
      have BA3 := BA2.below d3 BA2.lt
      have h3 := h2.later d3
      have bb3 := bb2.trans (d3.mono bb2.size)
      clear d3 o0 o1 o2 x0 x1 x2
      obtain ⟨o0, o1, o2⟩ := BO3.facts
      obtain ⟨x0, x1, x2⟩ := BA3.facts
      go_wp2_with fail
      refine (hC _ h3).mono ?_
      rintro e' w4 ⟨rfl, d4⟩
      have bb4 := bb3.trans (d4.mono bb3.size)
      go_wp2
      go_ret
      exact ⟨rfl, bb4⟩
    · rw [if_neg a0] at hO'
      have a0' : (A == 0) = false := by simpa using a0
      clear a0
      go_enter Try.func20, Try.ntmps20
      go_wp2_with fail
      refine (hD _).mono ?_
      rintro e' w1 ⟨rfl, d1⟩
      have BO1 := BO.below d1 BO.lt
      have BA1 := BA.below d1 BA.lt
      have h1 := h0.later d1
      have bb1 := b0.trans (d1.mono b0.size)
      clear BO BA h0 b0 d1
      obtain ⟨o0, o1, o2⟩ := BO1.facts
      obtain ⟨x0, x1, x2⟩ := BA1.facts
      go_wp2_with fail
      refine (hO' _).mono ?_
      rintro e' w2 ⟨rfl, d2⟩
      have BO2 := BO1.below d2 BO1.lt
      have BA2 := BA1.below d2 BA1.lt
      have h2 := h1.later d2
      have bb2 := bb1.trans (d2.mono bb1.size)
      clear BO1 BA1 h1 bb1 d2 o0 o1 o2 x0 x1 x2
      obtain ⟨o0, o1, o2⟩ := BO2.facts
      obtain ⟨x0, x1, x2⟩ := BA2.facts
      go_wp2_with fail
      refine (hI _ h2).mono ?_
      rintro e' w3 ⟨rfl, d3⟩
      have BO3 := BO2.below d3 BO2.lt
      have BA3 := BA2.below d3 BA2.lt
      have h3 := h2.later d3
      have bb3 := bb2.trans (d3.mono bb2.size)
      clear d3 o0 o1 o2 x0 x1 x2
      obtain ⟨o0, o1, o2⟩ := BO3.facts
      obtain ⟨x0, x1, x2⟩ := BA3.facts
      go_wp2_with fail
      refine (hC _ h3).mono ?_
      rintro e' w4 ⟨rfl, d4⟩
      have bb4 := bb3.trans (d4.mono bb3.size)
      go_wp2
      go_ret
      exact ⟨rfl, bb4⟩
  · have hn' := hn e0
    have e0' : (E == 0) = false := by simpa using e0
    rw [hn']
    clear hO e0
    go_enter Try.func20, Try.ntmps20
    go_wp2_with fail
    refine (hD _).mono ?_
    rintro e' w1 ⟨rfl, d1⟩
    have BO1 := BO.below d1 BO.lt
    have BA1 := BA.below d1 BA.lt
    have h1 := h0.later d1
    have bb1 := b0.trans (d1.mono b0.size)
    clear BO BA h0 b0 d1
    obtain ⟨o0, o1, o2⟩ := BO1.facts
    obtain ⟨x0, x1, x2⟩ := BA1.facts
    go_wp2_with fail
    have BO2 := BO1
    have BA2 := BA1
    have h2 := h1
    have bb2 := bb1
    refine (hI _ h2).mono ?_
    rintro e' w3 ⟨rfl, d3⟩
    have BO3 := BO2.below d3 BO2.lt
    have BA3 := BA2.below d3 BA2.lt
    have h3 := h2.later d3
    have bb3 := bb2.trans (d3.mono bb2.size)
    clear d3 o0 o1 o2 x0 x1 x2
    obtain ⟨o0, o1, o2⟩ := BO3.facts
    obtain ⟨x0, x1, x2⟩ := BA3.facts
    go_wp2_with fail
    refine (hC _ h3).mono ?_
    rintro e' w4 ⟨rfl, d4⟩
    have bb4 := bb3.trans (d4.mono bb3.size)
    go_wp2
    go_ret
    exact ⟨rfl, bb4⟩
end Go.Proofs.Qxb6500469a
