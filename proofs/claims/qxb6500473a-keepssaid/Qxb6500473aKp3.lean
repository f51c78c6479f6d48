import Derived.Test.Qxb6500473aKp2
namespace Go.Proofs.Qxb6500473a
open Go.RowKit
attribute [local go_sem] run_store_float drewN_alloc drewN_setCell run_neg_float

theorem note_any (w : World) (q : Nat) (nu de : List Int) (A : List Nat) (h : GhR w q nu de A.length) (m : Match A nu de) (K x y z : Int) (s t : ByteArray) :
    Calls Try.prog 12 #[ptr q, OpV K x y z s t, AnsV (doA K x y A).1.1 (doA K x y A).1.2.1 (doA K x y A).1.2.2] w fun e w' => e = .returned (.bool true) ∧ (∃ nu' de', GhR w' q nu' de' (doA K x y A).2.length ∧ Match (doA K x y A).2 nu' de') ∧ Upd [q] w w' := by
  have h8 := h.le
  by_cases k1 : K = 1
  · subst k1
    by_cases hn : A.length = 8
    · have e : doA 1 x y A = ((1, 0, []), A) := by unfold doA; rw [if_pos rfl, if_pos hn]
      rw [e]
      refine (note_full w q nu de A.length h hn x y z s t 0 []).mono ?_
      rintro e w' ⟨rfl, g, u⟩
      exact ⟨rfl, ⟨nu, de, g, m⟩, u⟩
    · have e : doA 1 x y A = ((0, 0, []), A ++ [ratioF x y]) := by unfold doA; rw [if_pos rfl, if_neg hn]
      rw [e]
      refine (note_push w q nu de A.length h (by omega) x y z s t 0 []).mono ?_
      rintro e w' ⟨rfl, g, u⟩
      exact ⟨rfl, ⟨_, _, by rw [List.length_append]; exact g, m.push h.l1 h.l2 (by omega) x y⟩, u⟩
  · by_cases k2 : K = 2
    · subst k2
      by_cases hn : A = []
      · have e : doA 2 x y A = ((2, 0, []), A) := by unfold doA; rw [if_neg (by decide), if_pos rfl, if_pos hn]
        rw [e]
        subst hn
        refine (note_empty w q nu de h x y z s t 0 []).mono ?_
        rintro e w' ⟨rfl, g, u⟩
        exact ⟨rfl, ⟨nu, de, g, m⟩, u⟩
      · have e : doA 2 x y A = ((0, 0, []), A.dropLast) := by unfold doA; rw [if_neg (by decide), if_pos rfl, if_neg hn]
        rw [e]
        obtain ⟨n, hA⟩ : ∃ n, A.length = n + 1 := ⟨A.length - 1, by have := List.length_pos_iff.2 hn; omega⟩
        rw [hA] at h
        refine (note_pop w q nu de n h x y z s t 0 []).mono ?_
        rintro e w' ⟨rfl, g, u⟩
        exact ⟨rfl, ⟨nu, de, by rw [List.length_dropLast, hA]; exact g, m.pop⟩, u⟩
    · have e : (doA K x y A).2 = A := by
        unfold doA
        rw [if_neg k1, if_neg k2]
        repeat (first | rfl | split)
      rw [e]
      refine (note_other w q nu de A.length h K x y z k1 k2 s t _ _ _).mono ?_
      rintro e w' ⟨rfl, g, u⟩
      exact ⟨rfl, ⟨nu, de, g, m⟩, u⟩

set_option maxHeartbeats 1000000 in
theorem texts_any (w : World) : Calls Try.prog 10 #[] w fun e w' => e = .returned (.bool true) ∧ Below w.heap.size w w' := by
  obtain ⟨rq, nq, hq, cq⟩ := arith_ex Try.prog .quo 44 .f64 (by simp)
  go_enter Try.func10, Try.ntmps10
  go_wp2_with fail
  refine (text_any _ _).mono ?_
  rintro e w1 ⟨rfl, b1⟩
  rw [show S (text64 4607182418800017408) = .string _ from congrArg Value.string tx_one]
  go_wp2_with fail
  refine (text_any _ _).mono ?_
  rintro e w2 ⟨rfl, b2⟩
  rw [show S (text64 0) = .string _ from congrArg Value.string tx_zero]
  have b2' := b1.trans (b2.mono b1.size)
  clear b1 b2
  go_wp2_with fail
  refine (text_any _ _).mono ?_
  rintro e w3 ⟨rfl, b3⟩
  rw [show S (text64 (Op.negFloat .f64 0)) = .string _ from congrArg Value.string tx_minus]
  have b3' := b2'.trans (b3.mono b2'.size)
  clear b2' b3
  go_wp2_with fail
  refine (text_any _ _).mono ?_
  rintro e w4 ⟨rfl, b4⟩
  rw [show S (text64 (rq 4607182418800017408 0 w3)) = .string _ from congrArg Value.string (tx_up ((cq.out _ _ _).trans (by decide +kernel)))]
  have b4' := (Below.drewN b3' _).trans (b4.mono b3'.size)
  clear b3' b4
  go_wp2_with fail
  refine (text_any _ _).mono ?_
  rintro e w5 ⟨rfl, b5⟩
  rw [show S (text64 (rq 13830554455654793216 0 w4)) = .string _ from congrArg Value.string (tx_down ((cq.out _ _ _).trans (by decide +kernel)))]
  have b5' := (Below.drewN b4' _).trans (b5.mono b4'.size)
  clear b4' b5
  go_wp2_with fail
  refine (text_any _ _).mono ?_
  rintro e w6 ⟨rfl, b6⟩
  rw [show S (text64 (rq 0 0 w5)) = .string _ from congrArg Value.string (tx_none ((cq.out _ _ _).trans (by decide +kernel)))]
  have b6' := (Below.drewN b5' _).trans (b6.mono b5'.size)
  clear b5' b6
  go_wp2
  go_ret
  exact ⟨rfl, b6'⟩

set_option maxHeartbeats 1000000 in
theorem beyond_any (w : World) (p bl : Nat) (A : List Nat) (h : SerA w p bl A) (i : Int) (hi : i < 0 ∨ (A.length : Int) ≤ i) :
    Calls Try.prog 15 #[ptr p, I i] w fun e w' => e = .returned (.bool true) ∧ Below w.heap.size w w' := by
  go_enter Try.func15, Try.ntmps15
  go_wp2_with fail
  refine (at_none w p bl A h i hi).mono ?_
  rintro e w1 ⟨rfl, m, rfl⟩
  go_wp2_with fail
  refine (whole_none (w.drewN m) p bl A (h.drewN m) i hi).mono ?_
  rintro e w2 ⟨rfl, m2, e2⟩
  have b2 : Below w.heap.size w w2 := by rw [e2]; exact Below.drewN (Below.drewN (Below.refl _ _) m) m2
  clear e2
  go_wp2_with fail
  refine (text_any _ _).mono ?_
  rintro e w3 ⟨rfl, b3⟩
  rw [show S (text64 0) = .string _ from congrArg Value.string tx_zero]
  go_wp2
  go_ret
  exact ⟨rfl, b2.trans (b3.mono b2.size)⟩

set_option maxHeartbeats 4000000 in
theorem apart_any (w : World) (q : Nat) (nu de : List Int) (n : Nat) (h : GhR w q nu de n) :
    Calls Try.prog 13 #[ptr q] w fun e w' => e = .returned (.bool true) ∧ Below w.heap.size w w' := by
  obtain ⟨rq, nq, hq, cq⟩ := arith_ex Try.prog .quo 44 .f64 (by simp)
  have h8 := h.le
  go_enter Try.func13, Try.ntmps13
  go_wp2
  go_loopw [3] (fun i wr => ∃ j : Nat, j ≤ n ∧ i = I (j : Int) ∧ GhR wr q nu de n ∧ Below w.heap.size w wr) (fun i _ => (n - intOf i).toNat)
  case atStart => exact ⟨0, by omega, rfl, h, Below.refl _ _⟩
  case round =>
    obtain ⟨i, hi, rfl, gr, br⟩ := hrel
    have c16 := gr.cnt
    by_cases hlt : i < n
    · have c1 := gr.num i (by omega)
      have c2 := gr.den i (by omega)
      have hin : (i : Int) < (n : Int) := by omega
      have hi8 : (i : Int) < 8 := by omega
      generalize nu.getD i 0 = x at *
      generalize de.getD i 0 = y at *
      go_wp2_with fail
      go_region
      go_wp2_with fail
      generalize rq (floatOfInt .f64 x) (floatOfInt .f64 y) wr.drew = a at *
      refine (text_any _ _).mono ?_
      rintro e w1 ⟨rfl, b1⟩
      have g1 : GhR w1 q nu de n := (gr.drewN _).later b1
      have bb1 : Below w.heap.size w w1 := (Below.drewN br _).trans (b1.mono br.size)
      clear c16 c1 c2 b1 gr br
      go_wp2
      go_loopw [6] (fun k wr => ∃ j : Nat, j ≤ i ∧ k = I (j : Int) ∧ GhR wr q nu de n ∧ Below w.heap.size w wr) (fun k _ => (i - intOf k).toNat)
      case atStart => exact ⟨0, by omega, rfl, g1, bb1⟩
      case round =>
        clear g1 bb1
        obtain ⟨j, hj, rfl, gr, br⟩ := hrel
        by_cases hjl : j < i
        · have c1 := gr.num j (by omega)
          have c2 := gr.den j (by omega)
          have hjn : (j : Int) < (i : Int) := by omega
          have hj8 : (j : Int) < 8 := by omega
          generalize nu.getD j 0 = x2 at *
          generalize de.getD j 0 = y2 at *
          go_wp2_with fail
          go_region
          go_wp2_with fail
          generalize rq (floatOfInt .f64 x2) (floatOfInt .f64 y2) wr.drew = b at *
          generalize 1 + nq (floatOfInt .f64 x2) (floatOfInt .f64 y2) = m at *
          refine (lawSame_any a b _).mono ?_
          rintro e w2 ⟨r, rfl, hr, rfl⟩
          have hE : ((str (text64 a)).toList == (str (text64 b)).toList) = r := by
            rw [Bool.eq_iff_iff, hr, beq_iff_eq, str_toList, str_toList]
            exact text_same a b
          clear hr c1 c2
          go_wp2_with fail
          refine (text_any _ _).mono ?_
          rintro e w3 ⟨rfl, b3⟩
          have g3 : GhR w3 q nu de n := (gr.drewN m).later b3
          have bb3 : Below w.heap.size w w3 := (Below.drewN br m).trans (b3.mono br.size)
          clear gr br b3
          go_wp2
          go_roundw
          case rel => exact ⟨j + 1, by omega, by go_num, g3, bb3⟩
          case measure => simp [intOf]; omega
        · have hjn : ¬ (j : Int) < (i : Int) := by omega
          go_wp2
          go_roundw
          case rel => exact ⟨i + 1, by omega, by go_num, gr, br⟩
          case measure => simp [intOf]; omega
    · have hin : ¬ (i : Int) < (n : Int) := by omega
      go_wp2
      go_ret
      exact ⟨rfl, br⟩
end Go.Proofs.Qxb6500473a
