import Derived.Test.Qxb6500469aWd6
import Derived.Test.Qxb6500469aWItoa
namespace Go.Proofs.Qxb6500469a
open Go.RowKit

def textL (l : List Nat) : List UInt8 := l.flatMap fun (x : Nat) => itoa (x : Int) ++ [44]
theorem textL_snoc (l : List Nat) (x : Nat) : textL (l ++ [x]) = textL l ++ (itoa (x : Int) ++ [44]) := by
  unfold textL
  rw [List.flatMap_append]
  simp
theorem textL_len : ∀ l : List Nat, (∀ x ∈ l, x < 64) → (textL l).length ≤ 21 * l.length
  | [], _ => by simp [textL]
  | x :: l, h => by
    have ih := textL_len l (fun y hy => h y (List.mem_cons_of_mem _ hy))
    have hx := h x (by simp)
    have hi := itoa_len (x : Int) (by omega) (by omega)
    have e : textL (x :: l) = (itoa (x : Int) ++ [44]) ++ textL l := by unfold textL; rw [List.flatMap_cons]
    have e4 : ([44] : List UInt8).length = 1 := rfl
    rw [e, List.length_append, List.length_append, e4, List.length_cons]
    omega
theorem textB_len (u k : Nat) (hk : k ≤ 64) : (textL (bitsL u k)).length ≤ 1344 := by
  have h1 := textL_len (bitsL u k) (fun x hx => by have := ((bitsL_mem u k x).1 hx).1; omega)
  have h2 := bitsL_len u k
  omega
def tailT (a p q : Int) : List UInt8 := [125] ++ itoa a ++ [59] ++ itoa p ++ [59] ++ itoa q ++ [59]
def showW (u : Nat) (a p q : Int) : List UInt8 := [123] ++ textL (bitsL u 64) ++ tailT a p q
theorem hasB_nat (u k : Nat) (hk : k < 64) : hasB u (k : Int) = u.testBit k := by
  unfold hasB inB
  rw [decide_eq_true ⟨by omega, by omega⟩, Int.toNat_natCast, Bool.true_and]

set_option maxRecDepth 100000 in
set_option maxHeartbeats 4000000 in
theorem show_any (w : World) (b u : Nat) (a p q : Int) (h : BdR w b u a p q) : Calls Try.prog 17 #[ptr b] w fun e w' => e = .returned (S (showW u a p q)) ∧ Below w.heap.size w w' := by
  have ha := h.ha
  have hp := h.hp
  have hq := h.hq
  go_enter Try.func17, Try.ntmps17
  go_wp2
  go_loopw [3, 4] (fun t i wr => ∃ k : Nat, k ≤ 64 ∧ t = S ([123] ++ textL (bitsL u k)) ∧ i = I k ∧ BdR wr b u a p q ∧ Below w.heap.size w wr) (fun _ i _ => (64 - intOf i).toNat)
  case atStart => exact ⟨0, by omega, rfl, rfl, h, Below.refl _ _⟩
  case round =>
    clear h
    obtain ⟨k, hk, rfl, rfl, hr, br⟩ := hrel
    have hlen := textB_len u k hk
    by_cases hlt : k < 64
    · have q1 : (k : Int) < 64 := by omega
      have hH := has_any wr b u a p q hr (k : Int)
      rw [hasB_nat u k hlt] at hH
      have hstep : bitsL u (k + 1) = if u.testBit k then bitsL u k ++ [k] else bitsL u k := rfl
      have HL : Hid _ := hlen
      clear hlen
      cases hb : u.testBit k with
      | false =>
        rw [hb] at hH hstep
        rw [if_neg (by simp)] at hstep
        have HS : Hid _ := hstep
        clear hstep
        go_wp2_with fail
        refine hH.mono ?_
        rintro e w1 ⟨rfl, rfl⟩
        go_wp2
        go_roundw
        case rel => exact ⟨k + 1, by omega, by rw [HS.out]; rfl, by go_num, hr, br⟩
        case measure => simp [intOf]; omega
      | true =>
        rw [hb] at hH hstep
        rw [if_pos rfl] at hstep
        have e1 : [123] ++ textL (bitsL u (k + 1)) = [123] ++ textL (bitsL u k) ++ itoa (k : Int) ++ [44] := by rw [hstep, textL_snoc]; simp only [List.append_assoc]
        have HS : Hid _ := e1
        have hil := itoa_len (k : Int) (by omega) (by omega)
        rw [← str_size] at hil
        have hpl : (str ([123] ++ textL (bitsL u k))).size ≤ 1345 := by have := HL.out; rw [str_size]; simp only [List.length_append, List.length_singleton]; omega
        clear hstep e1
        generalize [123] ++ textL (bitsL u k) = pre at *
        go_wp2_with fail
        refine hH.mono ?_
        rintro e w1 ⟨rfl, rfl⟩
        go_wp2_with fail
        refine (itoa_any (k : Int) (by omega) (by omega) w1).mono ?_
        rintro e w4 ⟨rfl, d4⟩
        have h4 := hr.later d4
        have b4' := br.trans (d4.mono br.size)
        clear d4 hr br hH
        go_wp2
        go_roundw
        case rel =>
          refine ⟨k + 1, by omega, ?_, by go_num, h4, b4'⟩
          show Value.string (str pre ++ str (itoa (k : Int)) ++ str [44]) = _
          rw [HS.out]
          simp only [str_append]
        case measure => simp [intOf]; omega
    · obtain rfl : k = 64 := by omega
      have hpl : (str ([123] ++ textL (bitsL u 64))).size ≤ 1345 := by rw [str_size]; simp only [List.length_append, List.length_singleton]; omega
      have e1 : showW u a p q = [123] ++ textL (bitsL u 64) ++ [125] ++ itoa a ++ [59] ++ itoa p ++ [59] ++ itoa q ++ [59] := by unfold showW tailT; simp
      have HE1 : Hid _ := e1
      have hia := itoa_len a (by omega) (by omega)
      rw [← str_size] at hia
      have hip := itoa_len p (by omega) (by omega)
      rw [← str_size] at hip
      have hiq := itoa_len q (by omega) (by omega)
      rw [← str_size] at hiq
      clear e1 hlen hlt
      generalize [123] ++ textL (bitsL u 64) = pre at *
      have hR := regs_any wr b u a p q hr
      go_wp2_with fail
      refine hR.mono ?_
      rintro e w1 ⟨rfl, d1⟩
      have b1 := br.trans (d1.mono br.size)
      clear hr br d1 hR
      go_wp2_with fail
      refine (itoa_any a (by omega) (by omega) w1).mono ?_
      rintro e w2 ⟨rfl, d2⟩
      have b2 := b1.trans (d2.mono b1.size)
      clear b1 d2
      go_wp2_with fail
      refine (itoa_any p (by omega) (by omega) w2).mono ?_
      rintro e w3 ⟨rfl, d3⟩
      have b3 := b2.trans (d3.mono b2.size)
      clear b2 d3
      go_wp2_with fail
      refine (itoa_any q (by omega) (by omega) w3).mono ?_
      rintro e w4 ⟨rfl, d4⟩
      have b4 := b3.trans (d4.mono b3.size)
      clear b3 d4
      go_wp2
      go_ret
      refine ⟨?_, b4⟩
      rw [HE1.out]
      show Ending.returned (.string (str pre ++ str [125] ++ str (itoa a) ++ str [59] ++ str (itoa p) ++ str [59] ++ str (itoa q) ++ str [59])) = _
      simp only [str_append]
end Go.Proofs.Qxb6500469a
