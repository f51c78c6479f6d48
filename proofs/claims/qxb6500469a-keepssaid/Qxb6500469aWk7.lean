import Derived.Test.Qxb6500469aWk1
namespace Go.Proofs.Qxb6500469a
open Go.RowKit

set_option maxRecDepth 100000 in
set_option maxHeartbeats 8000000 in
theorem shown_any (w : World) (xb bm bo wi oi : Nat) (hX : ∀ W, Below w.heap.size w W → Pair W xb bm bo wi oi) (u : Nat) (a p q : Int) (hm : BdR w bm u a p q) (v : Nat) (a2 p2 q2 : Int) (ho : BdR w bo v a2 p2 q2) :
    Calls Try.prog 22 #[.slice (some ⟨xb, 0, none⟩) 2 2, I wi, S (showW v a2 p2 q2)] w fun e w' => e = .returned (.bool true) ∧ Below w.heap.size w w' := by
  have ha := hm.ha
  have hp := hm.hp
  have hq := hm.hq
  have HX : Hid _ := hX
  have hX0 := hX w (Below.refl _ _)
  have hsum := hX0.sum
  have co := hX0.ho
  have y1 : (wi : Int) < 2 := by omega
  have y1' : (0 : Int) ≤ (wi : Int) := by omega
  have y2 : (oi : Int) < 2 := by omega
  have y3 : (1 : Int) - (wi : Int) = (oi : Int) := by omega
  have y4 := wr64 (oi : Int) (by omega) (by omega)
  have hS := show_any w bo v a2 p2 q2 ho
  generalize showW v a2 p2 q2 = FT at *
  clear hX hX0 ho
  go_enter Try.func22, Try.ntmps22
  go_wp2_with fail
  refine hS.mono ?_
  rintro e w1 ⟨rfl, d1⟩
  have h1 := hm.later d1
  clear co hS hm
  go_wp2
  go_loopw [7, 8] (fun tt i wr => ∃ k : Nat, k ≤ 64 ∧ tt = S ([123] ++ textL (bitsL u k)) ∧ i = I k ∧ BdR wr bm u a p q ∧ Below w.heap.size w wr) (fun _ i _ => (64 - intOf i).toNat)
  case atStart => exact ⟨0, by omega, rfl, rfl, h1, d1⟩
  case round =>
    clear h1 d1
    obtain ⟨k, hk, rfl, rfl, hr, br⟩ := hrel
    have hlen := textB_len u k hk
    have cm := (HX.out _ br).hm
    by_cases hlt : k < 64
    · have q5 : (k : Int) < 64 := by omega
      have hH := has_any wr bm u a p q hr (k : Int)
      rw [hasB_nat u k hlt] at hH
      have hstep : bitsL u (k + 1) = if u.testBit k then bitsL u k ++ [k] else bitsL u k := rfl
      have HL : Hid _ := hlen
      clear hlen
      cases hb : u.testBit k with
      | false =>
        rw [hb] at hH hstep
        rw [if_neg (by simp)] at hstep
        have HS : Hid _ := hstep
        clear hstep
        go_wp2_with fail
        refine hH.mono ?_
        rintro e w1 ⟨rfl, rfl⟩
        go_wp2
        go_roundw
        case rel => exact ⟨k + 1, by omega, (by rw [HS.out]; rfl), by go_num, hr, br⟩
        case measure => simp [intOf]; omega
      | true =>
        rw [hb] at hH hstep
        rw [if_pos rfl] at hstep
        have e1 : [123] ++ textL (bitsL u (k + 1)) = [123] ++ textL (bitsL u k) ++ itoa (k : Int) ++ [44] := by rw [hstep, textL_snoc]; simp only [List.append_assoc]
        have HS : Hid _ := e1
        have hil := itoa_len (k : Int) (by omega) (by omega)
        rw [← str_size] at hil
        have hpl : (str ([123] ++ textL (bitsL u k))).size ≤ 1345 := by have := HL.out; rw [str_size]; simp only [List.length_append, List.length_singleton]; omega
        clear hstep e1
        generalize [123] ++ textL (bitsL u k) = pre at *
        go_wp2_with fail
        refine hH.mono ?_
        rintro e w1 ⟨rfl, rfl⟩
        go_wp2_with fail
        refine (itoa_any (k : Int) (by omega) (by omega) w1).mono ?_
        rintro e w4 ⟨rfl, d4⟩
        have h4 := hr.later d4
        have b4' := br.trans (d4.mono br.size)
        clear d4 hr br hH cm
        go_wp2
        go_roundw
        case rel =>
          refine ⟨k + 1, by omega, ?_, by go_num, h4, b4'⟩
          show Value.string (str pre ++ str (itoa (k : Int)) ++ str [44]) = _
          rw [HS.out]
          simp only [str_append]
        case measure => simp [intOf]; omega
    · obtain rfl : k = 64 := by omega
      have hpl : (str ([123] ++ textL (bitsL u 64))).size ≤ 1345 := by rw [str_size]; simp only [List.length_append, List.length_singleton]; omega
      have hfin : showW u a p q = [123] ++ textL (bitsL u 64) ++ tailT a p q := rfl
      have hia := itoa_len a (by omega) (by omega)
      have hip := itoa_len p (by omega) (by omega)
      have hiq := itoa_len q (by omega) (by omega)
      have hShow := fun W (hW : BdR W bm u a p q) => show_any W bm u a p q hW
      rw [hfin] at hShow
      clear hfin hlen hlt
      generalize [123] ++ textL (bitsL u 64) = pre at *
      have hN := nums_any wr bm u a p q hr
      go_wp2_with fail
      refine hN.mono ?_
      rintro e w2 ⟨rfl, d2⟩
      have aN := (Below.refl w2.heap.size w2).alloc (Nat.le_refl _) (.cells #[I a, I p, I q] 36)
      have h3 := (hr.later d2).later aN
      have BN : Blk (w2.alloc (.cells #[I a, I p, I q] 36)) w2.heap.size #[I a, I p, I q] 36 := Blk.new rfl
      have bb3 := (br.trans (d2.mono br.size)).trans (aN.mono (by have := br.size; have := d2.size; omega))
      clear cm hN d2 hr br aN
      go_wp2
      generalize w2.alloc (.cells #[I a, I p, I q] 36) = v3 at *
      generalize w2.heap.size = NB at *
      go_loopw [7, 10] (fun tt i wr' => ∃ j : Nat, j ≤ 3 ∧ tt = S (pre ++ rgT a p q j) ∧ i = I j ∧ BdR wr' bm u a p q ∧ Blk wr' NB #[I a, I p, I q] 36 ∧ Below w.heap.size w wr') (fun _ i _ => (3 - intOf i).toNat)
      case atStart =>
        refine ⟨0, by omega, ?_, rfl, h3, BN, bb3⟩
        show Value.string (str pre ++ str [125]) = _
        rw [str_append]
        rfl
      case round =>
        clear h3 BN bb3
        obtain ⟨j, hj, rfl, rfl, hr, BN, br⟩ := hrel
        have m0 : wr.cell? ⟨NB, 0, none⟩ = some (I a) := BN.cell 0
        have m1 : wr.cell? ⟨NB, 1, none⟩ = some (I p) := BN.cell 1
        have m2 : wr.cell? ⟨NB, 2, none⟩ = some (I q) := BN.cell 2
        have hpl2 : (str (pre ++ rgT a p q j)).size ≤ 1600 := by
          rw [str_size] at hpl ⊢
          have : j = 0 ∨ j = 1 ∨ j = 2 ∨ j = 3 := by omega
          rcases this with rfl | rfl | rfl | rfl
          · simp [rgT]; omega
          · simp [rgT]; omega
          · simp [rgT]; omega
          · simp [rgT, tailT]; omega
        rw [← str_size] at hia hip hiq
        have hjj : j = 0 ∨ j = 1 ∨ j = 2 ∨ j = 3 := by omega
        clear hj
        rcases hjj with rfl | rfl | rfl | rfl
        · generalize hP0 : pre ++ rgT a p q 0 = P0 at *
          have HP : Hid _ := hP0
          clear hP0
          go_wp2_with fail
          refine (itoa_any a (by omega) (by omega) wr).mono ?_
          rintro e w4 ⟨rfl, d4⟩
          have h4 := hr.later d4
          have BN4 := BN.below d4 BN.lt
          have b4' := br.trans (d4.mono br.size)
          go_wp2
          go_roundw
          case rel =>
            refine ⟨1, by omega, ?_, rfl, h4, BN4, b4'⟩
            show Value.string (str P0 ++ str (itoa a) ++ str [59]) = _
            rw [← HP.out]
            simp only [str_append, rgT, List.append_assoc]
          case measure => simp [intOf]
        · generalize hP0 : pre ++ rgT a p q 1 = P0 at *
          have HP : Hid _ := hP0
          clear hP0
          go_wp2_with fail
          refine (itoa_any p (by omega) (by omega) wr).mono ?_
          rintro e w4 ⟨rfl, d4⟩
          have h4 := hr.later d4
          have BN4 := BN.below d4 BN.lt
          have b4' := br.trans (d4.mono br.size)
          go_wp2
          go_roundw
          case rel =>
            refine ⟨2, by omega, ?_, rfl, h4, BN4, b4'⟩
            show Value.string (str P0 ++ str (itoa p) ++ str [59]) = _
            rw [← HP.out]
            simp only [str_append, rgT, List.append_assoc]
          case measure => simp [intOf]
        · generalize hP0 : pre ++ rgT a p q 2 = P0 at *
          have HP : Hid _ := hP0
          clear hP0
          go_wp2_with fail
          refine (itoa_any q (by omega) (by omega) wr).mono ?_
          rintro e w4 ⟨rfl, d4⟩
          have h4 := hr.later d4
          have BN4 := BN.below d4 BN.lt
          have b4' := br.trans (d4.mono br.size)
          go_wp2
          go_roundw
          case rel =>
            refine ⟨3, by omega, ?_, rfl, h4, BN4, b4'⟩
            show Value.string (str P0 ++ str (itoa q) ++ str [59]) = _
            rw [← HP.out]
            simp only [str_append, rgT, tailT, List.append_assoc]
          case measure => simp [intOf]
        · have cm := (HX.out _ br).hm
          rw [show rgT a p q 3 = tailT a p q from rfl] at hpl2 ⊢
          generalize pre ++ tailT a p q = FIN at *
          go_wp2_with fail
          refine (hShow _ hr).mono ?_
          rintro e w5 ⟨rfl, d5⟩
          have b5 := br.trans (d5.mono br.size)
          go_wp2
          go_ret
          exact ⟨by simp [go_sem], b5⟩
end Go.Proofs.Qxb6500469a
