import Derived.Test.Qxb6500470aCal13
namespace Go.Proofs.Qxb6500470a
open Go.RowKit

/-- The machine's own blocks. -/
theorem Mac.blocks {K : Nat → Prop} {w : World} {m p : Nat} {acc : Int} {l : List V} (h : Mac K w m p acc l) : ∃ L : Nat → Prop, (∀ k, L k → k < w.heap.size) ∧ (∀ k, L k → ¬ K k) ∧
    (∀ (w' : World) (K' : Nat → Prop), Kept L w w' → (∀ k, K' k → k < w'.heap.size) → (∀ k, L k → ¬ K' k) → Mac K' w' m p acc l) := by
  obtain ⟨a, cap, hA⟩ := h.st
  obtain ⟨l1, l2⟩ := hA.lt
  have lm := h.head.lt
  refine ⟨fun k => k = m ∨ k = p ∨ blk? a = some k, ?_, ?_, ?_⟩
  · rintro k (rfl | rfl | e)
    · exact lm
    · exact l1
    · exact l2 k e
  · rintro k (rfl | rfl | e)
    · exact h.km
    · exact fun hk => hA.kp (.inl hk)
    · exact fun hk => hA.ka k e (.inl hk)
  · intro w' K' hw hk hd
    have hN := hA.kept hw (.inr (.inl rfl)) (fun g hg => .inr (.inr hg))
    refine ⟨h.head.kept hw (.inl rfl), ⟨a, cap, hN.head, hN.own, hN.far, ?_, ?_, ?_, hN.le⟩, hd m (.inl rfl), h.ok, h.a1, h.a2⟩
    · rintro (e | e)
      · exact hd p (.inr (.inl rfl)) e
      · exact hA.kp (.inr e)
    · rintro g hg (e | e)
      · exact hd g (.inr (.inr hg)) e
      · exact hA.ka g hg (.inr e)
    · rintro k (e | e)
      · exact hk k e
      · rw [e]; exact Nat.lt_of_lt_of_le lm hw.size

theorem Mac.text' {K : Nat → Prop} {w : World} {m p : Nat} {acc : Int} {l : List V} (h : Mac K w m p acc l) (t : List UInt8) (ht : macTextF acc l = t) : macText acc l = t := h.text.trans ht

set_option maxRecDepth 100000 in
set_option maxHeartbeats 2000000 in
theorem unbound_walk (w : World) :
    Calls Try.prog 15 #[] w fun e w' => e = .returned (.bool true) ∧ Below w.heap.size w w' := by
  go_enter Try.func15, Try.ntmps15
  go_wp2_with fail
  refine (ground_any w).mono ?_
  rintro e w1 ⟨p, rfl, s1, b1⟩
  go_wp2_with fail
  have s2 := s1.later ((Below.refl w1.heap.size w1).alloc (Nat.le_refl _) (.cells #[ptr p] 31))
  have b2 := b1.alloc b1.size (.cells #[ptr p] 31)
  clear s1 b1
  generalize w1.alloc (.cells #[ptr p] 31) = v2 at *
  refine (macNew _ v2 p s2).mono ?_
  rintro e w3 ⟨rfl, m3, b3⟩
  have b3' := b2.trans (b3.mono b2.size)
  clear b2 b3 s2
  generalize v2.heap.size = m at *
  obtain ⟨L3, l31, l32, l33⟩ := m3.blocks
  have HL3 : Hid _ := l33
  clear l33
  go_wp2_with fail
  refine (ground_any w3).mono ?_
  rintro e w4 ⟨q, rfl, s4, b4⟩
  go_wp2_with fail
  have s5 := s4.later ((Below.refl w4.heap.size w4).alloc (Nat.le_refl _) (.cells #[ptr q] 31))
  have b5 := b4.alloc b4.size (.cells #[ptr q] 31)
  clear s4 b4
  generalize w4.alloc (.cells #[ptr q] 31) = v5 at *
  refine (macNew _ v5 q s5).mono ?_
  rintro e w6 ⟨rfl, m6, b6⟩
  have b6' := b5.trans (b6.mono b5.size)
  clear b5 b6 s5
  generalize v5.heap.size = n at *
  obtain ⟨L6, l61, l62, l63⟩ := m6.blocks
  have HL6 : Hid _ := l63
  clear l63
  have x6 : Mac (fun k => k < w.heap.size ∨ L6 k) w6 m p 0 [] := by
    refine HL3.out w6 _ ⟨b6'.os, b6'.tape, b6'.output, b6'.size, fun k hk => b6'.block k (l31 k hk)⟩ ?_ ?_
    · rintro k (e | e)
      · have := b3'.size; have := b6'.size; omega
      · exact l61 k e
    · rintro k hk (e | e)
      · exact l32 k hk e
      · exact l62 k e (l31 k hk)
  have bw6 : Below w.heap.size w w6 := b3'.trans (b6'.mono b3'.size)
  have hN : w.heap.size ≤ w3.heap.size := b3'.size
  clear m3 HL3 l31 l32 b3' b6' m6
  go_wp2_with fail
  refine (run_any _ w6 m p 0 [] x6 [35, 49, 35, 50, 97, 35, 57, 83] 8 0 9 [some (.inl 3)] (by decide) (by kernel_rfl)).mono ?_
  rintro e w7 ⟨rfl, x7, k7⟩
  obtain ⟨L7, l71, l72, l73⟩ := x7.blocks
  have y7 : Mac (fun k => k < w.heap.size ∨ L7 k) w7 n q 0 [] := by
    refine HL6.out w7 _ (k7.weak (fun k hk => .inr hk)) ?_ ?_
    · rintro k (e | e)
      · have := bw6.size; have := k7.size; omega
      · exact l71 k e
    · rintro k hk (e | e)
      · exact l62 k hk (by omega)
      · exact l72 k e (.inr hk)
  have bw7 : Below w.heap.size w w7 := bw6.trans (Kept.below (k7.weak (fun k hk => .inl hk)))
  have HL7 : Hid _ := l73
  clear x6 bw6 k7 HL6 l73
  go_wp2_with fail
  refine (run_any _ w7 n q 0 [] y7 [91, 100] 2 0 0 [none, none] (by decide) (by kernel_rfl)).mono ?_
  rintro e w8 ⟨rfl, y8, k8⟩
  have x8 : Mac (· < w.heap.size) w8 m p 9 [some (.inl 3)] := by
    refine HL7.out w8 _ (k8.weak (fun k hk => .inr hk)) ?_ ?_
    · intro k hk
      have := bw7.size; have := k8.size; omega
    · exact fun k hk e => l72 k hk (.inl e)
  have bw8 : Below w.heap.size w w8 := bw7.trans (Kept.below (k8.weak (fun k hk => .inl hk)))
  clear y7 bw7 k8 HL7 x7
  go_wp2_with fail
  refine (macShow _ w8 m p _ _ x8).mono ?_
  rintro e w9 ⟨rfl, b9⟩
  rw [x8.text' [97, 99, 99, 61, 57, 32, 124, 32, 49, 32, 51] (by decide +kernel)]
  have y9 := y8.later b9
  have bw9 := bw8.trans (b9.mono bw8.size)
  clear y8 bw8 b9 x8
  go_wp2_with fail
  refine (macShow _ w9 n q _ _ y9).mono ?_
  rintro e w10 ⟨rfl, b10⟩
  rw [y9.text' [97, 99, 99, 61, 48, 32, 124, 32, 50, 32, 91, 93, 32, 91, 93] (by decide +kernel)]
  have ha : ((str [97, 99, 99, 61, 57, 32, 124, 32, 49, 32, 51]).toList == [97, 99, 99, 61, 57, 32, 124, 32, 49, 32, 51]) = true := by rw [str_toList]; decide
  have hb : ((str [97, 99, 99, 61, 48, 32, 124, 32, 50, 32, 91, 93, 32, 91, 93]).toList == [97, 99, 99, 61, 48, 32, 124, 32, 50, 32, 91, 93, 32, 91, 93]) = true := by rw [str_toList]; decide
  go_wp2
  go_ret
  exact ⟨rfl, bw9.trans (b10.mono bw9.size)⟩

/-! ### Check -/
set_option maxRecDepth 100000 in
set_option maxHeartbeats 2000000 in
theorem stCheck_nil (K : Nat → Prop) (w : World) (p : Nat) (h : StR K w p []) :
    Calls Try.prog 48 #[ptr p] w fun e w' => e = .returned (.bool true) ∧ w' = w := by
  obtain ⟨a, cap, hA⟩ := h
  obtain ⟨c0, c1, f0, f1, lp⟩ := hA.at0
  rw [List.length_nil] at c0
  clear hA
  go_enter Try.func48, Try.ntmps48
  go_wp2
  go_loopw [3, 17] (fun b i wr => b = I 0 ∧ i = I 0 ∧ wr = w) (fun _ _ _ => 0)
  case atStart => exact ⟨rfl, rfl, rfl⟩
  case round =>
    obtain ⟨rfl, rfl, rfl⟩ := hrel
    go_wp2
    go_loopw [34] (fun i wr' => i = I 0 ∧ wr' = wr) (fun _ _ => 0)
    case atStart => exact ⟨rfl, rfl⟩
    case round =>
      obtain ⟨rfl, rfl⟩ := hrel
      go_wp2
      go_ret
      exact ⟨rfl, rfl⟩

def lowT : List Bool := [true, false, true, true, false, true, false, false, false, false, false, true, false, true, false, true, false, false, true, false, false, false, false, true, false, false]
theorem low_cell (p : Nat) (acc : Int) (i : Nat) (hi : i < 26) : (lowT.getD i false = false ∧ (macCells p acc)[2 + i]? = some .nilFunc) ∨ (lowT.getD i false = true ∧ ∃ k, (macCells p acc)[2 + i]? = some (Fv k)) := by
  have : i = 0 ∨ i = 1 ∨ i = 2 ∨ i = 3 ∨ i = 4 ∨ i = 5 ∨ i = 6 ∨ i = 7 ∨ i = 8 ∨ i = 9 ∨ i = 10 ∨ i = 11 ∨ i = 12 ∨ i = 13 ∨ i = 14 ∨ i = 15 ∨ i = 16 ∨ i = 17 ∨ i = 18 ∨ i = 19 ∨ i = 20 ∨ i = 21 ∨ i = 22 ∨ i = 23 ∨ i = 24 ∨ i = 25 := by omega
  rcases this with rfl | rfl | rfl | rfl | rfl | rfl | rfl | rfl | rfl | rfl | rfl | rfl | rfl | rfl | rfl | rfl | rfl | rfl | rfl | rfl | rfl | rfl | rfl | rfl | rfl | rfl
  all_goals first | exact .inl ⟨rfl, rfl⟩ | exact .inr ⟨rfl, _, rfl⟩
def cntT (i : Nat) : Nat := (lowT.take i).count true
theorem cntT_succ (i : Nat) (hi : i < 26) : cntT (i + 1) = cntT i + (if lowT.getD i false then 1 else 0) := by
  have h : i < lowT.length := hi
  unfold cntT
  rw [List.take_succ_eq_append_getElem h, List.count_append, List.getD_eq_getElem?_getD, List.getElem?_eq_getElem h]
  simp only [Option.getD_some]
  cases lowT[i] <;> rfl
theorem cntT_le (i : Nat) : cntT i ≤ 26 := Nat.le_trans List.count_le_length (by rw [List.length_take]; exact Nat.min_le_right _ _)

set_option maxRecDepth 100000 in
set_option maxHeartbeats 4000000 in
theorem macCheck_nil (K : Nat → Prop) (w : World) (m p : Nat) (acc : Int) (h : Mac K w m p acc []) :
    Calls Try.prog 32 #[ptr m] w fun e w' => e = .returned (.bool true) ∧ Below w.heap.size w w' := by
  obtain ⟨c0, c1, f1, lm⟩ := h.at0
  have hq0 : ∀ w, (binOp .neq 42 .nilFunc .nilFunc).run Try.prog w = .ok (.bool false) w := fun _ => by rfl
  have hq1 : ∀ k w, (binOp .neq 42 (Fv k) .nilFunc).run Try.prog w = .ok (.bool true) w := fun _ _ => by rfl
  have hq2 : ∀ k w, (binOp .eql 42 (Fv k) .nilFunc).run Try.prog w = .ok (.bool false) w := fun _ _ => by rfl
  have hst : StR (fun k => K k ∨ k = m) w p [] := h.st
  go_enter Try.func32, Try.ntmps32
  go_wp2
  go_loopw [3, 4] (fun n i wr => ∃ k : Nat, k ≤ 26 ∧ n = I (cntT k : Nat) ∧ i = I (k : Int) ∧ wr = w) (fun _ i _ => (26 - intOf i).toNat)
  case atStart => exact ⟨0, by omega, rfl, rfl, rfl⟩
  case round =>
    obtain ⟨k, hk, rfl, rfl, rfl⟩ := hrel
    have hc26 := cntT_le k
    by_cases hlt : k < 26
    · have q1 : (k : Int) < 26 := by omega
      have hs := cntT_succ k hlt
      rcases low_cell p acc k hlt with ⟨e1, e2⟩ | ⟨e1, f, e2⟩
      · have d1 := h.low _ _ e2
        rw [e1] at hs
        have HS : Hid _ := hs
        clear hs e1 e2
        go_wp2
        go_roundw
        case rel => exact ⟨k + 1, by omega, by rw [HS.out]; simp, by go_num, trivial⟩
        case measure => simp [intOf]; omega
      · have d1 := h.low _ _ e2
        rw [e1] at hs
        have HS : Hid _ := hs
        clear hs e1 e2
        go_wp2
        go_roundw
        case rel => exact ⟨k + 1, by omega, by rw [HS.out]; go_num, by go_num, trivial⟩
        case measure => simp [intOf]; omega
    · obtain rfl : k = 26 := by omega
      rw [show cntT 26 = 9 from by decide]
      go_wp2
      go_loopw [5] (fun i wr' => ∃ j : Nat, j ≤ 9 ∧ i = I (j : Int) ∧ Mac K wr' m p acc [] ∧ Below wr.heap.size wr wr') (fun i _ => (9 - intOf i).toNat)
      case atStart => exact ⟨0, by omega, rfl, h, Below.refl _ _⟩
      case round =>
        obtain ⟨j, hj, rfl, h', bn⟩ := hrel
        have hst' : StR (fun k => K k ∨ k = m) wr p [] := h'.st
        clear c0 c1 f1 lm hst
        obtain ⟨c0, c1, f1, lm⟩ := h'.at0
        by_cases hlt : j < 9
        · have hjj : j = 0 ∨ j = 1 ∨ j = 2 ∨ j = 3 ∨ j = 4 ∨ j = 5 ∨ j = 6 ∨ j = 7 ∨ j = 8 := by omega
          clear hj
          rcases hjj with rfl | rfl | rfl | rfl | rfl | rfl | rfl | rfl | rfl
          · have d1 := h'.low 2 (Fv _) rfl
            have g1 : ∀ h, ((ByteArray.mk #[97, 99, 100, 102, 108, 110, 112, 115, 120])[0]'h).toNat = 97 := fun _ => rfl
            have g2 : IntKind.u8.wrap ((97 : Int) - 97) = 0 := by decide
            go_wp2
            go_region
            go_wp2
            go_roundw
            case rel => exact ⟨1, by omega, by go_num, h'.drewN 1, bn.drew⟩
            case measure => simp [intOf]
          · have d1 := h'.low 4 (Fv _) rfl
            have g1 : ∀ h, ((ByteArray.mk #[97, 99, 100, 102, 108, 110, 112, 115, 120])[1]'h).toNat = 99 := fun _ => rfl
            have g2 : IntKind.u8.wrap ((99 : Int) - 97) = 2 := by decide
            go_wp2
            go_region
            go_wp2
            go_roundw
            case rel => exact ⟨2, by omega, by go_num, h'.drewN 1, bn.drew⟩
            case measure => simp [intOf]
          · have d1 := h'.low 5 (Fv _) rfl
            have g1 : ∀ h, ((ByteArray.mk #[97, 99, 100, 102, 108, 110, 112, 115, 120])[2]'h).toNat = 100 := fun _ => rfl
            have g2 : IntKind.u8.wrap ((100 : Int) - 97) = 3 := by decide
            go_wp2
            go_region
            go_wp2
            go_roundw
            case rel => exact ⟨3, by omega, by go_num, h'.drewN 1, bn.drew⟩
            case measure => simp [intOf]
          · have d1 := h'.low 7 (Fv _) rfl
            have g1 : ∀ h, ((ByteArray.mk #[97, 99, 100, 102, 108, 110, 112, 115, 120])[3]'h).toNat = 102 := fun _ => rfl
            have g2 : IntKind.u8.wrap ((102 : Int) - 97) = 5 := by decide
            go_wp2
            go_region
            go_wp2
            go_roundw
            case rel => exact ⟨4, by omega, by go_num, h'.drewN 1, bn.drew⟩
            case measure => simp [intOf]
          · have d1 := h'.low 13 (Fv _) rfl
            have g1 : ∀ h, ((ByteArray.mk #[97, 99, 100, 102, 108, 110, 112, 115, 120])[4]'h).toNat = 108 := fun _ => rfl
            have g2 : IntKind.u8.wrap ((108 : Int) - 97) = 11 := by decide
            go_wp2
            go_region
            go_wp2
            go_roundw
            case rel => exact ⟨5, by omega, by go_num, h'.drewN 1, bn.drew⟩
            case measure => simp [intOf]
          · have d1 := h'.low 15 (Fv _) rfl
            have g1 : ∀ h, ((ByteArray.mk #[97, 99, 100, 102, 108, 110, 112, 115, 120])[5]'h).toNat = 110 := fun _ => rfl
            have g2 : IntKind.u8.wrap ((110 : Int) - 97) = 13 := by decide
            go_wp2
            go_region
            go_wp2
            go_roundw
            case rel => exact ⟨6, by omega, by go_num, h'.drewN 1, bn.drew⟩
            case measure => simp [intOf]
          · have d1 := h'.low 17 (Fv _) rfl
            have g1 : ∀ h, ((ByteArray.mk #[97, 99, 100, 102, 108, 110, 112, 115, 120])[6]'h).toNat = 112 := fun _ => rfl
            have g2 : IntKind.u8.wrap ((112 : Int) - 97) = 15 := by decide
            go_wp2
            go_region
            go_wp2
            go_roundw
            case rel => exact ⟨7, by omega, by go_num, h'.drewN 1, bn.drew⟩
            case measure => simp [intOf]
          · have d1 := h'.low 20 (Fv _) rfl
            have g1 : ∀ h, ((ByteArray.mk #[97, 99, 100, 102, 108, 110, 112, 115, 120])[7]'h).toNat = 115 := fun _ => rfl
            have g2 : IntKind.u8.wrap ((115 : Int) - 97) = 18 := by decide
            go_wp2
            go_region
            go_wp2
            go_roundw
            case rel => exact ⟨8, by omega, by go_num, h'.drewN 1, bn.drew⟩
            case measure => simp [intOf]
          · have d1 := h'.low 25 (Fv _) rfl
            have g1 : ∀ h, ((ByteArray.mk #[97, 99, 100, 102, 108, 110, 112, 115, 120])[8]'h).toNat = 120 := fun _ => rfl
            have g2 : IntKind.u8.wrap ((120 : Int) - 97) = 23 := by decide
            go_wp2
            go_region
            go_wp2
            go_roundw
            case rel => exact ⟨9, by omega, by go_num, h'.drewN 1, bn.drew⟩
            case measure => simp [intOf]
        · obtain rfl : j = 9 := by omega
          go_wp2_with fail
          refine (stCheck_nil _ wr p hst').mono ?_
          rintro e w2 ⟨rfl, rfl⟩
          go_wp2
          go_ret
          exact ⟨rfl, bn⟩
set_option maxRecDepth 100000 in
set_option maxHeartbeats 2000000 in
theorem new_walk (w : World) :
    Calls Try.prog 21 #[] w fun e w' => e = .returned (.bool true) ∧ Below w.heap.size w w' := by
  go_enter Try.func21, Try.ntmps21
  go_wp2_with fail
  refine (ground_any w).mono ?_
  rintro e w1 ⟨p, rfl, s1, b1⟩
  go_wp2_with fail
  have s2 := s1.later ((Below.refl w1.heap.size w1).alloc (Nat.le_refl _) (.cells #[ptr p] 31))
  have b2 := b1.alloc b1.size (.cells #[ptr p] 31)
  clear s1 b1
  generalize w1.alloc (.cells #[ptr p] 31) = v2 at *
  refine (macNew _ v2 p s2).mono ?_
  rintro e w3 ⟨rfl, m3, b3⟩
  have b3' := b2.trans (b3.mono b2.size)
  clear b2 b3 s2
  generalize v2.heap.size = m at *
  go_wp2_with fail
  refine (macShow _ w3 m p _ _ m3).mono ?_
  rintro e w4 ⟨rfl, b4⟩
  rw [m3.text' [97, 99, 99, 61, 48, 32, 124, 32, 48] (by decide +kernel)]
  have m4 := m3.later b4
  have bb4 := b3'.trans (b4.mono b3'.size)
  clear m3 b4 b3'
  go_wp2_with fail
  refine (macCheck_nil _ w4 m p _ m4).mono ?_
  rintro e w5 ⟨rfl, b5⟩
  have bb5 := bb4.trans (b5.mono bb4.size)
  clear b5 bb4 m4
  go_wp2_with fail
  refine (says_any w5 [] [71] 1 0 [97, 99, 99, 61, 48, 32, 124, 32, 49, 32, 48] (by decide) (by decide) (by decide +kernel)).mono ?_
  rintro r w6 ⟨rfl, b6⟩
  have bb6 := bb5.trans (b6.mono bb5.size)
  have hb : ((str [97, 99, 99, 61, 48, 32, 124, 32, 48]).toList == [97, 99, 99, 61, 48, 32, 124, 32, 48]) = true := by rw [str_toList]; decide
  go_wp2
  go_ret
  exact ⟨rfl, bb6⟩
end Go.Proofs.Qxb6500470a
