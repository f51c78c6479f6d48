import Derived.Test.Qxb6500469aWm4
namespace Go.Proofs.Qxb6500469a
open Go.RowKit

/-! ### least and greatest, by the list -/
def lowN (u : Nat) : Nat := (bitsL u 64).getD 0 0
def hiN (u : Nat) : Nat := (bitsL u 64).getD ((bitsL u 64).length - 1) 0
def someB (u : Nat) : Bool := decide (0 < popU u)
theorem getD_at (l : List Nat) (k : Nat) (hk : k < l.length) : l.getD k 0 = l[k] := by rw [List.getD_eq_getElem?_getD, List.getElem?_eq_getElem hk]; rfl
theorem mem_pop (u x : Nat) (h : x ∈ bitsL u 64) : 0 < popU u := List.length_pos_of_mem h
theorem low_law (u l : Nat) (h : LowAt u l) : lowN u = l ∧ someB u = true := by
  obtain ⟨h1, h2, h3⟩ := h
  have hm := (bitsL_mem u 64 l).2 ⟨h1, h2⟩
  have hp := mem_pop u l hm
  refine ⟨?_, decide_eq_true hp⟩
  unfold lowN
  obtain ⟨i, hi, e⟩ := List.getElem_of_mem hm
  have hz : 0 < (bitsL u 64).length := hp
  rw [getD_at _ 0 hz]
  by_cases h0 : i = 0
  · subst h0; exact e
  · have hr := List.pairwise_iff_getElem.1 (bitsL_rise u 64) 0 i hz hi (by omega)
    rw [e] at hr
    have := h3 _ hr
    rw [((bitsL_mem u 64 _).1 (List.getElem_mem hz)).2] at this
    cases this
theorem high_law (u l : Nat) (h : HighAt u l) : hiN u = l ∧ someB u = true := by
  obtain ⟨h1, h2, h3⟩ := h
  have hb : u.testBit l = true := Nat.testBit_of_two_pow_le_and_two_pow_add_one_gt h2 h3
  have hm := (bitsL_mem u 64 l).2 ⟨h1, hb⟩
  have hp := mem_pop u l hm
  refine ⟨?_, decide_eq_true hp⟩
  unfold hiN
  obtain ⟨i, hi, e⟩ := List.getElem_of_mem hm
  have hz : (bitsL u 64).length - 1 < (bitsL u 64).length := by omega
  rw [getD_at _ _ hz]
  by_cases h0 : i = (bitsL u 64).length - 1
  · subst h0; exact e
  · have hr := List.pairwise_iff_getElem.1 (bitsL_rise u 64) i _ hi hz (by omega)
    rw [e] at hr
    have hx := ((bitsL_mem u 64 _).1 (List.getElem_mem hz)).2
    rw [Nat.testBit_lt_two_pow (Nat.lt_of_lt_of_le h3 (Nat.pow_le_pow_right (by decide) hr))] at hx
    cases hx
theorem low_zero : lowN 0 = 0 ∧ hiN 0 = 0 ∧ someB 0 = false := by
  unfold lowN hiN someB popU
  rw [bitsL_zero]
  exact ⟨rfl, rfl, rfl⟩
theorem lowest_fun (w : World) (b u : Nat) (a p q : Int) (h : BdR w b u a p q) : Calls Try.prog 39 #[ptr b] w fun e w' => e = .returned (.tuple #[I (lowN u : Nat), .bool (someB u)]) ∧ Below w.heap.size w w' := by
  refine (lowest_any w b u a p q h).mono ?_
  rintro e w' ⟨(⟨rfl, rfl⟩ | ⟨l, hl, rfl⟩), b1⟩
  · rw [low_zero.1, low_zero.2.2]; exact ⟨rfl, b1⟩
  · obtain ⟨e1, e2⟩ := low_law u l hl
    rw [e1, e2]; exact ⟨rfl, b1⟩
theorem highest_fun (w : World) (b u : Nat) (a p q : Int) (h : BdR w b u a p q) : Calls Try.prog 40 #[ptr b] w fun e w' => e = .returned (.tuple #[I (hiN u : Nat), .bool (someB u)]) ∧ Below w.heap.size w w' := by
  refine (highest_any w b u a p q h).mono ?_
  rintro e w' ⟨(⟨rfl, rfl⟩ | ⟨l, hl, rfl⟩), b1⟩
  · rw [low_zero.2.1, low_zero.2.2]; exact ⟨rfl, b1⟩
  · obtain ⟨e1, e2⟩ := high_law u l hl
    rw [e1, e2]; exact ⟨rfl, b1⟩

set_option maxHeartbeats 1000000 in
theorem mcount_any (w : World) (b : Nat) (ad : Option Addr) (cap u : Nat) (a p q : Int) (h : MbR w b ad cap u a p q) : Calls Try.prog 74 #[ptr b] w fun e w' => e = .returned (I (popU u)) ∧ w' = w := by
  obtain ⟨c0, -, -, -⟩ := h.cells
  unfold popU
  generalize (bitsL u 64).length = L at *
  go_enter Try.func74, Try.ntmps74
  go_wp2
  go_ret
  exact ⟨rfl, rfl⟩
set_option maxHeartbeats 1000000 in
theorem mlowest_any (w : World) (b : Nat) (ad : Option Addr) (cap u : Nat) (a p q : Int) (h : MbR w b ad cap u a p q) : Calls Try.prog 75 #[ptr b] w fun e w' => e = .returned (.tuple #[I (lowN u : Nat), .bool (someB u)]) ∧ Below w.heap.size w w' := by
  obtain ⟨c0, -, -, -⟩ := h.cells
  have hl := bitsL_len u 64
  by_cases hz : (bitsL u 64).length = 0
  · have e0 : bitsL u 64 = [] := List.length_eq_zero_iff.1 hz
    have e1 : lowN u = 0 ∧ someB u = false := by unfold lowN someB popU; rw [e0]; exact ⟨rfl, rfl⟩
    rw [e1.1, e1.2]
    rw [hz] at c0
    go_enter Try.func75, Try.ntmps75
    go_wp2
    go_ret2
    exact ⟨rfl, Below.refl _ _⟩
  · obtain ⟨g, rfl, r0, r1⟩ := h.row 0 (by omega)
    have e1 : someB u = true := decide_eq_true (by unfold popU; omega)
    rw [e1]
    unfold lowN
    have hz' : (((bitsL u 64).length : Int) == 0) = false := by simp; exact fun e => hz (by rw [e]; rfl)
    have hpos : (0 : Int) < ((bitsL u 64).length : Int) := by omega
    generalize (bitsL u 64).getD 0 0 = x at *
    generalize (bitsL u 64).length = L at *
    clear hz
    go_enter Try.func75, Try.ntmps75
    go_wp2
    go_ret2
    exact ⟨rfl, Below.refl _ _⟩
set_option maxHeartbeats 1000000 in
theorem mhighest_any (w : World) (b : Nat) (ad : Option Addr) (cap u : Nat) (a p q : Int) (h : MbR w b ad cap u a p q) : Calls Try.prog 76 #[ptr b] w fun e w' => e = .returned (.tuple #[I (hiN u : Nat), .bool (someB u)]) ∧ Below w.heap.size w w' := by
  obtain ⟨c0, -, -, -⟩ := h.cells
  have hl := bitsL_len u 64
  by_cases hz : (bitsL u 64).length = 0
  · have e0 : bitsL u 64 = [] := List.length_eq_zero_iff.1 hz
    have e1 : hiN u = 0 ∧ someB u = false := by unfold hiN someB popU; rw [e0]; exact ⟨rfl, rfl⟩
    rw [e1.1, e1.2]
    rw [hz] at c0
    go_enter Try.func76, Try.ntmps76
    go_wp2
    go_ret2
    exact ⟨rfl, Below.refl _ _⟩
  · obtain ⟨g, rfl, r0, r1⟩ := h.row ((bitsL u 64).length - 1) (by omega)
    have e1 : someB u = true := decide_eq_true (by unfold popU; omega)
    rw [e1]
    unfold hiN
    have hz' : (((bitsL u 64).length : Int) == 0) = false := by simp; exact fun e => hz (by rw [e]; rfl)
    generalize (bitsL u 64).getD ((bitsL u 64).length - 1) 0 = x at *
    obtain ⟨L, hL⟩ : ∃ L, (bitsL u 64).length = L + 1 := ⟨(bitsL u 64).length - 1, by omega⟩
    rw [hL] at c0 r0 r1 hz' hl
    rw [show L + 1 - 1 = L from by omega] at r0
    have q1 : ((L + 1 : Nat) : Int) - 1 = (L : Int) := by omega
    have q2 : (L : Int) < ((L + 1 : Nat) : Int) := by omega
    have q3 := wr64 (L : Int) (by omega) (by omega)
    clear hz hL h
    generalize hL1 : L + 1 = L1 at *
    go_enter Try.func76, Try.ntmps76
    go_wp2_with fail
    go_region
    go_wp2
    go_ret2
    exact ⟨rfl, (Below.refl _ _).drew⟩
set_option maxHeartbeats 1000000 in
theorem mregs_any (w : World) (b : Nat) (ad : Option Addr) (cap u : Nat) (a p q : Int) (h : MbR w b ad cap u a p q) : Calls Try.prog 80 #[ptr b] w fun e w' => e = .returned (.tuple #[I a, I p, I q]) ∧ Below w.heap.size w w' := by
  obtain ⟨c0, c1, c2, c3⟩ := h.cells
  clear h
  go_enter Try.func80, Try.ntmps80
  go_wp2_with fail
  go_region
  go_wp2
  refine bodyPost_ret (v := .tuple #[I a, I p, I q]) (by simp [results, Try.results80, go_sem]) rfl ⟨rfl, (Below.refl _ _).drew⟩
set_option maxHeartbeats 1000000 in
theorem mreset_any (w : World) (b : Nat) (ad : Option Addr) (cap u : Nat) (a p q : Int) (h : MbR w b ad cap u a p q) : Calls Try.prog 81 #[ptr b] w fun e w' => e = .returned (.tuple #[]) ∧ Mod w b ad 0 0 0 0 w' := by
  obtain ⟨c0, c1, c2, c3⟩ := h.cells
  have fz := h.head.frozen
  have HH := (((h.head.set (i := 0) (.slice none 0 0)).set (i := 1) (I 0)).set (i := 2) (I 0)).set (i := 3) (I 0)
  have HU : Upd [b] w _ := ((((Upd.refl [b] w).setCell (p := ⟨b, 0, none⟩) (by simp) (.slice none 0 0)).setCell (p := ⟨b, 1, none⟩) (by simp) (I 0)).setCell (p := ⟨b, 2, none⟩) (by simp) (I 0)).setCell (p := ⟨b, 3, none⟩) (by simp) (I 0)
  have HF : Hid (_ ∧ _) := And.intro HH HU
  clear HH HU h
  go_enter Try.func81, Try.ntmps81
  go_wp2
  go_end0
  refine ⟨rfl, none, 0, ⟨?_, ?_, by simp [blk?], by omega, by omega, by omega, by omega⟩, .inr (fun g hg => by cases hg), HF.out.2⟩
  · rw [bitsL_zero]; exact HF.out.1
  · rw [bitsL_zero]; exact World.ownsRow_nil _ _ _ _
set_option maxHeartbeats 2000000 in
theorem msign_any (w : World) (b : Nat) (ad : Option Addr) (cap u : Nat) (a p q : Int) (h : MbR w b ad cap u a p q) (r : Int) : Calls Try.prog 79 #[ptr b, I r] w fun e w' => e = .returned (I (sgnI (regAt r a p q))) ∧ Below w.heap.size w w' := by
  obtain ⟨c0, c1, c2, c3⟩ := h.cells
  by_cases r1 : r < 0
  · rw [show sgnI (regAt r a p q) = 0 from by unfold regAt; rw [if_neg (by omega), if_neg (by omega), if_neg (by omega)]; rfl]
    go_enter Try.func79, Try.ntmps79
    go_wp2
    go_ret
    exact ⟨rfl, Below.refl _ _⟩
  by_cases r2 : 3 ≤ r
  · rw [show sgnI (regAt r a p q) = 0 from by unfold regAt; rw [if_neg (by omega), if_neg (by omega), if_neg (by omega)]; rfl]
    go_enter Try.func79, Try.ntmps79
    go_wp2
    go_ret
    exact ⟨rfl, Below.refl _ _⟩
  obtain ⟨n, rfl⟩ := Int.eq_ofNat_of_zero_le (show 0 ≤ r by omega)
  have hn : (n : Int) < 3 := by omega
  obtain ⟨x, hx⟩ : ∃ x, x = regAt (n : Int) a p q := ⟨_, rfl⟩
  have cx : w.cell? ⟨b, 1 + n, none⟩ = some (I x) := by
    have : n = 0 ∨ n = 1 ∨ n = 2 := by omega
    rcases this with rfl | rfl | rfl
    · rw [hx]; exact c1
    · rw [hx]; exact c2
    · rw [hx]; exact c3
  rw [← hx]
  clear hx c0 c1 c2 c3 h r1 r2
  unfold sgnI
  by_cases s1 : 0 < x
  · rw [if_pos s1]
    have e0 : (x == 0) = false := by simp; omega
    have e1 : ¬ x < 0 := by omega
    go_enter Try.func79, Try.ntmps79
    go_wp2
    go_ret
    exact ⟨rfl, Below.refl _ _⟩
  · rw [if_neg s1]
    by_cases s2 : x < 0
    · rw [if_pos s2]
      have e0 : (x == 0) = false := by simp; omega
      go_enter Try.func79, Try.ntmps79
      go_wp2
      go_ret
      exact ⟨rfl, Below.refl _ _⟩
    · rw [if_neg s2]
      obtain rfl : x = 0 := by omega
      go_enter Try.func79, Try.ntmps79
      go_wp2
      go_ret
      exact ⟨rfl, Below.refl _ _⟩
def rgT (a p q : Int) : Nat → List UInt8
  | 0 => [125]
  | 1 => [125] ++ itoa a ++ [59]
  | 2 => [125] ++ itoa a ++ [59] ++ itoa p ++ [59]
  | _ + 3 => tailT a p q
set_option maxRecDepth 100000 in
set_option maxHeartbeats 4000000 in
theorem mshow_any (w : World) (b : Nat) (ad : Option Addr) (cap u : Nat) (a p q : Int) (h : MbR w b ad cap u a p q) : Calls Try.prog 57 #[ptr b] w fun e w' => e = .returned (S (showW u a p q)) ∧ Below w.heap.size w w' := by
  have ha := h.ha
  have hp := h.hp
  have hq := h.hq
  have hl := bitsL_len u 64
  have hmem : ∀ k, k < (bitsL u 64).length → (bitsL u 64).getD k 0 < 64 := by
    intro k hk
    rw [getD_at _ k hk]
    exact ((bitsL_mem u 64 _).1 (List.getElem_mem hk)).1
  have hstep : ∀ k, k < (bitsL u 64).length → textL ((bitsL u 64).take (k + 1)) = textL ((bitsL u 64).take k) ++ (itoa (((bitsL u 64).getD k 0 : Nat) : Int) ++ [44]) := by
    intro k hk
    rw [List.take_add_one, List.getElem?_eq_getElem hk, getD_at _ k hk]
    exact textL_snoc _ _
  have hlen : ∀ k, (textL ((bitsL u 64).take k)).length ≤ 1344 := by
    intro k
    have h1 := textL_len ((bitsL u 64).take k) (fun x hx => ((bitsL_mem u 64 x).1 (List.mem_of_mem_take hx)).1)
    have h2 : ((bitsL u 64).take k).length ≤ (bitsL u 64).length := by simp; omega
    omega
  have hfin : showW u a p q = [123] ++ textL ((bitsL u 64).take (bitsL u 64).length) ++ tailT a p q := by rw [List.take_length]; rfl
  have hrow := fun W (hW : MbR W b ad cap u a p q) => hW.row
  have hcell := fun W (hW : MbR W b ad cap u a p q) => hW.cells
  have HME : Hid _ := hmem
  have HST : Hid _ := hstep
  have HLE : Hid _ := hlen
  have HFI : Hid _ := hfin
  have HRO : Hid _ := hrow
  have HCE : Hid _ := hcell
  clear hmem hstep hlen hfin hrow hcell
  generalize (bitsL u 64).length = L at *
  go_enter Try.func57, Try.ntmps57
  go_wp2
  go_loopw [3, 4] (fun t i wr => ∃ k : Nat, k ≤ L ∧ t = S ([123] ++ textL ((bitsL u 64).take k)) ∧ i = I k ∧ MbR wr b ad cap u a p q ∧ Below w.heap.size w wr) (fun _ i _ => (L - intOf i).toNat)
  case atStart => exact ⟨0, by omega, rfl, rfl, h, Below.refl _ _⟩
  case round =>
    clear h
    obtain ⟨k, hk, rfl, rfl, hr, br⟩ := hrel
    obtain ⟨c0, c1, c2, c3⟩ := HCE.out _ hr
    have hln := HLE.out k
    have hpl : (str ([123] ++ textL ((bitsL u 64).take k))).size ≤ 1345 := by rw [str_size]; simp only [List.length_append, List.length_singleton]; omega
    clear hln
    by_cases hlt : k < L
    · have q1 : (k : Int) < (L : Int) := by omega
      obtain ⟨g, rfl, r0, r1⟩ := HRO.out _ hr k hlt
      have hx := HME.out k hlt
      have e1 : [123] ++ textL ((bitsL u 64).take (k + 1)) = [123] ++ textL ((bitsL u 64).take k) ++ itoa (((bitsL u 64).getD k 0 : Nat) : Int) ++ [44] := by rw [HST.out k hlt]; simp only [List.append_assoc]
      have HS : Hid _ := e1
      have q2 := wr64 ((k : Int) + 1) (by omega) (by omega)
      clear e1
      generalize (bitsL u 64).getD k 0 = x at *
      generalize [123] ++ textL ((bitsL u 64).take k) = pre at *
      have hil := itoa_len (x : Int) (by omega) (by omega)
      rw [← str_size] at hil
      go_wp2_with fail
      refine (itoa_any (x : Int) (by omega) (by omega) wr).mono ?_
      rintro e w4 ⟨rfl, d4⟩
      have h4 := hr.later d4
      have b4' := br.trans (d4.mono br.size)
      clear d4 hr br c0 c1 c2 c3 r0
      go_wp2
      go_roundw
      case rel =>
        refine ⟨k + 1, by omega, ?_, by go_num, h4, b4'⟩
        show Value.string (str pre ++ str (itoa (x : Int)) ++ str [44]) = _
        rw [HS.out]
        simp only [str_append]
      case measure => simp [intOf]; omega
    · obtain rfl : k = L := by omega
      have q1 : ¬ (k : Int) < (k : Int) := by omega
      have hia := itoa_len a (by omega) (by omega)
      have hip := itoa_len p (by omega) (by omega)
      have hiq := itoa_len q (by omega) (by omega)
      have hfin := HFI.out
      generalize [123] ++ textL ((bitsL u 64).take k) = pre at *
      have HF2 : Hid _ := hfin
      clear hfin HFI
      go_wp2
      go_loopw [3, 5] (fun t i wr' => ∃ j : Nat, j ≤ 3 ∧ t = S (pre ++ rgT a p q j) ∧ i = I j ∧ MbR wr' b ad cap u a p q ∧ Below w.heap.size w wr') (fun _ i _ => (3 - intOf i).toNat)
      case atStart =>
        refine ⟨0, by omega, ?_, rfl, hr, br⟩
        show Value.string (str pre ++ str [125]) = _
        rw [str_append]
        rfl
      case round =>
        clear hr br c0 c1 c2 c3
        obtain ⟨j, hj, rfl, rfl, hr, br⟩ := hrel
        obtain ⟨c0, c1, c2, c3⟩ := HCE.out _ hr
        have hpl2 : (str (pre ++ rgT a p q j)).size ≤ 1600 := by
          rw [str_size] at hpl ⊢
          have : j = 0 ∨ j = 1 ∨ j = 2 ∨ j = 3 := by omega
          rcases this with rfl | rfl | rfl | rfl
          · simp [rgT]; omega
          · simp [rgT]; omega
          · simp [rgT]; omega
          · simp [rgT, tailT]; omega
        rw [← str_size] at hia hip hiq
        have hjj : j = 0 ∨ j = 1 ∨ j = 2 ∨ j = 3 := by omega
        clear hj
        rcases hjj with rfl | rfl | rfl | rfl
        · generalize hP0 : pre ++ rgT a p q 0 = P0 at *
          have HP : Hid _ := hP0
          clear hP0
          go_wp2_with fail
          refine (itoa_any a (by omega) (by omega) wr).mono ?_
          rintro e w4 ⟨rfl, d4⟩
          have h4 := hr.later d4
          have b4' := br.trans (d4.mono br.size)
          go_wp2
          go_roundw
          case rel =>
            refine ⟨1, by omega, ?_, rfl, h4, b4'⟩
            show Value.string (str P0 ++ str (itoa a) ++ str [59]) = _
            rw [← HP.out]
            simp only [str_append, rgT, List.append_assoc]
          case measure => simp [intOf]
        · generalize hP0 : pre ++ rgT a p q 1 = P0 at *
          have HP : Hid _ := hP0
          clear hP0
          go_wp2_with fail
          refine (itoa_any p (by omega) (by omega) wr).mono ?_
          rintro e w4 ⟨rfl, d4⟩
          have h4 := hr.later d4
          have b4' := br.trans (d4.mono br.size)
          go_wp2
          go_roundw
          case rel =>
            refine ⟨2, by omega, ?_, rfl, h4, b4'⟩
            show Value.string (str P0 ++ str (itoa p) ++ str [59]) = _
            rw [← HP.out]
            simp only [str_append, rgT, List.append_assoc]
          case measure => simp [intOf]
        · generalize hP0 : pre ++ rgT a p q 2 = P0 at *
          have HP : Hid _ := hP0
          clear hP0
          go_wp2_with fail
          refine (itoa_any q (by omega) (by omega) wr).mono ?_
          rintro e w4 ⟨rfl, d4⟩
          have h4 := hr.later d4
          have b4' := br.trans (d4.mono br.size)
          go_wp2
          go_roundw
          case rel =>
            refine ⟨3, by omega, ?_, rfl, h4, b4'⟩
            show Value.string (str P0 ++ str (itoa q) ++ str [59]) = _
            rw [← HP.out]
            simp only [str_append, rgT, tailT, List.append_assoc]
          case measure => simp [intOf]
        · go_wp2
          go_ret
          refine ⟨?_, br⟩
          rw [HF2.out]
          rfl
end Go.Proofs.Qxb6500469a
