import Derived.Test.Qxb6500469aWk4
import Derived.Deep.RegionHeld3
namespace Go.Proofs.Qxb6500469a
open Go.RowKit

/-- What the count from above holds behind j rounds: the members at or above 64 - j. -/
def ctS (u : Nat) : Nat → Nat × Nat × Nat
  | 0 => (0, 0, 0)
  | j + 1 => if u.testBit (63 - j) then ((ctS u j).1 + 1, 63 - j, if (ctS u j).1 = 0 then 63 - j else (ctS u j).2.2) else ctS u j
theorem ctS_le (u : Nat) : ∀ j, (ctS u j).1 ≤ j
  | 0 => Nat.le_refl _
  | j + 1 => by
    have := ctS_le u j
    unfold ctS
    split
    · show (ctS u j).1 + 1 ≤ j + 1; omega
    · omega
/-- The members at or above m. -/
def upL (u m : Nat) : List Nat := (bitsL u 64).filter fun x => decide (m ≤ x)
theorem upL_all (u : Nat) : upL u 0 = bitsL u 64 := by
  unfold upL
  rw [List.filter_eq_self.2]
  intro x _
  simp
theorem upL_step (u m : Nat) (hm : m < 64) : upL u m = if u.testBit m then m :: upL u (m + 1) else upL u (m + 1) := by
  refine rise_ext _ _ ((bitsL_rise u 64).filter _) ?_ fun x => ?_
  · split
    · rw [List.pairwise_cons]
      refine ⟨?_, (bitsL_rise u 64).filter _⟩
      intro y hy
      unfold upL at hy
      simp only [List.mem_filter, decide_eq_true_eq] at hy
      omega
    · exact (bitsL_rise u 64).filter _
  · unfold upL
    split
    · rename_i hb
      simp only [List.mem_cons, List.mem_filter, decide_eq_true_eq, bitsL_mem]
      constructor
      · rintro ⟨⟨h1, h2⟩, h3⟩
        by_cases e : x = m
        · exact .inl e
        · exact .inr ⟨⟨h1, h2⟩, by omega⟩
      · rintro (rfl | ⟨⟨h1, h2⟩, h3⟩)
        · exact ⟨⟨hm, hb⟩, Nat.le_refl _⟩
        · exact ⟨⟨h1, h2⟩, by omega⟩
    · rename_i hb
      simp only [List.mem_filter, decide_eq_true_eq, bitsL_mem]
      constructor
      · rintro ⟨⟨h1, h2⟩, h3⟩
        refine ⟨⟨h1, h2⟩, ?_⟩
        by_cases e : x = m
        · subst e; exact absurd h2 hb
        · omega
      · rintro ⟨⟨h1, h2⟩, h3⟩
        exact ⟨⟨h1, h2⟩, by omega⟩
theorem upL_top (u : Nat) : upL u 64 = [] := by
  unfold upL
  rw [List.filter_eq_nil_iff]
  intro x hx
  have := ((bitsL_mem u 64 x).1 hx).1
  simp; omega
theorem ctS_law (u : Nat) : ∀ j, j ≤ 64 → ctS u j = ((upL u (64 - j)).length, (upL u (64 - j)).getD 0 0, (upL u (64 - j)).getD ((upL u (64 - j)).length - 1) 0)
  | 0, _ => by rw [show 64 - 0 = 64 from rfl, upL_top]; rfl
  | j + 1, h => by
    have ih := ctS_law u j (by omega)
    have e : 64 - (j + 1) = 63 - j := by omega
    have st := upL_step u (63 - j) (by omega)
    rw [show 63 - j + 1 = 64 - j from by omega] at st
    rw [e]
    unfold ctS
    cases hb : u.testBit (63 - j) with
    | true =>
      rw [hb, if_pos rfl] at st
      rw [if_pos rfl, ih, st]
      dsimp only
      cases hl : upL u (64 - j) with
      | nil => simp
      | cons x l => simp
    | false =>
      rw [hb, if_neg (by simp)] at st
      rw [if_neg (by simp), ih, st]
theorem ctS_fin (u : Nat) : ctS u 64 = (popU u, lowN u, hiN u) := by
  rw [ctS_law u 64 (by omega), show 64 - 64 = 0 from rfl, upL_all]; rfl
set_option maxRecDepth 100000 in
set_option maxHeartbeats 8000000 in
theorem counted_o (w : World) (b u : Nat) (a p q : Int) (h : BdR w b u a p q) (K : Int) (A B C : Int) (s t : ByteArray) (E N M : Int) (T : List UInt8) (k13 : K ≠ 13) (k14 : K ≠ 14) (k15 : K ≠ 15) (k6 : K ≠ 6) :
    Calls Try.prog 48 #[ptr b, S (imgF u.testBit 64), OpV K A B C s t, AnsV (E) (N) (M) (T)] w fun e w' => e = .returned (.bool true) ∧ Below w.heap.size w w' := by
  have HF : Hid _ := ctS_fin u
  have j13 : (K == 13) = false := by simpa using k13
  have j14 : (K == 14) = false := by simpa using k14
  have j15 : (K == 15) = false := by simpa using k15
  have j6 : (K == 6) = false := by simpa using k6
  clear k13 k14 k15 k6
  have hse1 : (str ([] : List UInt8)).toList = [] := str_toList []
  have hse2 : (⟨#[]⟩ : ByteArray).toList = [] := str_toList []
  have gp := img_get u.testBit
  have hPl := imgF_len u.testBit
  generalize imgF u.testBit 64 = P at *
  have hP := str_size P
  rw [hPl] at hP
  have HGP : Hid _ := gp
  have b0 := ((Below.refl w.heap.size w).alloc (Nat.le_refl _) (.cells #[I K, I A, I B, I C, .string s, .string t] 31)).alloc (by simp) (.cells #[I E, I N, I M, S T] 40)
  have BO : Blk ((w.alloc (.cells #[I K, I A, I B, I C, .string s, .string t] 31)).alloc (.cells #[I E, I N, I M, S T] 40)) w.heap.size #[I K, I A, I B, I C, .string s, .string t] 31 := (Blk.new rfl).old _
  have BA : Blk ((w.alloc (.cells #[I K, I A, I B, I C, .string s, .string t] 31)).alloc (.cells #[I E, I N, I M, S T] 40)) (w.heap.size + 1) #[I E, I N, I M, S T] 40 := Blk.new (by simp)
  have h0 := h.later b0
  clear gp h
  go_enter Try.func48, Try.ntmps48
  go_wp2
  generalize (w.alloc (.cells #[I K, I A, I B, I C, .string s, .string t] 31)).alloc (.cells #[I E, I N, I M, S T] 40) = v0 at *
  generalize w.heap.size + 1 = AB at *
  go_loopw [9, 10, 11, 12] (fun n lo hi i wr => ∃ j : Nat, j ≤ 64 ∧ n = I ((ctS u j).1 : Nat) ∧ lo = I ((ctS u j).2.1 : Nat) ∧ hi = I ((ctS u j).2.2 : Nat) ∧ i = I (63 - (j : Int)) ∧ wr = v0) (fun _ _ _ i _ => (intOf i + 1).toNat)
  case atStart => exact ⟨0, by omega, rfl, rfl, rfl, rfl, rfl⟩
  case round =>
    obtain ⟨j, hj, rfl, rfl, rfl, rfl, rfl⟩ := hrel
    have hle := ctS_le u j
    by_cases hlt : j < 64
    · obtain ⟨m, hm⟩ : ∃ m, m = 63 - j := ⟨_, rfl⟩
      have e1 : (63 : Int) - (j : Int) = (m : Int) := by omega
      rw [e1]
      have gk := HGP.out m (by omega)
      have hst : ctS u (j + 1) = if u.testBit m then ((ctS u j).1 + 1, m, if (ctS u j).1 = 0 then m else (ctS u j).2.2) else ctS u j := by rw [hm]; rfl
      have q1 : (m : Int) < 64 := by omega
      have q2 : (0 : Int) ≤ (m : Int) := by omega
      have w1 := wr64 ((m : Int) - 1) (by omega) (by omega)
      have HI : Hid ((m : Int) - 1 = 63 - ((j + 1 : Nat) : Int)) := by show _ = _; omega
      generalize ctS u j = c at *
      obtain ⟨c1, c2, c3⟩ := c
      dsimp only at hst hle ⊢
      have w2 := wr64 ((c1 : Int) + 1) (by omega) (by omega)
      clear hm e1
      cases hx : u.testBit m with
      | true =>
        rw [hx, if_pos rfl] at gk hst
        by_cases c0 : c1 = 0
        · subst c0
          rw [if_pos rfl] at hst
          have HS : Hid _ := hst
          clear hst
          go_wp2
          go_roundw
          case rel => exact ⟨j + 1, by omega, by rw [HS.out]; rfl, by rw [HS.out], by rw [HS.out], congrArg (Value.int .i64) HI.out, trivial⟩
          case measure => simp [intOf]
        · rw [if_neg c0] at hst
          have HS : Hid _ := hst
          have c0' : ((c1 : Int) == 0) = false := by simpa using c0
          clear hst c0
          go_wp2
          go_roundw
          case rel => exact ⟨j + 1, by omega, by rw [HS.out]; go_num, by rw [HS.out], by rw [HS.out], congrArg (Value.int .i64) HI.out, trivial⟩
          case measure => simp [intOf]
      | false =>
        rw [hx, if_neg (by simp)] at gk hst
        have HS : Hid _ := hst
        clear hst
        go_wp2
        go_roundw
        case rel => exact ⟨j + 1, by omega, by rw [HS.out], by rw [HS.out], by rw [HS.out], congrArg (Value.int .i64) HI.out, trivial⟩
        case measure => simp [intOf]
    · obtain rfl : j = 64 := by omega
      rw [HF.out, show (63 : Int) - ((64 : Nat) : Int) = -1 from rfl]
      dsimp only
      have hC := count_any _ b u a p q h0
      have hL := fun W (hW : BdR W b u a p q) => lowest_fun W b u a p q hW
      have hH := fun W (hW : BdR W b u a p q) => highest_fun W b u a p q hW
      have hsb : decide ((0 : Int) < (popU u : Int)) = someB u := by unfold someB; exact decide_eq_decide.2 (by omega)
      have HASB : Hid _ := hsb
      clear hle hlt hj HF hsb
      cases hs : someB u with
      | true =>
        have hpos : (0 : Int) < (popU u : Int) := of_decide_eq_true (by rw [HASB.out, hs])
        have hneg : ¬ (popU u : Int) ≤ 0 := by omega
        go_wp2_with fail
        refine hC.mono ?_
        rintro e w1 ⟨rfl, rfl⟩
        go_wp2_with fail
        have hL0 := hL _ h0
        rw [hs] at hL0
        refine hL0.mono ?_
        rintro e w2 ⟨rfl, d2⟩
        have h2 := h0.later d2
        have BO2 := BO.below d2 BO.lt
        have BA2 := BA.below d2 BA.lt
        have bb2 := b0.trans (d2.mono b0.size)
        clear h0 BO BA b0 d2 hC hL hL0
        go_wp2_with fail
        have hH0 := hH _ h2
        rw [hs] at hH0
        refine hH0.mono ?_
        rintro e w3 ⟨rfl, d3⟩
        have h3 := h2.later d3
        have BO3 := BO2.below d3 BO2.lt
        have BA3 := BA2.below d3 BA2.lt
        have bb3 := bb2.trans (d3.mono bb2.size)
        clear h2 BO2 BA2 bb2 d3 hH hH0
        obtain ⟨o0, o1, o2⟩ := BO3.facts
        go_wp2
        go_ret
        exact ⟨rfl, bb3⟩
      | false =>
        have hpos : ¬ (0 : Int) < (popU u : Int) := of_decide_eq_false (by rw [HASB.out, hs])
        go_wp2_with fail
        refine hC.mono ?_
        rintro e w1 ⟨rfl, rfl⟩
        go_wp2_with fail
        have hL0 := hL _ h0
        rw [hs] at hL0
        refine hL0.mono ?_
        rintro e w2 ⟨rfl, d2⟩
        have h2 := h0.later d2
        have BO2 := BO.below d2 BO.lt
        have BA2 := BA.below d2 BA.lt
        have bb2 := b0.trans (d2.mono b0.size)
        clear h0 BO BA b0 d2 hC hL hL0
        go_wp2_with fail
        have hH0 := hH _ h2
        rw [hs] at hH0
        refine hH0.mono ?_
        rintro e w3 ⟨rfl, d3⟩
        have h3 := h2.later d3
        have BO3 := BO2.below d3 BO2.lt
        have BA3 := BA2.below d3 BA2.lt
        have bb3 := bb2.trans (d3.mono bb2.size)
        clear h2 BO2 BA2 bb2 d3 hH hH0
        obtain ⟨o0, o1, o2⟩ := BO3.facts
        go_wp2
        go_ret
        exact ⟨rfl, bb3⟩
set_option maxRecDepth 100000 in
set_option maxHeartbeats 8000000 in
theorem counted_13 (w : World) (b u : Nat) (a p q : Int) (h : BdR w b u a p q) (A B C : Int) (s t : ByteArray) :
    Calls Try.prog 48 #[ptr b, S (imgF u.testBit 64), OpV 13 A B C s t, AnsV (0) ((popU u : Nat)) (0) ([])] w fun e w' => e = .returned (.bool true) ∧ Below w.heap.size w w' := by
  have HF : Hid _ := ctS_fin u
  have hse1 : (str ([] : List UInt8)).toList = [] := str_toList []
  have hse2 : (⟨#[]⟩ : ByteArray).toList = [] := str_toList []
  have gp := img_get u.testBit
  have hPl := imgF_len u.testBit
  generalize imgF u.testBit 64 = P at *
  have hP := str_size P
  rw [hPl] at hP
  have HGP : Hid _ := gp
  have b0 := ((Below.refl w.heap.size w).alloc (Nat.le_refl _) (.cells #[I 13, I A, I B, I C, .string s, .string t] 31)).alloc (by simp) (.cells #[I 0, I (popU u : Nat), I 0, S []] 40)
  have BO : Blk ((w.alloc (.cells #[I 13, I A, I B, I C, .string s, .string t] 31)).alloc (.cells #[I 0, I (popU u : Nat), I 0, S []] 40)) w.heap.size #[I 13, I A, I B, I C, .string s, .string t] 31 := (Blk.new rfl).old _
  have BA : Blk ((w.alloc (.cells #[I 13, I A, I B, I C, .string s, .string t] 31)).alloc (.cells #[I 0, I (popU u : Nat), I 0, S []] 40)) (w.heap.size + 1) #[I 0, I (popU u : Nat), I 0, S []] 40 := Blk.new (by simp)
  have h0 := h.later b0
  clear gp h
  go_enter Try.func48, Try.ntmps48
  go_wp2
  generalize (w.alloc (.cells #[I 13, I A, I B, I C, .string s, .string t] 31)).alloc (.cells #[I 0, I (popU u : Nat), I 0, S []] 40) = v0 at *
  generalize w.heap.size + 1 = AB at *
  go_loopw [9, 10, 11, 12] (fun n lo hi i wr => ∃ j : Nat, j ≤ 64 ∧ n = I ((ctS u j).1 : Nat) ∧ lo = I ((ctS u j).2.1 : Nat) ∧ hi = I ((ctS u j).2.2 : Nat) ∧ i = I (63 - (j : Int)) ∧ wr = v0) (fun _ _ _ i _ => (intOf i + 1).toNat)
  case atStart => exact ⟨0, by omega, rfl, rfl, rfl, rfl, rfl⟩
  case round =>
    obtain ⟨j, hj, rfl, rfl, rfl, rfl, rfl⟩ := hrel
    have hle := ctS_le u j
    by_cases hlt : j < 64
    · obtain ⟨m, hm⟩ : ∃ m, m = 63 - j := ⟨_, rfl⟩
      have e1 : (63 : Int) - (j : Int) = (m : Int) := by omega
      rw [e1]
      have gk := HGP.out m (by omega)
      have hst : ctS u (j + 1) = if u.testBit m then ((ctS u j).1 + 1, m, if (ctS u j).1 = 0 then m else (ctS u j).2.2) else ctS u j := by rw [hm]; rfl
      have q1 : (m : Int) < 64 := by omega
      have q2 : (0 : Int) ≤ (m : Int) := by omega
      have w1 := wr64 ((m : Int) - 1) (by omega) (by omega)
      have HI : Hid ((m : Int) - 1 = 63 - ((j + 1 : Nat) : Int)) := by show _ = _; omega
      generalize ctS u j = c at *
      obtain ⟨c1, c2, c3⟩ := c
      dsimp only at hst hle ⊢
      have w2 := wr64 ((c1 : Int) + 1) (by omega) (by omega)
      clear hm e1
      cases hx : u.testBit m with
      | true =>
        rw [hx, if_pos rfl] at gk hst
        by_cases c0 : c1 = 0
        · subst c0
          rw [if_pos rfl] at hst
          have HS : Hid _ := hst
          clear hst
          go_wp2
          go_roundw
          case rel => exact ⟨j + 1, by omega, by rw [HS.out]; rfl, by rw [HS.out], by rw [HS.out], congrArg (Value.int .i64) HI.out, trivial⟩
          case measure => simp [intOf]
        · rw [if_neg c0] at hst
          have HS : Hid _ := hst
          have c0' : ((c1 : Int) == 0) = false := by simpa using c0
          clear hst c0
          go_wp2
          go_roundw
          case rel => exact ⟨j + 1, by omega, by rw [HS.out]; go_num, by rw [HS.out], by rw [HS.out], congrArg (Value.int .i64) HI.out, trivial⟩
          case measure => simp [intOf]
      | false =>
        rw [hx, if_neg (by simp)] at gk hst
        have HS : Hid _ := hst
        clear hst
        go_wp2
        go_roundw
        case rel => exact ⟨j + 1, by omega, by rw [HS.out], by rw [HS.out], by rw [HS.out], congrArg (Value.int .i64) HI.out, trivial⟩
        case measure => simp [intOf]
    · obtain rfl : j = 64 := by omega
      rw [HF.out, show (63 : Int) - ((64 : Nat) : Int) = -1 from rfl]
      dsimp only
      have hC := count_any _ b u a p q h0
      have hL := fun W (hW : BdR W b u a p q) => lowest_fun W b u a p q hW
      have hH := fun W (hW : BdR W b u a p q) => highest_fun W b u a p q hW
      have hsb : decide ((0 : Int) < (popU u : Int)) = someB u := by unfold someB; exact decide_eq_decide.2 (by omega)
      have HASB : Hid _ := hsb
      clear hle hlt hj HF hsb
      cases hs : someB u with
      | true =>
        have hpos : (0 : Int) < (popU u : Int) := of_decide_eq_true (by rw [HASB.out, hs])
        have hneg : ¬ (popU u : Int) ≤ 0 := by omega
        go_wp2_with fail
        refine hC.mono ?_
        rintro e w1 ⟨rfl, rfl⟩
        go_wp2_with fail
        have hL0 := hL _ h0
        rw [hs] at hL0
        refine hL0.mono ?_
        rintro e w2 ⟨rfl, d2⟩
        have h2 := h0.later d2
        have BO2 := BO.below d2 BO.lt
        have BA2 := BA.below d2 BA.lt
        have bb2 := b0.trans (d2.mono b0.size)
        clear h0 BO BA b0 d2 hC hL hL0
        go_wp2_with fail
        have hH0 := hH _ h2
        rw [hs] at hH0
        refine hH0.mono ?_
        rintro e w3 ⟨rfl, d3⟩
        have h3 := h2.later d3
        have BO3 := BO2.below d3 BO2.lt
        have BA3 := BA2.below d3 BA2.lt
        have bb3 := bb2.trans (d3.mono bb2.size)
        clear h2 BO2 BA2 bb2 d3 hH hH0
        obtain ⟨o0, o1, o2⟩ := BO3.facts
        obtain ⟨x0, x1, x2⟩ := BA3.facts
        go_wp2
        go_ret
        exact ⟨by simp [go_sem], bb3⟩
      | false =>
        have hpos : ¬ (0 : Int) < (popU u : Int) := of_decide_eq_false (by rw [HASB.out, hs])
        go_wp2_with fail
        refine hC.mono ?_
        rintro e w1 ⟨rfl, rfl⟩
        go_wp2_with fail
        have hL0 := hL _ h0
        rw [hs] at hL0
        refine hL0.mono ?_
        rintro e w2 ⟨rfl, d2⟩
        have h2 := h0.later d2
        have BO2 := BO.below d2 BO.lt
        have BA2 := BA.below d2 BA.lt
        have bb2 := b0.trans (d2.mono b0.size)
        clear h0 BO BA b0 d2 hC hL hL0
        go_wp2_with fail
        have hH0 := hH _ h2
        rw [hs] at hH0
        refine hH0.mono ?_
        rintro e w3 ⟨rfl, d3⟩
        have h3 := h2.later d3
        have BO3 := BO2.below d3 BO2.lt
        have BA3 := BA2.below d3 BA2.lt
        have bb3 := bb2.trans (d3.mono bb2.size)
        clear h2 BO2 BA2 bb2 d3 hH hH0
        obtain ⟨o0, o1, o2⟩ := BO3.facts
        obtain ⟨x0, x1, x2⟩ := BA3.facts
        go_wp2
        go_ret
        exact ⟨by simp [go_sem], bb3⟩
set_option maxRecDepth 100000 in
set_option maxHeartbeats 8000000 in
theorem counted_14 (w : World) (b u : Nat) (a p q : Int) (h : BdR w b u a p q) (A B C : Int) (s t : ByteArray) :
    Calls Try.prog 48 #[ptr b, S (imgF u.testBit 64), OpV 14 A B C s t, AnsV (0) ((lowN u : Nat)) ((b2i (someB u))) ([])] w fun e w' => e = .returned (.bool true) ∧ Below w.heap.size w w' := by
  have HF : Hid _ := ctS_fin u
  have hse1 : (str ([] : List UInt8)).toList = [] := str_toList []
  have hse2 : (⟨#[]⟩ : ByteArray).toList = [] := str_toList []
  have gp := img_get u.testBit
  have hPl := imgF_len u.testBit
  generalize imgF u.testBit 64 = P at *
  have hP := str_size P
  rw [hPl] at hP
  have HGP : Hid _ := gp
  have b0 := ((Below.refl w.heap.size w).alloc (Nat.le_refl _) (.cells #[I 14, I A, I B, I C, .string s, .string t] 31)).alloc (by simp) (.cells #[I 0, I (lowN u : Nat), I (b2i (someB u)), S []] 40)
  have BO : Blk ((w.alloc (.cells #[I 14, I A, I B, I C, .string s, .string t] 31)).alloc (.cells #[I 0, I (lowN u : Nat), I (b2i (someB u)), S []] 40)) w.heap.size #[I 14, I A, I B, I C, .string s, .string t] 31 := (Blk.new rfl).old _
  have BA : Blk ((w.alloc (.cells #[I 14, I A, I B, I C, .string s, .string t] 31)).alloc (.cells #[I 0, I (lowN u : Nat), I (b2i (someB u)), S []] 40)) (w.heap.size + 1) #[I 0, I (lowN u : Nat), I (b2i (someB u)), S []] 40 := Blk.new (by simp)
  have h0 := h.later b0
  clear gp h
  go_enter Try.func48, Try.ntmps48
  go_wp2
  generalize (w.alloc (.cells #[I 14, I A, I B, I C, .string s, .string t] 31)).alloc (.cells #[I 0, I (lowN u : Nat), I (b2i (someB u)), S []] 40) = v0 at *
  generalize w.heap.size + 1 = AB at *
  go_loopw [9, 10, 11, 12] (fun n lo hi i wr => ∃ j : Nat, j ≤ 64 ∧ n = I ((ctS u j).1 : Nat) ∧ lo = I ((ctS u j).2.1 : Nat) ∧ hi = I ((ctS u j).2.2 : Nat) ∧ i = I (63 - (j : Int)) ∧ wr = v0) (fun _ _ _ i _ => (intOf i + 1).toNat)
  case atStart => exact ⟨0, by omega, rfl, rfl, rfl, rfl, rfl⟩
  case round =>
    obtain ⟨j, hj, rfl, rfl, rfl, rfl, rfl⟩ := hrel
    have hle := ctS_le u j
    by_cases hlt : j < 64
    · obtain ⟨m, hm⟩ : ∃ m, m = 63 - j := ⟨_, rfl⟩
      have e1 : (63 : Int) - (j : Int) = (m : Int) := by omega
      rw [e1]
      have gk := HGP.out m (by omega)
      have hst : ctS u (j + 1) = if u.testBit m then ((ctS u j).1 + 1, m, if (ctS u j).1 = 0 then m else (ctS u j).2.2) else ctS u j := by rw [hm]; rfl
      have q1 : (m : Int) < 64 := by omega
      have q2 : (0 : Int) ≤ (m : Int) := by omega
      have w1 := wr64 ((m : Int) - 1) (by omega) (by omega)
      have HI : Hid ((m : Int) - 1 = 63 - ((j + 1 : Nat) : Int)) := by show _ = _; omega
      generalize ctS u j = c at *
      obtain ⟨c1, c2, c3⟩ := c
      dsimp only at hst hle ⊢
      have w2 := wr64 ((c1 : Int) + 1) (by omega) (by omega)
      clear hm e1
      cases hx : u.testBit m with
      | true =>
        rw [hx, if_pos rfl] at gk hst
        by_cases c0 : c1 = 0
        · subst c0
          rw [if_pos rfl] at hst
          have HS : Hid _ := hst
          clear hst
          go_wp2
          go_roundw
          case rel => exact ⟨j + 1, by omega, by rw [HS.out]; rfl, by rw [HS.out], by rw [HS.out], congrArg (Value.int .i64) HI.out, trivial⟩
          case measure => simp [intOf]
        · rw [if_neg c0] at hst
          have HS : Hid _ := hst
          have c0' : ((c1 : Int) == 0) = false := by simpa using c0
          clear hst c0
          go_wp2
          go_roundw
          case rel => exact ⟨j + 1, by omega, by rw [HS.out]; go_num, by rw [HS.out], by rw [HS.out], congrArg (Value.int .i64) HI.out, trivial⟩
          case measure => simp [intOf]
      | false =>
        rw [hx, if_neg (by simp)] at gk hst
        have HS : Hid _ := hst
        clear hst
        go_wp2
        go_roundw
        case rel => exact ⟨j + 1, by omega, by rw [HS.out], by rw [HS.out], by rw [HS.out], congrArg (Value.int .i64) HI.out, trivial⟩
        case measure => simp [intOf]
    · obtain rfl : j = 64 := by omega
      rw [HF.out, show (63 : Int) - ((64 : Nat) : Int) = -1 from rfl]
      dsimp only
      have hC := count_any _ b u a p q h0
      have hL := fun W (hW : BdR W b u a p q) => lowest_fun W b u a p q hW
      have hH := fun W (hW : BdR W b u a p q) => highest_fun W b u a p q hW
      have hsb : decide ((0 : Int) < (popU u : Int)) = someB u := by unfold someB; exact decide_eq_decide.2 (by omega)
      have HASB : Hid _ := hsb
      clear hle hlt hj HF hsb
      cases hs : someB u with
      | true =>
        have hpos : (0 : Int) < (popU u : Int) := of_decide_eq_true (by rw [HASB.out, hs])
        have hneg : ¬ (popU u : Int) ≤ 0 := by omega
        go_wp2_with fail
        refine hC.mono ?_
        rintro e w1 ⟨rfl, rfl⟩
        go_wp2_with fail
        have hL0 := hL _ h0
        rw [hs] at hL0
        refine hL0.mono ?_
        rintro e w2 ⟨rfl, d2⟩
        have h2 := h0.later d2
        have BO2 := BO.below d2 BO.lt
        have BA2 := BA.below d2 BA.lt
        have bb2 := b0.trans (d2.mono b0.size)
        clear h0 BO BA b0 d2 hC hL hL0
        go_wp2_with fail
        have hH0 := hH _ h2
        rw [hs] at hH0
        refine hH0.mono ?_
        rintro e w3 ⟨rfl, d3⟩
        have h3 := h2.later d3
        have BO3 := BO2.below d3 BO2.lt
        have BA3 := BA2.below d3 BA2.lt
        have bb3 := bb2.trans (d3.mono bb2.size)
        clear h2 BO2 BA2 bb2 d3 hH hH0
        obtain ⟨o0, o1, o2⟩ := BO3.facts
        go_wp2_with fail
        rw [hs] at BA3
        have k0 : w3.cell? ⟨AB, 0, none⟩ = some (I 0) := BA3.cell 0
        have k1 : w3.cell? ⟨AB, 1, none⟩ = some (I (lowN u : Nat)) := BA3.cell 1
        have k2 : w3.cell? ⟨AB, 2, none⟩ = some (I (b2i true)) := BA3.cell 2
        have k3 : w3.cell? ⟨AB, 3, none⟩ = some (S []) := BA3.cell 3
        have bv3 : Below w3.heap.size w3 w3.drew := (Below.refl _ _).drew
        clear o0 o1 o2
        go_region_held3 (fun W => W.cell? ⟨AB, 0, none⟩ = some (I 0) ∧ W.cell? ⟨AB, 1, none⟩ = some (I (lowN u : Nat)) ∧ W.cell? ⟨AB, 2, none⟩ = some (I (b2i true)) ∧ W.cell? ⟨AB, 3, none⟩ = some (S [])) (go_keep) (first | (go_at_call 27; refine (B_any true _).mono ?_; rintro e w4 ⟨rfl, rfl⟩))
        have bb4 := bb3.trans (bv3.mono bb3.size)
        clear k0 k1 k2 k3
        go_wp2
        go_ret
        exact ⟨rfl, bb4⟩
      | false =>
        have hpos : ¬ (0 : Int) < (popU u : Int) := of_decide_eq_false (by rw [HASB.out, hs])
        go_wp2_with fail
        refine hC.mono ?_
        rintro e w1 ⟨rfl, rfl⟩
        go_wp2_with fail
        have hL0 := hL _ h0
        rw [hs] at hL0
        refine hL0.mono ?_
        rintro e w2 ⟨rfl, d2⟩
        have h2 := h0.later d2
        have BO2 := BO.below d2 BO.lt
        have BA2 := BA.below d2 BA.lt
        have bb2 := b0.trans (d2.mono b0.size)
        clear h0 BO BA b0 d2 hC hL hL0
        go_wp2_with fail
        have hH0 := hH _ h2
        rw [hs] at hH0
        refine hH0.mono ?_
        rintro e w3 ⟨rfl, d3⟩
        have h3 := h2.later d3
        have BO3 := BO2.below d3 BO2.lt
        have BA3 := BA2.below d3 BA2.lt
        have bb3 := bb2.trans (d3.mono bb2.size)
        clear h2 BO2 BA2 bb2 d3 hH hH0
        obtain ⟨o0, o1, o2⟩ := BO3.facts
        go_wp2_with fail
        rw [hs] at BA3
        have k0 : w3.cell? ⟨AB, 0, none⟩ = some (I 0) := BA3.cell 0
        have k1 : w3.cell? ⟨AB, 1, none⟩ = some (I (lowN u : Nat)) := BA3.cell 1
        have k2 : w3.cell? ⟨AB, 2, none⟩ = some (I (b2i false)) := BA3.cell 2
        have k3 : w3.cell? ⟨AB, 3, none⟩ = some (S []) := BA3.cell 3
        have bv3 : Below w3.heap.size w3 w3.drew := (Below.refl _ _).drew
        clear o0 o1 o2
        go_region_held3 (fun W => W.cell? ⟨AB, 0, none⟩ = some (I 0) ∧ W.cell? ⟨AB, 1, none⟩ = some (I (lowN u : Nat)) ∧ W.cell? ⟨AB, 2, none⟩ = some (I (b2i false)) ∧ W.cell? ⟨AB, 3, none⟩ = some (S [])) (go_keep) (first | (go_at_call 27; refine (B_any false _).mono ?_; rintro e w4 ⟨rfl, rfl⟩))
        have bb4 := bb3.trans (bv3.mono bb3.size)
        clear k0 k1 k2 k3
        go_wp2
        go_ret
        exact ⟨rfl, bb4⟩
set_option maxRecDepth 100000 in
set_option maxHeartbeats 8000000 in
theorem counted_15 (w : World) (b u : Nat) (a p q : Int) (h : BdR w b u a p q) (A B C : Int) (s t : ByteArray) :
    Calls Try.prog 48 #[ptr b, S (imgF u.testBit 64), OpV 15 A B C s t, AnsV (0) ((hiN u : Nat)) ((b2i (someB u))) ([])] w fun e w' => e = .returned (.bool true) ∧ Below w.heap.size w w' := by
  have HF : Hid _ := ctS_fin u
  have hse1 : (str ([] : List UInt8)).toList = [] := str_toList []
  have hse2 : (⟨#[]⟩ : ByteArray).toList = [] := str_toList []
  have gp := img_get u.testBit
  have hPl := imgF_len u.testBit
  generalize imgF u.testBit 64 = P at *
  have hP := str_size P
  rw [hPl] at hP
  have HGP : Hid _ := gp
  have b0 := ((Below.refl w.heap.size w).alloc (Nat.le_refl _) (.cells #[I 15, I A, I B, I C, .string s, .string t] 31)).alloc (by simp) (.cells #[I 0, I (hiN u : Nat), I (b2i (someB u)), S []] 40)
  have BO : Blk ((w.alloc (.cells #[I 15, I A, I B, I C, .string s, .string t] 31)).alloc (.cells #[I 0, I (hiN u : Nat), I (b2i (someB u)), S []] 40)) w.heap.size #[I 15, I A, I B, I C, .string s, .string t] 31 := (Blk.new rfl).old _
  have BA : Blk ((w.alloc (.cells #[I 15, I A, I B, I C, .string s, .string t] 31)).alloc (.cells #[I 0, I (hiN u : Nat), I (b2i (someB u)), S []] 40)) (w.heap.size + 1) #[I 0, I (hiN u : Nat), I (b2i (someB u)), S []] 40 := Blk.new (by simp)
  have h0 := h.later b0
  clear gp h
  go_enter Try.func48, Try.ntmps48
  go_wp2
  generalize (w.alloc (.cells #[I 15, I A, I B, I C, .string s, .string t] 31)).alloc (.cells #[I 0, I (hiN u : Nat), I (b2i (someB u)), S []] 40) = v0 at *
  generalize w.heap.size + 1 = AB at *
  go_loopw [9, 10, 11, 12] (fun n lo hi i wr => ∃ j : Nat, j ≤ 64 ∧ n = I ((ctS u j).1 : Nat) ∧ lo = I ((ctS u j).2.1 : Nat) ∧ hi = I ((ctS u j).2.2 : Nat) ∧ i = I (63 - (j : Int)) ∧ wr = v0) (fun _ _ _ i _ => (intOf i + 1).toNat)
  case atStart => exact ⟨0, by omega, rfl, rfl, rfl, rfl, rfl⟩
  case round =>
    obtain ⟨j, hj, rfl, rfl, rfl, rfl, rfl⟩ := hrel
    have hle := ctS_le u j
    by_cases hlt : j < 64
    · obtain ⟨m, hm⟩ : ∃ m, m = 63 - j := ⟨_, rfl⟩
      have e1 : (63 : Int) - (j : Int) = (m : Int) := by omega
      rw [e1]
      have gk := HGP.out m (by omega)
      have hst : ctS u (j + 1) = if u.testBit m then ((ctS u j).1 + 1, m, if (ctS u j).1 = 0 then m else (ctS u j).2.2) else ctS u j := by rw [hm]; rfl
      have q1 : (m : Int) < 64 := by omega
      have q2 : (0 : Int) ≤ (m : Int) := by omega
      have w1 := wr64 ((m : Int) - 1) (by omega) (by omega)
      have HI : Hid ((m : Int) - 1 = 63 - ((j + 1 : Nat) : Int)) := by show _ = _; omega
      generalize ctS u j = c at *
      obtain ⟨c1, c2, c3⟩ := c
      dsimp only at hst hle ⊢
      have w2 := wr64 ((c1 : Int) + 1) (by omega) (by omega)
      clear hm e1
      cases hx : u.testBit m with
      | true =>
        rw [hx, if_pos rfl] at gk hst
        by_cases c0 : c1 = 0
        · subst c0
          rw [if_pos rfl] at hst
          have HS : Hid _ := hst
          clear hst
          go_wp2
          go_roundw
          case rel => exact ⟨j + 1, by omega, by rw [HS.out]; rfl, by rw [HS.out], by rw [HS.out], congrArg (Value.int .i64) HI.out, trivial⟩
          case measure => simp [intOf]
        · rw [if_neg c0] at hst
          have HS : Hid _ := hst
          have c0' : ((c1 : Int) == 0) = false := by simpa using c0
          clear hst c0
          go_wp2
          go_roundw
          case rel => exact ⟨j + 1, by omega, by rw [HS.out]; go_num, by rw [HS.out], by rw [HS.out], congrArg (Value.int .i64) HI.out, trivial⟩
          case measure => simp [intOf]
      | false =>
        rw [hx, if_neg (by simp)] at gk hst
        have HS : Hid _ := hst
        clear hst
        go_wp2
        go_roundw
        case rel => exact ⟨j + 1, by omega, by rw [HS.out], by rw [HS.out], by rw [HS.out], congrArg (Value.int .i64) HI.out, trivial⟩
        case measure => simp [intOf]
    · obtain rfl : j = 64 := by omega
      rw [HF.out, show (63 : Int) - ((64 : Nat) : Int) = -1 from rfl]
      dsimp only
      have hC := count_any _ b u a p q h0
      have hL := fun W (hW : BdR W b u a p q) => lowest_fun W b u a p q hW
      have hH := fun W (hW : BdR W b u a p q) => highest_fun W b u a p q hW
      have hsb : decide ((0 : Int) < (popU u : Int)) = someB u := by unfold someB; exact decide_eq_decide.2 (by omega)
      have HASB : Hid _ := hsb
      clear hle hlt hj HF hsb
      cases hs : someB u with
      | true =>
        have hpos : (0 : Int) < (popU u : Int) := of_decide_eq_true (by rw [HASB.out, hs])
        have hneg : ¬ (popU u : Int) ≤ 0 := by omega
        go_wp2_with fail
        refine hC.mono ?_
        rintro e w1 ⟨rfl, rfl⟩
        go_wp2_with fail
        have hL0 := hL _ h0
        rw [hs] at hL0
        refine hL0.mono ?_
        rintro e w2 ⟨rfl, d2⟩
        have h2 := h0.later d2
        have BO2 := BO.below d2 BO.lt
        have BA2 := BA.below d2 BA.lt
        have bb2 := b0.trans (d2.mono b0.size)
        clear h0 BO BA b0 d2 hC hL hL0
        go_wp2_with fail
        have hH0 := hH _ h2
        rw [hs] at hH0
        refine hH0.mono ?_
        rintro e w3 ⟨rfl, d3⟩
        have h3 := h2.later d3
        have BO3 := BO2.below d3 BO2.lt
        have BA3 := BA2.below d3 BA2.lt
        have bb3 := bb2.trans (d3.mono bb2.size)
        clear h2 BO2 BA2 bb2 d3 hH hH0
        obtain ⟨o0, o1, o2⟩ := BO3.facts
        go_wp2_with fail
        rw [hs] at BA3
        have k0 : w3.cell? ⟨AB, 0, none⟩ = some (I 0) := BA3.cell 0
        have k1 : w3.cell? ⟨AB, 1, none⟩ = some (I (hiN u : Nat)) := BA3.cell 1
        have k2 : w3.cell? ⟨AB, 2, none⟩ = some (I (b2i true)) := BA3.cell 2
        have k3 : w3.cell? ⟨AB, 3, none⟩ = some (S []) := BA3.cell 3
        have bv3 : Below w3.heap.size w3 w3.drew := (Below.refl _ _).drew
        clear o0 o1 o2
        go_region_held3 (fun W => W.cell? ⟨AB, 0, none⟩ = some (I 0) ∧ W.cell? ⟨AB, 1, none⟩ = some (I (hiN u : Nat)) ∧ W.cell? ⟨AB, 2, none⟩ = some (I (b2i true)) ∧ W.cell? ⟨AB, 3, none⟩ = some (S [])) (go_keep) (first | (go_at_call 27; refine (B_any true _).mono ?_; rintro e w4 ⟨rfl, rfl⟩))
        have bb4 := bb3.trans (bv3.mono bb3.size)
        clear k0 k1 k2 k3
        go_wp2
        go_ret
        exact ⟨rfl, bb4⟩
      | false =>
        have hpos : ¬ (0 : Int) < (popU u : Int) := of_decide_eq_false (by rw [HASB.out, hs])
        go_wp2_with fail
        refine hC.mono ?_
        rintro e w1 ⟨rfl, rfl⟩
        go_wp2_with fail
        have hL0 := hL _ h0
        rw [hs] at hL0
        refine hL0.mono ?_
        rintro e w2 ⟨rfl, d2⟩
        have h2 := h0.later d2
        have BO2 := BO.below d2 BO.lt
        have BA2 := BA.below d2 BA.lt
        have bb2 := b0.trans (d2.mono b0.size)
        clear h0 BO BA b0 d2 hC hL hL0
        go_wp2_with fail
        have hH0 := hH _ h2
        rw [hs] at hH0
        refine hH0.mono ?_
        rintro e w3 ⟨rfl, d3⟩
        have h3 := h2.later d3
        have BO3 := BO2.below d3 BO2.lt
        have BA3 := BA2.below d3 BA2.lt
        have bb3 := bb2.trans (d3.mono bb2.size)
        clear h2 BO2 BA2 bb2 d3 hH hH0
        obtain ⟨o0, o1, o2⟩ := BO3.facts
        go_wp2_with fail
        rw [hs] at BA3
        have k0 : w3.cell? ⟨AB, 0, none⟩ = some (I 0) := BA3.cell 0
        have k1 : w3.cell? ⟨AB, 1, none⟩ = some (I (hiN u : Nat)) := BA3.cell 1
        have k2 : w3.cell? ⟨AB, 2, none⟩ = some (I (b2i false)) := BA3.cell 2
        have k3 : w3.cell? ⟨AB, 3, none⟩ = some (S []) := BA3.cell 3
        have bv3 : Below w3.heap.size w3 w3.drew := (Below.refl _ _).drew
        clear o0 o1 o2
        go_region_held3 (fun W => W.cell? ⟨AB, 0, none⟩ = some (I 0) ∧ W.cell? ⟨AB, 1, none⟩ = some (I (hiN u : Nat)) ∧ W.cell? ⟨AB, 2, none⟩ = some (I (b2i false)) ∧ W.cell? ⟨AB, 3, none⟩ = some (S [])) (go_keep) (first | (go_at_call 27; refine (B_any false _).mono ?_; rintro e w4 ⟨rfl, rfl⟩))
        have bb4 := bb3.trans (bv3.mono bb3.size)
        clear k0 k1 k2 k3
        go_wp2
        go_ret
        exact ⟨rfl, bb4⟩
set_option maxRecDepth 100000 in
set_option maxHeartbeats 8000000 in
theorem counted_6 (w : World) (b u : Nat) (a p q : Int) (h : BdR w b u a p q) (A B C : Int) (s t : ByteArray) :
    Calls Try.prog 48 #[ptr b, S (imgF u.testBit 64), OpV 6 A B C s t, AnsV (0) ((b2i (hasB u A))) (0) ([])] w fun e w' => e = .returned (.bool true) ∧ Below w.heap.size w w' := by
  have HF : Hid _ := ctS_fin u
  have hse1 : (str ([] : List UInt8)).toList = [] := str_toList []
  have hse2 : (⟨#[]⟩ : ByteArray).toList = [] := str_toList []
  have gp := img_get u.testBit
  have hPl := imgF_len u.testBit
  generalize imgF u.testBit 64 = P at *
  have hP := str_size P
  rw [hPl] at hP
  have HGP : Hid _ := gp
  have b0 := ((Below.refl w.heap.size w).alloc (Nat.le_refl _) (.cells #[I 6, I A, I B, I C, .string s, .string t] 31)).alloc (by simp) (.cells #[I 0, I (b2i (hasB u A)), I 0, S []] 40)
  have BO : Blk ((w.alloc (.cells #[I 6, I A, I B, I C, .string s, .string t] 31)).alloc (.cells #[I 0, I (b2i (hasB u A)), I 0, S []] 40)) w.heap.size #[I 6, I A, I B, I C, .string s, .string t] 31 := (Blk.new rfl).old _
  have BA : Blk ((w.alloc (.cells #[I 6, I A, I B, I C, .string s, .string t] 31)).alloc (.cells #[I 0, I (b2i (hasB u A)), I 0, S []] 40)) (w.heap.size + 1) #[I 0, I (b2i (hasB u A)), I 0, S []] 40 := Blk.new (by simp)
  have h0 := h.later b0
  clear gp h
  go_enter Try.func48, Try.ntmps48
  go_wp2
  generalize (w.alloc (.cells #[I 6, I A, I B, I C, .string s, .string t] 31)).alloc (.cells #[I 0, I (b2i (hasB u A)), I 0, S []] 40) = v0 at *
  generalize w.heap.size + 1 = AB at *
  go_loopw [9, 10, 11, 12] (fun n lo hi i wr => ∃ j : Nat, j ≤ 64 ∧ n = I ((ctS u j).1 : Nat) ∧ lo = I ((ctS u j).2.1 : Nat) ∧ hi = I ((ctS u j).2.2 : Nat) ∧ i = I (63 - (j : Int)) ∧ wr = v0) (fun _ _ _ i _ => (intOf i + 1).toNat)
  case atStart => exact ⟨0, by omega, rfl, rfl, rfl, rfl, rfl⟩
  case round =>
    obtain ⟨j, hj, rfl, rfl, rfl, rfl, rfl⟩ := hrel
    have hle := ctS_le u j
    by_cases hlt : j < 64
    · obtain ⟨m, hm⟩ : ∃ m, m = 63 - j := ⟨_, rfl⟩
      have e1 : (63 : Int) - (j : Int) = (m : Int) := by omega
      rw [e1]
      have gk := HGP.out m (by omega)
      have hst : ctS u (j + 1) = if u.testBit m then ((ctS u j).1 + 1, m, if (ctS u j).1 = 0 then m else (ctS u j).2.2) else ctS u j := by rw [hm]; rfl
      have q1 : (m : Int) < 64 := by omega
      have q2 : (0 : Int) ≤ (m : Int) := by omega
      have w1 := wr64 ((m : Int) - 1) (by omega) (by omega)
      have HI : Hid ((m : Int) - 1 = 63 - ((j + 1 : Nat) : Int)) := by show _ = _; omega
      generalize ctS u j = c at *
      obtain ⟨c1, c2, c3⟩ := c
      dsimp only at hst hle ⊢
      have w2 := wr64 ((c1 : Int) + 1) (by omega) (by omega)
      clear hm e1
      cases hx : u.testBit m with
      | true =>
        rw [hx, if_pos rfl] at gk hst
        by_cases c0 : c1 = 0
        · subst c0
          rw [if_pos rfl] at hst
          have HS : Hid _ := hst
          clear hst
          go_wp2
          go_roundw
          case rel => exact ⟨j + 1, by omega, by rw [HS.out]; rfl, by rw [HS.out], by rw [HS.out], congrArg (Value.int .i64) HI.out, trivial⟩
          case measure => simp [intOf]
        · rw [if_neg c0] at hst
          have HS : Hid _ := hst
          have c0' : ((c1 : Int) == 0) = false := by simpa using c0
          clear hst c0
          go_wp2
          go_roundw
          case rel => exact ⟨j + 1, by omega, by rw [HS.out]; go_num, by rw [HS.out], by rw [HS.out], congrArg (Value.int .i64) HI.out, trivial⟩
          case measure => simp [intOf]
      | false =>
        rw [hx, if_neg (by simp)] at gk hst
        have HS : Hid _ := hst
        clear hst
        go_wp2
        go_roundw
        case rel => exact ⟨j + 1, by omega, by rw [HS.out], by rw [HS.out], by rw [HS.out], congrArg (Value.int .i64) HI.out, trivial⟩
        case measure => simp [intOf]
    · obtain rfl : j = 64 := by omega
      rw [HF.out, show (63 : Int) - ((64 : Nat) : Int) = -1 from rfl]
      dsimp only
      have hC := count_any _ b u a p q h0
      have hL := fun W (hW : BdR W b u a p q) => lowest_fun W b u a p q hW
      have hH := fun W (hW : BdR W b u a p q) => highest_fun W b u a p q hW
      have hsb : decide ((0 : Int) < (popU u : Int)) = someB u := by unfold someB; exact decide_eq_decide.2 (by omega)
      have HASB : Hid _ := hsb
      clear hle hlt hj HF hsb
      cases hs : someB u with
      | true =>
        have hpos : (0 : Int) < (popU u : Int) := of_decide_eq_true (by rw [HASB.out, hs])
        have hneg : ¬ (popU u : Int) ≤ 0 := by omega
        go_wp2_with fail
        refine hC.mono ?_
        rintro e w1 ⟨rfl, rfl⟩
        go_wp2_with fail
        have hL0 := hL _ h0
        rw [hs] at hL0
        refine hL0.mono ?_
        rintro e w2 ⟨rfl, d2⟩
        have h2 := h0.later d2
        have BO2 := BO.below d2 BO.lt
        have BA2 := BA.below d2 BA.lt
        have bb2 := b0.trans (d2.mono b0.size)
        clear h0 BO BA b0 d2 hC hL hL0
        go_wp2_with fail
        have hH0 := hH _ h2
        rw [hs] at hH0
        refine hH0.mono ?_
        rintro e w3 ⟨rfl, d3⟩
        have h3 := h2.later d3
        have BO3 := BO2.below d3 BO2.lt
        have BA3 := BA2.below d3 BA2.lt
        have bb3 := bb2.trans (d3.mono bb2.size)
        clear h2 BO2 BA2 bb2 d3 hH hH0
        obtain ⟨o0, o1, o2⟩ := BO3.facts
        by_cases g0 : 0 ≤ A
        · by_cases g1 : A < 64
          · obtain ⟨n, rfl⟩ := Int.eq_ofNat_of_zero_le g0
            have gj := HGP.out n (by omega)
            rw [hasB_nat u n (by omega)] at BA3
            cases hx : u.testBit n with
            | true =>
              rw [hx, if_pos rfl] at gj
              rw [hx] at BA3
              go_wp2_with fail
              have k0 : w3.cell? ⟨AB, 0, none⟩ = some (I 0) := BA3.cell 0
              have k1 : w3.cell? ⟨AB, 1, none⟩ = some (I (b2i true)) := BA3.cell 1
              have k2 : w3.cell? ⟨AB, 2, none⟩ = some (I 0) := BA3.cell 2
              have k3 : w3.cell? ⟨AB, 3, none⟩ = some (S []) := BA3.cell 3
              have bv3 : Below w3.heap.size w3 w3.drew := (Below.refl _ _).drew
              clear o0 o1 o2
              go_region_held3 (fun W => W.cell? ⟨AB, 0, none⟩ = some (I 0) ∧ W.cell? ⟨AB, 1, none⟩ = some (I (b2i true)) ∧ W.cell? ⟨AB, 2, none⟩ = some (I 0) ∧ W.cell? ⟨AB, 3, none⟩ = some (S [])) (go_keep) (first | (go_at_call 27; refine (B_any true _).mono ?_; rintro e w4 ⟨rfl, rfl⟩))
              have bb4 := bb3.trans (bv3.mono bb3.size)
              clear k0 k1 k2 k3
              go_wp2
              go_ret
              exact ⟨rfl, bb4⟩
            | false =>
              rw [hx, if_neg (by simp)] at gj
              rw [hx] at BA3
              go_wp2_with fail
              have k0 : w3.cell? ⟨AB, 0, none⟩ = some (I 0) := BA3.cell 0
              have k1 : w3.cell? ⟨AB, 1, none⟩ = some (I (b2i false)) := BA3.cell 1
              have k2 : w3.cell? ⟨AB, 2, none⟩ = some (I 0) := BA3.cell 2
              have k3 : w3.cell? ⟨AB, 3, none⟩ = some (S []) := BA3.cell 3
              have bv3 : Below w3.heap.size w3 w3.drew := (Below.refl _ _).drew
              clear o0 o1 o2
              go_region_held3 (fun W => W.cell? ⟨AB, 0, none⟩ = some (I 0) ∧ W.cell? ⟨AB, 1, none⟩ = some (I (b2i false)) ∧ W.cell? ⟨AB, 2, none⟩ = some (I 0) ∧ W.cell? ⟨AB, 3, none⟩ = some (S [])) (go_keep) (first | (go_at_call 27; refine (B_any false _).mono ?_; rintro e w4 ⟨rfl, rfl⟩))
              have bb4 := bb3.trans (bv3.mono bb3.size)
              clear k0 k1 k2 k3
              go_wp2
              go_ret
              exact ⟨rfl, bb4⟩
          · rw [show hasB u A = false from by unfold hasB inB; rw [decide_eq_false (by omega)]; rfl] at BA3
            go_wp2_with fail
            have k0 : w3.cell? ⟨AB, 0, none⟩ = some (I 0) := BA3.cell 0
            have k1 : w3.cell? ⟨AB, 1, none⟩ = some (I (b2i false)) := BA3.cell 1
            have k2 : w3.cell? ⟨AB, 2, none⟩ = some (I 0) := BA3.cell 2
            have k3 : w3.cell? ⟨AB, 3, none⟩ = some (S []) := BA3.cell 3
            have bv3 : Below w3.heap.size w3 w3.drew := (Below.refl _ _).drew
            clear o0 o1 o2
            go_region_held3 (fun W => W.cell? ⟨AB, 0, none⟩ = some (I 0) ∧ W.cell? ⟨AB, 1, none⟩ = some (I (b2i false)) ∧ W.cell? ⟨AB, 2, none⟩ = some (I 0) ∧ W.cell? ⟨AB, 3, none⟩ = some (S [])) (go_keep) (first | (go_at_call 27; refine (B_any false _).mono ?_; rintro e w4 ⟨rfl, rfl⟩))
            have bb4 := bb3.trans (bv3.mono bb3.size)
            clear k0 k1 k2 k3
            go_wp2
            go_ret
            exact ⟨rfl, bb4⟩
        · rw [show hasB u A = false from by unfold hasB inB; rw [decide_eq_false (by omega)]; rfl] at BA3
          go_wp2_with fail
          have k0 : w3.cell? ⟨AB, 0, none⟩ = some (I 0) := BA3.cell 0
          have k1 : w3.cell? ⟨AB, 1, none⟩ = some (I (b2i false)) := BA3.cell 1
          have k2 : w3.cell? ⟨AB, 2, none⟩ = some (I 0) := BA3.cell 2
          have k3 : w3.cell? ⟨AB, 3, none⟩ = some (S []) := BA3.cell 3
          have bv3 : Below w3.heap.size w3 w3.drew := (Below.refl _ _).drew
          clear o0 o1 o2
          go_region_held3 (fun W => W.cell? ⟨AB, 0, none⟩ = some (I 0) ∧ W.cell? ⟨AB, 1, none⟩ = some (I (b2i false)) ∧ W.cell? ⟨AB, 2, none⟩ = some (I 0) ∧ W.cell? ⟨AB, 3, none⟩ = some (S [])) (go_keep) (first | (go_at_call 27; refine (B_any false _).mono ?_; rintro e w4 ⟨rfl, rfl⟩))
          have bb4 := bb3.trans (bv3.mono bb3.size)
          clear k0 k1 k2 k3
          go_wp2
          go_ret
          exact ⟨rfl, bb4⟩
      | false =>
        have hpos : ¬ (0 : Int) < (popU u : Int) := of_decide_eq_false (by rw [HASB.out, hs])
        go_wp2_with fail
        refine hC.mono ?_
        rintro e w1 ⟨rfl, rfl⟩
        go_wp2_with fail
        have hL0 := hL _ h0
        rw [hs] at hL0
        refine hL0.mono ?_
        rintro e w2 ⟨rfl, d2⟩
        have h2 := h0.later d2
        have BO2 := BO.below d2 BO.lt
        have BA2 := BA.below d2 BA.lt
        have bb2 := b0.trans (d2.mono b0.size)
        clear h0 BO BA b0 d2 hC hL hL0
        go_wp2_with fail
        have hH0 := hH _ h2
        rw [hs] at hH0
        refine hH0.mono ?_
        rintro e w3 ⟨rfl, d3⟩
        have h3 := h2.later d3
        have BO3 := BO2.below d3 BO2.lt
        have BA3 := BA2.below d3 BA2.lt
        have bb3 := bb2.trans (d3.mono bb2.size)
        clear h2 BO2 BA2 bb2 d3 hH hH0
        obtain ⟨o0, o1, o2⟩ := BO3.facts
        by_cases g0 : 0 ≤ A
        · by_cases g1 : A < 64
          · obtain ⟨n, rfl⟩ := Int.eq_ofNat_of_zero_le g0
            have gj := HGP.out n (by omega)
            rw [hasB_nat u n (by omega)] at BA3
            cases hx : u.testBit n with
            | true =>
              rw [hx, if_pos rfl] at gj
              rw [hx] at BA3
              go_wp2_with fail
              have k0 : w3.cell? ⟨AB, 0, none⟩ = some (I 0) := BA3.cell 0
              have k1 : w3.cell? ⟨AB, 1, none⟩ = some (I (b2i true)) := BA3.cell 1
              have k2 : w3.cell? ⟨AB, 2, none⟩ = some (I 0) := BA3.cell 2
              have k3 : w3.cell? ⟨AB, 3, none⟩ = some (S []) := BA3.cell 3
              have bv3 : Below w3.heap.size w3 w3.drew := (Below.refl _ _).drew
              clear o0 o1 o2
              go_region_held3 (fun W => W.cell? ⟨AB, 0, none⟩ = some (I 0) ∧ W.cell? ⟨AB, 1, none⟩ = some (I (b2i true)) ∧ W.cell? ⟨AB, 2, none⟩ = some (I 0) ∧ W.cell? ⟨AB, 3, none⟩ = some (S [])) (go_keep) (first | (go_at_call 27; refine (B_any true _).mono ?_; rintro e w4 ⟨rfl, rfl⟩))
              have bb4 := bb3.trans (bv3.mono bb3.size)
              clear k0 k1 k2 k3
              go_wp2
              go_ret
              exact ⟨rfl, bb4⟩
            | false =>
              rw [hx, if_neg (by simp)] at gj
              rw [hx] at BA3
              go_wp2_with fail
              have k0 : w3.cell? ⟨AB, 0, none⟩ = some (I 0) := BA3.cell 0
              have k1 : w3.cell? ⟨AB, 1, none⟩ = some (I (b2i false)) := BA3.cell 1
              have k2 : w3.cell? ⟨AB, 2, none⟩ = some (I 0) := BA3.cell 2
              have k3 : w3.cell? ⟨AB, 3, none⟩ = some (S []) := BA3.cell 3
              have bv3 : Below w3.heap.size w3 w3.drew := (Below.refl _ _).drew
              clear o0 o1 o2
              go_region_held3 (fun W => W.cell? ⟨AB, 0, none⟩ = some (I 0) ∧ W.cell? ⟨AB, 1, none⟩ = some (I (b2i false)) ∧ W.cell? ⟨AB, 2, none⟩ = some (I 0) ∧ W.cell? ⟨AB, 3, none⟩ = some (S [])) (go_keep) (first | (go_at_call 27; refine (B_any false _).mono ?_; rintro e w4 ⟨rfl, rfl⟩))
              have bb4 := bb3.trans (bv3.mono bb3.size)
              clear k0 k1 k2 k3
              go_wp2
              go_ret
              exact ⟨rfl, bb4⟩
          · rw [show hasB u A = false from by unfold hasB inB; rw [decide_eq_false (by omega)]; rfl] at BA3
            go_wp2_with fail
            have k0 : w3.cell? ⟨AB, 0, none⟩ = some (I 0) := BA3.cell 0
            have k1 : w3.cell? ⟨AB, 1, none⟩ = some (I (b2i false)) := BA3.cell 1
            have k2 : w3.cell? ⟨AB, 2, none⟩ = some (I 0) := BA3.cell 2
            have k3 : w3.cell? ⟨AB, 3, none⟩ = some (S []) := BA3.cell 3
            have bv3 : Below w3.heap.size w3 w3.drew := (Below.refl _ _).drew
            clear o0 o1 o2
            go_region_held3 (fun W => W.cell? ⟨AB, 0, none⟩ = some (I 0) ∧ W.cell? ⟨AB, 1, none⟩ = some (I (b2i false)) ∧ W.cell? ⟨AB, 2, none⟩ = some (I 0) ∧ W.cell? ⟨AB, 3, none⟩ = some (S [])) (go_keep) (first | (go_at_call 27; refine (B_any false _).mono ?_; rintro e w4 ⟨rfl, rfl⟩))
            have bb4 := bb3.trans (bv3.mono bb3.size)
            clear k0 k1 k2 k3
            go_wp2
            go_ret
            exact ⟨rfl, bb4⟩
        · rw [show hasB u A = false from by unfold hasB inB; rw [decide_eq_false (by omega)]; rfl] at BA3
          go_wp2_with fail
          have k0 : w3.cell? ⟨AB, 0, none⟩ = some (I 0) := BA3.cell 0
          have k1 : w3.cell? ⟨AB, 1, none⟩ = some (I (b2i false)) := BA3.cell 1
          have k2 : w3.cell? ⟨AB, 2, none⟩ = some (I 0) := BA3.cell 2
          have k3 : w3.cell? ⟨AB, 3, none⟩ = some (S []) := BA3.cell 3
          have bv3 : Below w3.heap.size w3 w3.drew := (Below.refl _ _).drew
          clear o0 o1 o2
          go_region_held3 (fun W => W.cell? ⟨AB, 0, none⟩ = some (I 0) ∧ W.cell? ⟨AB, 1, none⟩ = some (I (b2i false)) ∧ W.cell? ⟨AB, 2, none⟩ = some (I 0) ∧ W.cell? ⟨AB, 3, none⟩ = some (S [])) (go_keep) (first | (go_at_call 27; refine (B_any false _).mono ?_; rintro e w4 ⟨rfl, rfl⟩))
          have bb4 := bb3.trans (bv3.mono bb3.size)
          clear k0 k1 k2 k3
          go_wp2
          go_ret
          exact ⟨rfl, bb4⟩
end Go.Proofs.Qxb6500469a
