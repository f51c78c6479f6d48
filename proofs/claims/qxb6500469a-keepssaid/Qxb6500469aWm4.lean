import Derived.Test.Qxb6500469aWm3a
import Derived.Test.Qxb6500469aWm3b
namespace Go.Proofs.Qxb6500469a
open Go.RowKit

theorem dec_nat (k n : Nat) : decide ((k : Int) = (n : Int)) = decide (k = n) := decide_eq_decide.2 Int.ofNat_inj
set_option maxHeartbeats 1000000 in
theorem madd_ok (w : World) (b : Nat) (ad : Option Addr) (cap u : Nat) (a p q : Int) (h : MbR w b ad cap u a p q) (n : Nat) (hn : n < 64) : Calls Try.prog 64 #[ptr b, I n] w fun e w' => e = .returned (I 0) ∧ Mod w b ad (u ||| 2 ^ n) a p q w' := by
  have hP := pick_1 w b ad cap u a p q h (n : Int) (u ||| 2 ^ n) (or_lt _ _ h.hu (pow_lt64 n hn)) (fun k hk => by rw [dec_nat]; exact bit_add u n k)
  generalize u ||| 2 ^ n = v at *
  have one : Calls Try.prog 83 #[ptr b, I 1, I n] w fun e w' => e = .returned (I 0) ∧ Mod w b ad v a p q w' := by
    have q1 : ¬ (n : Int) < 0 := by omega
    have q2 : ¬ (64 : Int) ≤ (n : Int) := by omega
    go_enter Try.func83, Try.ntmps83
    go_wp2_with fail
    refine hP.mono ?_
    rintro e w1 ⟨rfl, m1⟩
    go_wp2
    go_ret
    exact ⟨rfl, m1⟩
  go_enter Try.func64, Try.ntmps64
  go_wp2_with fail
  refine one.mono ?_
  rintro e w1 ⟨rfl, m1⟩
  go_wp2
  go_ret
  exact ⟨rfl, m1⟩
set_option maxHeartbeats 1000000 in
theorem madd_no (w : World) (b : Nat) (i : Int) (hn : ¬ (0 ≤ i ∧ i < 64)) : Calls Try.prog 64 #[ptr b, I i] w fun e w' => e = .returned (I 2) ∧ w' = w := by
  have one : Calls Try.prog 83 #[ptr b, I 1, I i] w fun e w' => e = .returned (I 2) ∧ w' = w := by
    by_cases q1 : i < 0
    · go_enter Try.func83, Try.ntmps83
      go_wp2
      go_ret
      exact ⟨rfl, rfl⟩
    · have q2 : 64 ≤ i := by omega
      go_enter Try.func83, Try.ntmps83
      go_wp2
      go_ret
      exact ⟨rfl, rfl⟩
  go_enter Try.func64, Try.ntmps64
  go_wp2_with fail
  refine one.mono ?_
  rintro e w1 ⟨rfl, rfl⟩
  go_wp2
  go_ret
  exact ⟨rfl, rfl⟩
set_option maxHeartbeats 1000000 in
theorem mremove_ok (w : World) (b : Nat) (ad : Option Addr) (cap u : Nat) (a p q : Int) (h : MbR w b ad cap u a p q) (n : Nat) (hn : n < 64) : Calls Try.prog 65 #[ptr b, I n] w fun e w' => e = .returned (I 0) ∧ Mod w b ad (rmB u n) a p q w' := by
  have hP := pick_2 w b ad cap u a p q h (n : Int) (rmB u n) (and_lt _ _ h.hu) (fun k hk => by rw [dec_nat]; exact bit_rm u n k hn hk)
  generalize rmB u n = v at *
  have one : Calls Try.prog 83 #[ptr b, I 2, I n] w fun e w' => e = .returned (I 0) ∧ Mod w b ad v a p q w' := by
    have q1 : ¬ (n : Int) < 0 := by omega
    have q2 : ¬ (64 : Int) ≤ (n : Int) := by omega
    go_enter Try.func83, Try.ntmps83
    go_wp2_with fail
    refine hP.mono ?_
    rintro e w1 ⟨rfl, m1⟩
    go_wp2
    go_ret
    exact ⟨rfl, m1⟩
  go_enter Try.func65, Try.ntmps65
  go_wp2_with fail
  refine one.mono ?_
  rintro e w1 ⟨rfl, m1⟩
  go_wp2
  go_ret
  exact ⟨rfl, m1⟩
set_option maxHeartbeats 1000000 in
theorem mremove_no (w : World) (b : Nat) (i : Int) (hn : ¬ (0 ≤ i ∧ i < 64)) : Calls Try.prog 65 #[ptr b, I i] w fun e w' => e = .returned (I 2) ∧ w' = w := by
  have one : Calls Try.prog 83 #[ptr b, I 2, I i] w fun e w' => e = .returned (I 2) ∧ w' = w := by
    by_cases q1 : i < 0
    · go_enter Try.func83, Try.ntmps83
      go_wp2
      go_ret
      exact ⟨rfl, rfl⟩
    · have q2 : 64 ≤ i := by omega
      go_enter Try.func83, Try.ntmps83
      go_wp2
      go_ret
      exact ⟨rfl, rfl⟩
  go_enter Try.func65, Try.ntmps65
  go_wp2_with fail
  refine one.mono ?_
  rintro e w1 ⟨rfl, rfl⟩
  go_wp2
  go_ret
  exact ⟨rfl, rfl⟩
set_option maxHeartbeats 1000000 in
theorem mtoggle_ok (w : World) (b : Nat) (ad : Option Addr) (cap u : Nat) (a p q : Int) (h : MbR w b ad cap u a p q) (n : Nat) (hn : n < 64) : Calls Try.prog 66 #[ptr b, I n] w fun e w' => e = .returned (I 0) ∧ Mod w b ad (u ^^^ 2 ^ n) a p q w' := by
  have hP := pick_3 w b ad cap u a p q h (n : Int) (u ^^^ 2 ^ n) (xor_lt _ _ h.hu (pow_lt64 n hn)) (fun k hk => by rw [dec_nat]; exact bit_tg u n k)
  generalize u ^^^ 2 ^ n = v at *
  have one : Calls Try.prog 83 #[ptr b, I 3, I n] w fun e w' => e = .returned (I 0) ∧ Mod w b ad v a p q w' := by
    have q1 : ¬ (n : Int) < 0 := by omega
    have q2 : ¬ (64 : Int) ≤ (n : Int) := by omega
    go_enter Try.func83, Try.ntmps83
    go_wp2_with fail
    refine hP.mono ?_
    rintro e w1 ⟨rfl, m1⟩
    go_wp2
    go_ret
    exact ⟨rfl, m1⟩
  go_enter Try.func66, Try.ntmps66
  go_wp2_with fail
  refine one.mono ?_
  rintro e w1 ⟨rfl, m1⟩
  go_wp2
  go_ret
  exact ⟨rfl, m1⟩
set_option maxHeartbeats 1000000 in
theorem mtoggle_no (w : World) (b : Nat) (i : Int) (hn : ¬ (0 ≤ i ∧ i < 64)) : Calls Try.prog 66 #[ptr b, I i] w fun e w' => e = .returned (I 2) ∧ w' = w := by
  have one : Calls Try.prog 83 #[ptr b, I 3, I i] w fun e w' => e = .returned (I 2) ∧ w' = w := by
    by_cases q1 : i < 0
    · go_enter Try.func83, Try.ntmps83
      go_wp2
      go_ret
      exact ⟨rfl, rfl⟩
    · have q2 : 64 ≤ i := by omega
      go_enter Try.func83, Try.ntmps83
      go_wp2
      go_ret
      exact ⟨rfl, rfl⟩
  go_enter Try.func66, Try.ntmps66
  go_wp2_with fail
  refine one.mono ?_
  rintro e w1 ⟨rfl, rfl⟩
  go_wp2
  go_ret
  exact ⟨rfl, rfl⟩
set_option maxHeartbeats 1000000 in
theorem mjoin_ok (w : World) (b : Nat) (ad : Option Addr) (cap u : Nat) (a p q : Int) (h : MbR w b ad cap u a p q) (o : Nat) (ad2 : Option Addr) (cap2 u2 : Nat) (a2 p2 q2 : Int) (h2 : MbR w o ad2 cap2 u2 a2 p2 q2) : Calls Try.prog 68 #[ptr b, ptr o] w fun e w' => e = .returned (I 0) ∧ Mod w b ad (u ||| u2) a p q w' := by
  have hP := pick_4 w b ad cap u a p q h o ad2 cap2 u2 a2 p2 q2 h2 (u ||| u2) (or_lt _ _ h.hu h2.hu) (fun k hk => Nat.testBit_or _ _ _)
  generalize u ||| u2 = v at *
  have two : Calls Try.prog 84 #[ptr b, I 4, ptr o] w fun e w' => e = .returned (I 0) ∧ Mod w b ad v a p q w' := by
    go_enter Try.func84, Try.ntmps84
    go_wp2_with fail
    refine hP.mono ?_
    rintro e w1 ⟨rfl, m1⟩
    go_wp2
    go_ret
    exact ⟨rfl, m1⟩
  go_enter Try.func68, Try.ntmps68
  go_wp2_with fail
  refine two.mono ?_
  rintro e w1 ⟨rfl, m1⟩
  go_wp2
  go_ret
  exact ⟨rfl, m1⟩
set_option maxHeartbeats 1000000 in
theorem mjoin_no (w : World) (b : Nat) : Calls Try.prog 68 #[ptr b, .pointer none] w fun e w' => e = .returned (I 3) ∧ w' = w := by
  have two : Calls Try.prog 84 #[ptr b, I 4, .pointer none] w fun e w' => e = .returned (I 3) ∧ w' = w := by
    go_enter Try.func84, Try.ntmps84
    go_wp2
    go_ret
    exact ⟨rfl, rfl⟩
  go_enter Try.func68, Try.ntmps68
  go_wp2_with fail
  refine two.mono ?_
  rintro e w1 ⟨rfl, rfl⟩
  go_wp2
  go_ret
  exact ⟨rfl, rfl⟩
set_option maxHeartbeats 1000000 in
theorem mmeet_ok (w : World) (b : Nat) (ad : Option Addr) (cap u : Nat) (a p q : Int) (h : MbR w b ad cap u a p q) (o : Nat) (ad2 : Option Addr) (cap2 u2 : Nat) (a2 p2 q2 : Int) (h2 : MbR w o ad2 cap2 u2 a2 p2 q2) : Calls Try.prog 69 #[ptr b, ptr o] w fun e w' => e = .returned (I 0) ∧ Mod w b ad (u &&& u2) a p q w' := by
  have hP := pick_5 w b ad cap u a p q h o ad2 cap2 u2 a2 p2 q2 h2 (u &&& u2) (and_lt _ _ h.hu) (fun k hk => Nat.testBit_and _ _ _)
  generalize u &&& u2 = v at *
  have two : Calls Try.prog 84 #[ptr b, I 5, ptr o] w fun e w' => e = .returned (I 0) ∧ Mod w b ad v a p q w' := by
    go_enter Try.func84, Try.ntmps84
    go_wp2_with fail
    refine hP.mono ?_
    rintro e w1 ⟨rfl, m1⟩
    go_wp2
    go_ret
    exact ⟨rfl, m1⟩
  go_enter Try.func69, Try.ntmps69
  go_wp2_with fail
  refine two.mono ?_
  rintro e w1 ⟨rfl, m1⟩
  go_wp2
  go_ret
  exact ⟨rfl, m1⟩
set_option maxHeartbeats 1000000 in
theorem mmeet_no (w : World) (b : Nat) : Calls Try.prog 69 #[ptr b, .pointer none] w fun e w' => e = .returned (I 3) ∧ w' = w := by
  have two : Calls Try.prog 84 #[ptr b, I 5, .pointer none] w fun e w' => e = .returned (I 3) ∧ w' = w := by
    go_enter Try.func84, Try.ntmps84
    go_wp2
    go_ret
    exact ⟨rfl, rfl⟩
  go_enter Try.func69, Try.ntmps69
  go_wp2_with fail
  refine two.mono ?_
  rintro e w1 ⟨rfl, rfl⟩
  go_wp2
  go_ret
  exact ⟨rfl, rfl⟩
set_option maxHeartbeats 1000000 in
theorem mminus_ok (w : World) (b : Nat) (ad : Option Addr) (cap u : Nat) (a p q : Int) (h : MbR w b ad cap u a p q) (o : Nat) (ad2 : Option Addr) (cap2 u2 : Nat) (a2 p2 q2 : Int) (h2 : MbR w o ad2 cap2 u2 a2 p2 q2) : Calls Try.prog 70 #[ptr b, ptr o] w fun e w' => e = .returned (I 0) ∧ Mod w b ad (u &&& (18446744073709551615 - u2)) a p q w' := by
  have hP := pick_6 w b ad cap u a p q h o ad2 cap2 u2 a2 p2 q2 h2 (u &&& (18446744073709551615 - u2)) (and_lt _ _ h.hu) (fun k hk => bit_minus u u2 k h2.hu hk)
  generalize u &&& (18446744073709551615 - u2) = v at *
  have two : Calls Try.prog 84 #[ptr b, I 6, ptr o] w fun e w' => e = .returned (I 0) ∧ Mod w b ad v a p q w' := by
    go_enter Try.func84, Try.ntmps84
    go_wp2_with fail
    refine hP.mono ?_
    rintro e w1 ⟨rfl, m1⟩
    go_wp2
    go_ret
    exact ⟨rfl, m1⟩
  go_enter Try.func70, Try.ntmps70
  go_wp2_with fail
  refine two.mono ?_
  rintro e w1 ⟨rfl, m1⟩
  go_wp2
  go_ret
  exact ⟨rfl, m1⟩
set_option maxHeartbeats 1000000 in
theorem mminus_no (w : World) (b : Nat) : Calls Try.prog 70 #[ptr b, .pointer none] w fun e w' => e = .returned (I 3) ∧ w' = w := by
  have two : Calls Try.prog 84 #[ptr b, I 6, .pointer none] w fun e w' => e = .returned (I 3) ∧ w' = w := by
    go_enter Try.func84, Try.ntmps84
    go_wp2
    go_ret
    exact ⟨rfl, rfl⟩
  go_enter Try.func70, Try.ntmps70
  go_wp2_with fail
  refine two.mono ?_
  rintro e w1 ⟨rfl, rfl⟩
  go_wp2
  go_ret
  exact ⟨rfl, rfl⟩
set_option maxHeartbeats 1000000 in
theorem mflip_any (w : World) (b : Nat) (ad : Option Addr) (cap u : Nat) (a p q : Int) (h : MbR w b ad cap u a p q) : Calls Try.prog 71 #[ptr b] w fun e w' => e = .returned (.tuple #[]) ∧ Mod w b ad (18446744073709551615 ^^^ u) a p q w' := by
  have hP := pick_7 w b ad cap u a p q h (18446744073709551615 ^^^ u) (xor_lt _ _ (by decide) h.hu) (fun k hk => bit_flip u k hk)
  generalize 18446744073709551615 ^^^ u = v at *
  go_enter Try.func71, Try.ntmps71
  go_wp2_with fail
  refine hP.mono ?_
  rintro e w1 ⟨rfl, m1⟩
  go_wp2
  go_end0
  exact ⟨rfl, m1⟩
theorem Mod.since {w0 w : World} {b : Nat} {ad : Option Addr} {v : Nat} {x y z : Int} {w' : World} (h : Mod w b ad v x y z w') (k : Below w0.heap.size w0 w) : Mod w0 b ad v x y z w' := by
  obtain ⟨ad', cap', h1, h2, h3⟩ := h
  refine ⟨ad', cap', h1, ?_, (Upd.of_below k).trans h3⟩
  rcases h2 with e | e
  · exact .inl e
  · exact .inr fun g hg => Nat.le_trans k.size (e g hg)
set_option maxHeartbeats 1000000 in
theorem mrotate_any (w : World) (b : Nat) (ad : Option Addr) (cap u : Nat) (a p q : Int) (h : MbR w b ad cap u a p q) (i : Int) : Calls Try.prog 73 #[ptr b, I i] w fun e w' => e = .returned (.tuple #[]) ∧ Mod w b ad (rotB u (i % 64).toNat) a p q w' := by
  have hW := wrap_u6 i w
  obtain ⟨k, hk⟩ : ∃ k, k = (i % 64).toNat := ⟨_, rfl⟩
  have hk64 : k < 64 := by omega
  rw [show (i + 0) % 64 - 0 = (k : Int) from by omega] at hW
  rw [← hk]
  have hP := fun W (hW : MbR W b ad cap u a p q) => pick_8 W b ad cap u a p q hW (k : Int) ⟨by omega, by omega⟩ (rotB u k) (rotB_lt _ _ h.hu) (fun j hj => by
    rw [bit_rot u k j h.hu hk64 hj]
    congr 1
    omega)
  clear hk
  generalize rotB u k = v at *
  go_enter Try.func73, Try.ntmps73
  go_wp2_with fail
  refine hW.mono ?_
  rintro e w1 ⟨rfl, b1⟩
  have h1 := h.later b1
  go_wp2_with fail
  refine (hP _ h1).mono ?_
  rintro e w2 ⟨rfl, m2⟩
  have m3 := m2.since b1
  go_wp2
  go_end0
  exact ⟨rfl, m3⟩
/-! ### Shift -/
def shF (n : Int) (x : Nat) : Option Nat := if 0 ≤ (x : Int) + n ∧ (x : Int) + n < 64 then some ((x : Int) + n).toNat else none
theorem shift_law (u v : Nat) (n : Int) (hv : ∀ x, x < 64 → v.testBit x = hasB u ((x : Int) - n)) : (bitsL u 64).filterMap (shF n) = bitsL v 64 := by
  refine rise_ext _ _ ?_ (bitsL_rise v 64) fun x => ?_
  · refine List.Pairwise.filterMap _ ?_ (bitsL_rise u 64)
    intro a a' haa b hb b' hb'
    unfold shF at hb hb'
    split at hb
    · split at hb'
      · simp only [Option.some.injEq] at hb hb'
        omega
      · simp at hb'
    · simp at hb
  · rw [List.mem_filterMap, bitsL_mem]
    constructor
    · rintro ⟨y, hy, e⟩
      unfold shF at e
      split at e
      · simp only [Option.some.injEq] at e
        have hx : x < 64 := by omega
        refine ⟨hx, ?_⟩
        rw [hv x hx]
        exact (hasB_mem u _).2 ⟨y, hy, by omega⟩
      · simp at e
    · rintro ⟨hx, hb⟩
      rw [hv x hx] at hb
      obtain ⟨y, hy, e⟩ := (hasB_mem u _).1 hb
      refine ⟨y, hy, ?_⟩
      unfold shF
      rw [if_pos (by omega)]
      congr 1
      omega
theorem shl_has (u n x : Nat) (hx : x < 64) : (shlB u n).testBit x = hasB u ((x : Int) - (n : Int)) := by
  rw [bit_shl u n x hx]
  unfold hasB inB
  by_cases h : n ≤ x
  · rw [decide_eq_true h, decide_eq_true ⟨by omega, by omega⟩, show ((x : Int) - (n : Int)).toNat = x - n from by omega]
  · rw [decide_eq_false h, decide_eq_false (by omega)]; rfl
theorem shr_has (u n x : Nat) (hu : u < 18446744073709551616) : (shrB u n).testBit x = hasB u ((x : Int) - (-(n : Int))) := by
  rw [bit_shr]
  unfold hasB inB
  rw [show ((x : Int) - (-(n : Int))).toNat = x + n from by omega]
  by_cases h : x + n < 64
  · rw [decide_eq_true ⟨by omega, by omega⟩]; simp
  · rw [top_bit u (x + n) hu (by omega)]; simp
set_option maxHeartbeats 1000000 in
theorem mshift_no (w : World) (b : Nat) (i : Int) (hn : i < -64 ∨ 64 < i) : Calls Try.prog 72 #[ptr b, I i] w fun e w' => e = .returned (I 2) ∧ w' = w := by
  by_cases h1 : i < -64
  · go_enter Try.func72, Try.ntmps72
    go_wp2
    go_ret
    exact ⟨rfl, rfl⟩
  · have h2 : 64 < i := by omega
    go_enter Try.func72, Try.ntmps72
    go_wp2
    go_ret
    exact ⟨rfl, rfl⟩
theorem take_step (l : List Nat) (n : Int) (j : Nat) (hj : j < l.length) : (l.take (j + 1)).filterMap (shF n) = (l.take j).filterMap (shF n) ++ (match shF n (l.getD j 0) with | some y => [y] | none => []) := by
  rw [List.take_add_one, List.filterMap_append, List.getD_eq_getElem?_getD, List.getElem?_eq_getElem hj]
  simp only [Option.toList_some, Option.getD_some]
  congr 1
  rw [List.filterMap_cons, List.filterMap_nil]
  split <;> simp_all
set_option maxRecDepth 100000 in
set_option maxHeartbeats 4000000 in
theorem mshift_ok (w : World) (b : Nat) (ad : Option Addr) (cap u : Nat) (a p q : Int) (h : MbR w b ad cap u a p q) (n : Int) (h1 : -64 ≤ n) (h2 : n ≤ 64) (v : Nat) (hv : v < 18446744073709551616) (hV : ∀ x, x < 64 → v.testBit x = hasB u ((x : Int) - n)) :
    Calls Try.prog 72 #[ptr b, I n] w fun e w' => e = .returned (I 0) ∧ Mod w b ad v a p q w' := by
  obtain ⟨i0, hi, hz0, hz1, hz2⟩ := info_parts iInfo
  have lb := h.head.lt
  have hfin := shift_law u v n hV
  have hl := bitsL_len u 64
  have q1 : ¬ n < -64 := by omega
  have q2 : ¬ 64 < n := by omega
  have hmem : ∀ k, k < (bitsL u 64).length → (bitsL u 64).getD k 0 < 64 := by
    intro k hk
    rw [List.getD_eq_getElem?_getD, List.getElem?_eq_getElem hk]
    exact ((bitsL_mem u 64 _).1 (List.getElem_mem hk)).1
  have HME : Hid _ := hmem
  have hstep := take_step (bitsL u 64) n
  have HST : Hid _ := hstep
  have HFI : Hid _ := hfin
  clear hV hmem hstep hfin
  go_enter Try.func72, Try.ntmps72
  go_wp2
  go_loopw [5, 6] (fun nx i wr => ∃ (k : Nat) (an : Option Addr) (cn : Nat) (xs : List Nat), k ≤ (bitsL u 64).length ∧ xs.length ≤ k ∧ nx = .slice an xs.length cn ∧ i = I k ∧ Hid (xs = ((bitsL u 64).take k).filterMap (shF n)) ∧ OwnI w.heap.size wr an cn xs ∧ Below w.heap.size w wr) (fun _ i _ => ((bitsL u 64).length - intOf i).toNat)
  case atStart => exact ⟨0, none, 0, [], by omega, Nat.le_refl _, rfl, rfl, rfl, OwnI.nil _ _, Below.refl _ _⟩
  case round =>
    obtain ⟨k, an, cn, xs, hk, hxl, rfl, rfl, hxs, hO, br⟩ := hrel
    have hr := h.later br
    clear h
    obtain ⟨c0, -, -, -⟩ := hr.cells
    have hrow := hr.row
    obtain ⟨L, hL⟩ : ∃ L, L = (bitsL u 64).length := ⟨_, rfl⟩
    rw [← hL] at c0 hk hrow hl
    rw [← hL] at HME HST
    by_cases hlt : k < L
    · obtain ⟨g, rfl, r0, r1⟩ := hrow k hlt
      have hx64 := HME.out k hlt
      have hst := HST.out k hlt
      have q3 : (k : Int) < (L : Int) := by omega
      have q4 := wr64 ((k : Int) + 1) (by omega) (by omega)
      have HOwn := hO.own
      generalize (bitsL u 64).getD k 0 = x at *
      have w1 := wr64 ((x : Int) + n) (by omega) (by omega)
      by_cases ge : 0 ≤ (x : Int) + n
      · by_cases lt : (x : Int) + n < 64
        · obtain ⟨y, hy⟩ := Int.eq_ofNat_of_zero_le ge
          have e8 : xs ++ [y] = ((bitsL u 64).take (k + 1)).filterMap (shF n) := by
            rw [hst, hxs.out]
            unfold shF
            rw [if_pos ⟨ge, lt⟩, hy]
            rfl
          have HE8 : Hid _ := e8
          rw [hy] at w1 ge lt
          clear e8 hst
          go_wp2_with (at_builtin; go_loud (refine wpList_append_lies _ rfl (.tmp 44) (.tmp 54) 87 rfl 0 3 i0 (I 0) 1 8 Try.underlying87 hi hz0 hz1 hz2 rfl (by decide) (.slice an xs.length cn) _ _ rfl (World.ownsRow.alloc HOwn _) ⟨wr.heap.size, 0, none⟩ 1 1 [I (y : Int)] rfl rfl (cell_one_new _ _ _) (by intro u hu; simp at hu; subst hu; rfl) (by decide) (by unfold maxLen; omega) (by omega) (Nat.zero_le _) (wr.heap.size + 1) (World.size_alloc _ _) ?_); intro g1 cap1 w3 hown hgrow hat hlt3; go_loud (rw [own_slice] at hgrow hat))
          obtain ⟨O4, B4⟩ := hO.push (c := y) br.size hown hgrow hat
          have hl8 : (xs ++ [y]).length = xs.length + 1 := by rw [List.length_append]; rfl
          go_roundw
          case rel => exact ⟨k + 1, some ⟨g1, 0, none⟩, cap1, xs ++ [y], by omega, by omega, by rw [hl8], by go_num, HE8, O4, br.trans B4⟩
          case measure => simp [intOf]; omega
        · have e8 : xs = ((bitsL u 64).take (k + 1)).filterMap (shF n) := by
            rw [hst, hxs.out]
            unfold shF
            rw [if_neg (fun e => lt e.2)]
            simp
          have HE8 : Hid _ := e8
          clear e8 hst
          go_wp2
          go_roundw
          case rel => exact ⟨k + 1, an, cn, xs, by omega, by omega, rfl, by go_num, HE8, hO, br⟩
          case measure => simp [intOf]; omega
      · have e8 : xs = ((bitsL u 64).take (k + 1)).filterMap (shF n) := by
          rw [hst, hxs.out]
          unfold shF
          rw [if_neg (fun e => ge e.1)]
          simp
        have HE8 : Hid _ := e8
        clear e8 hst
        go_wp2
        go_roundw
        case rel => exact ⟨k + 1, an, cn, xs, by omega, by omega, rfl, by go_num, HE8, hO, br⟩
        case measure => simp [intOf]; omega
    · obtain rfl : k = L := by omega
      have e9 : xs = bitsL v 64 := by rw [hxs.out, hL, List.take_length, HFI.out]
      subst e9
      have fz := hr.head.frozen 0
      have MM := hr.take hO hv lb
      have UU : Upd [b] w _ := (Upd.of_below br).setCell (p := ⟨b, 0, none⟩) (by simp) (.slice an (bitsL v 64).length cn)
      have q3 : ¬ (k : Int) < (k : Int) := by omega
      go_wp2
      go_ret
      exact ⟨rfl, an, cn, MM, .inr hO.fresh, UU⟩
end Go.Proofs.Qxb6500469a
