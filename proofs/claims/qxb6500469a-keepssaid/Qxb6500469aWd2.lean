import Derived.Test.Qxb6500469aWd1
namespace Go.Proofs.Qxb6500469a
open Go.RowKit

abbrev U64 : Nat := 18446744073709551616
def bdC (u : Nat) (a p q : Int) : Array Value := #[W64 u, .int .i8 a, .int .i16 p, .int .u16 q]
structure BdR (w : World) (b u : Nat) (a p q : Int) : Prop where
  head : Blk w b (bdC u a p q) 79
  hu : u < 18446744073709551616
  ha : -128 ≤ a ∧ a ≤ 127
  hp : -32768 ≤ p ∧ p ≤ 32767
  hq : 0 ≤ q ∧ q ≤ 65535
theorem BdR.upd {bs : List Nat} {w w' : World} {b u : Nat} {a p q : Int} (h : BdR w b u a p q) (k : Upd bs w w') (hb : b ∉ bs) : BdR w' b u a p q := ⟨h.head.upd k hb, h.hu, h.ha, h.hp, h.hq⟩
theorem BdR.later {w w' : World} {b u : Nat} {a p q : Int} (h : BdR w b u a p q) (k : Below w.heap.size w w') : BdR w' b u a p q := h.upd (Upd.of_below (bs := []) k) (by simp)
theorem BdR.cells {w : World} {b u : Nat} {a p q : Int} (h : BdR w b u a p q) : w.cell? ⟨b, 0, none⟩ = some (W64 u) ∧ w.cell? ⟨b, 1, none⟩ = some (.int .i8 a) ∧ w.cell? ⟨b, 2, none⟩ = some (.int .i16 p) ∧ w.cell? ⟨b, 3, none⟩ = some (.int .u16 q) := ⟨h.head.cell 0, h.head.cell 1, h.head.cell 2, h.head.cell 3⟩
theorem BdR.setU {w : World} {b u : Nat} {a p q : Int} (h : BdR w b u a p q) (v : Nat) (hv : v < 18446744073709551616) : BdR (w.setCell ⟨b, 0, none⟩ (W64 v)) b v a p q := ⟨h.head.set (i := 0) (W64 v), hv, h.ha, h.hp, h.hq⟩

set_option maxHeartbeats 400000 in
theorem wNew_any (w : World) : Calls Try.prog 25 #[] w fun e w' => e = .returned (ptr w.heap.size) ∧ BdR w' w.heap.size 0 0 0 0 ∧ Below w.heap.size w w' := by
  go_enter Try.func25, Try.ntmps25
  go_wp2
  go_ret
  exact ⟨rfl, ⟨Blk.new rfl, by omega, by omega, by omega, by omega⟩, (Below.refl _ _).alloc (Nat.le_refl _) _⟩
def inB (i : Int) : Bool := decide (0 ≤ i ∧ i < 64)
set_option maxHeartbeats 400000 in
theorem inside_any (i : Int) (w : World) : Calls Try.prog 58 #[I i] w fun e w' => e = .returned (.bool (inB i)) ∧ w' = w := by
  unfold inB
  by_cases h0 : 0 ≤ i
  · by_cases h1 : i < 64
    · rw [decide_eq_true ⟨h0, h1⟩]
      go_enter Try.func58, Try.ntmps58
      go_wp2
      go_ret
      exact ⟨rfl, rfl⟩
    · rw [decide_eq_false (fun e => h1 e.2)]
      go_enter Try.func58, Try.ntmps58
      go_wp2
      go_ret
      exact ⟨rfl, rfl⟩
  · rw [decide_eq_false (fun e => h0 e.1)]
    go_enter Try.func58, Try.ntmps58
    go_wp2
    go_ret
    exact ⟨rfl, rfl⟩
def hasB (u : Nat) (i : Int) : Bool := inB i && u.testBit i.toNat
set_option maxHeartbeats 400000 in
theorem has_any (w : World) (b u : Nat) (a p q : Int) (h : BdR w b u a p q) (i : Int) : Calls Try.prog 26 #[ptr b, I i] w fun e w' => e = .returned (.bool (hasB u i)) ∧ w' = w := by
  have hI := inside_any i w
  unfold hasB
  by_cases hb : inB i = true
  · rw [hb] at hI ⊢
    obtain ⟨h0, h1⟩ := of_decide_eq_true hb
    obtain ⟨n, rfl⟩ := Int.eq_ofNat_of_zero_le h0
    rw [Int.toNat_natCast]
    obtain ⟨c0, -, -, -⟩ := h.cells
    have hu := h.hu
    have e1 : (bits .and .u64 ((u : Int) / 2 ^ n) 1 == 1) = (true && u.testBit n) := by
      have q : (u : Int) / 2 ^ n = ((u / 2 ^ n : Nat) : Int) := by rw [Int.natCast_ediv, Int.natCast_pow]; rfl
      have q2 : u / 2 ^ n < 18446744073709551616 := Nat.lt_of_le_of_lt (Nat.div_le_self _ _) hu
      rw [q, Nat.testBit_eq_decide_div_mod_eq]
      generalize u / 2 ^ n = y at *
      rw [and_one_u64 _ (by omega) (by omega)]
      have : y % 2 = 0 ∨ y % 2 = 1 := by omega
      rcases this with h | h
      · rw [h, show (y : Int) % 2 = 0 from by omega]; rfl
      · rw [h, show (y : Int) % 2 = 1 from by omega]; rfl
    have HE : Hid _ := e1
    clear e1 hb
    go_enter Try.func26, Try.ntmps26
    go_wp2_with fail
    refine hI.mono ?_
    rintro e w1 ⟨rfl, rfl⟩
    go_wp2
    go_ret
    refine ⟨?_, rfl⟩
    show Ending.returned (.bool (bits .and .u64 ((u : Int) / 2 ^ n) 1 == 1)) = _
    rw [HE.out]
  · have hb' : inB i = false := by simpa using hb
    rw [hb'] at hI ⊢
    go_enter Try.func26, Try.ntmps26
    go_wp2_with fail
    refine hI.mono ?_
    rintro e w1 ⟨rfl, rfl⟩
    go_wp2
    go_ret
    exact ⟨rfl, rfl⟩
set_option maxHeartbeats 400000 in
theorem add_ok (w : World) (b u : Nat) (a p q : Int) (h : BdR w b u a p q) (n : Nat) (hi : n < 64) : Calls Try.prog 29 #[ptr b, I n] w fun e w' => e = .returned (I 0) ∧ BdR w' b (u ||| 2 ^ n) a p q ∧ Upd [b] w w' := by
  have hI := inside_any (n : Int) w
  rw [show inB (n : Int) = true from decide_eq_true ⟨by omega, by omega⟩] at hI
  obtain ⟨c0, -, -, -⟩ := h.cells
  have f0 := h.head.frozen 0
  have hu := h.hu
  have hi' : (n : Int) < 64 := by omega
  have e1 : bits .or .u64 (u : Int) (IntKind.u64.wrap (2 ^ n)) = ((u ||| 2 ^ n : Nat) : Int) := by
    rw [pow64 n hi, u64_or_nat _ _ hu (pow_lt64 n hi)]
  have HE : Hid _ := e1
  clear e1
  go_enter Try.func29, Try.ntmps29
  go_wp2_with fail
  refine hI.mono ?_
  rintro e w1 ⟨rfl, rfl⟩
  go_wp2
  go_ret
  rw [HE.out]
  exact ⟨rfl, h.setU _ (or_lt _ _ hu (pow_lt64 n hi)), (Upd.refl _ _).setCell (by simp) _⟩
set_option maxHeartbeats 400000 in
theorem add_no (w : World) (b : Nat) (i : Int) (hn : ¬ (0 ≤ i ∧ i < 64)) : Calls Try.prog 29 #[ptr b, I i] w fun e w' => e = .returned (I 2) ∧ w' = w := by
  have hI := inside_any i w
  rw [show inB i = false from decide_eq_false hn] at hI
  go_enter Try.func29, Try.ntmps29
  go_wp2_with fail
  refine hI.mono ?_
  rintro e w1 ⟨rfl, rfl⟩
  go_wp2
  go_ret
  exact ⟨rfl, rfl⟩
set_option maxHeartbeats 400000 in
theorem remove_ok (w : World) (b u : Nat) (a p q : Int) (h : BdR w b u a p q) (n : Nat) (hi : n < 64) : Calls Try.prog 30 #[ptr b, I n] w fun e w' => e = .returned (I 0) ∧ BdR w' b (rmB u n) a p q ∧ Upd [b] w w' := by
  have hI := inside_any (n : Int) w
  rw [show inB (n : Int) = true from decide_eq_true ⟨by omega, by omega⟩] at hI
  obtain ⟨c0, -, -, -⟩ := h.cells
  have f0 := h.head.frozen 0
  have hu := h.hu
  have hi' : (n : Int) < 64 := by omega
  have e1 : bits .andNot .u64 (u : Int) (IntKind.u64.wrap (2 ^ n)) = ((rmB u n : Nat) : Int) := by
    rw [pow64 n hi, u64_andNot_nat _ _ hu (pow_lt64 n hi)]; rfl
  have HE : Hid _ := e1
  clear e1
  go_enter Try.func30, Try.ntmps30
  go_wp2_with fail
  refine hI.mono ?_
  rintro e w1 ⟨rfl, rfl⟩
  go_wp2
  go_ret
  rw [HE.out]
  exact ⟨rfl, h.setU _ (and_lt _ _ hu), (Upd.refl _ _).setCell (by simp) _⟩
set_option maxHeartbeats 400000 in
theorem remove_no (w : World) (b : Nat) (i : Int) (hn : ¬ (0 ≤ i ∧ i < 64)) : Calls Try.prog 30 #[ptr b, I i] w fun e w' => e = .returned (I 2) ∧ w' = w := by
  have hI := inside_any i w
  rw [show inB i = false from decide_eq_false hn] at hI
  go_enter Try.func30, Try.ntmps30
  go_wp2_with fail
  refine hI.mono ?_
  rintro e w1 ⟨rfl, rfl⟩
  go_wp2
  go_ret
  exact ⟨rfl, rfl⟩
set_option maxHeartbeats 400000 in
theorem toggle_ok (w : World) (b u : Nat) (a p q : Int) (h : BdR w b u a p q) (n : Nat) (hi : n < 64) : Calls Try.prog 31 #[ptr b, I n] w fun e w' => e = .returned (I 0) ∧ BdR w' b (u ^^^ 2 ^ n) a p q ∧ Upd [b] w w' := by
  have hI := inside_any (n : Int) w
  rw [show inB (n : Int) = true from decide_eq_true ⟨by omega, by omega⟩] at hI
  obtain ⟨c0, -, -, -⟩ := h.cells
  have f0 := h.head.frozen 0
  have hu := h.hu
  have hi' : (n : Int) < 64 := by omega
  have e1 : bits .xor .u64 (u : Int) (IntKind.u64.wrap (2 ^ n)) = ((u ^^^ 2 ^ n : Nat) : Int) := by
    rw [pow64 n hi, u64_xor_nat _ _ hu (pow_lt64 n hi)]
  have HE : Hid _ := e1
  clear e1
  go_enter Try.func31, Try.ntmps31
  go_wp2_with fail
  refine hI.mono ?_
  rintro e w1 ⟨rfl, rfl⟩
  go_wp2
  go_ret
  rw [HE.out]
  exact ⟨rfl, h.setU _ (xor_lt _ _ hu (pow_lt64 n hi)), (Upd.refl _ _).setCell (by simp) _⟩
set_option maxHeartbeats 400000 in
theorem toggle_no (w : World) (b : Nat) (i : Int) (hn : ¬ (0 ≤ i ∧ i < 64)) : Calls Try.prog 31 #[ptr b, I i] w fun e w' => e = .returned (I 2) ∧ w' = w := by
  have hI := inside_any i w
  rw [show inB i = false from decide_eq_false hn] at hI
  go_enter Try.func31, Try.ntmps31
  go_wp2_with fail
  refine hI.mono ?_
  rintro e w1 ⟨rfl, rfl⟩
  go_wp2
  go_ret
  exact ⟨rfl, rfl⟩
set_option maxHeartbeats 400000 in
theorem join_ok (w : World) (b u : Nat) (a p q : Int) (h : BdR w b u a p q) (o v : Nat) (a2 p2 q2 : Int) (h2 : BdR w o v a2 p2 q2) : Calls Try.prog 32 #[ptr b, ptr o] w fun e w' => e = .returned (I 0) ∧ BdR w' b (u ||| v) a p q ∧ Upd [b] w w' := by
  obtain ⟨c0, -, -, -⟩ := h.cells
  obtain ⟨d0, -, -, -⟩ := h2.cells
  have f0 := h.head.frozen 0
  have hu := h.hu
  have hv := h2.hu
  have e1 : bits .or .u64 (u : Int) (v : Int) = ((u ||| v : Nat) : Int) := by
    rw [u64_or_nat _ _ hu hv]
  have HE : Hid _ := e1
  clear e1
  have HB : Hid (BdR _ b (u ||| v) a p q ∧ Upd [b] w _) := ⟨(h.setU (u ||| v) (or_lt _ _ hu hv)).later (Below.refl _ _).drew, ((Upd.refl [b] w).setCell (p := ⟨b, 0, none⟩) (by simp) (W64 (u ||| v))).drew⟩
  rw [show (W64 (u ||| v)) = Value.int .u64 (bits .or .u64 (u : Int) (v : Int)) from by rw [HE.out]] at HB
  clear h h2
  go_enter Try.func32, Try.ntmps32
  go_wp2_with fail
  go_region
  go_wp2
  go_ret
  exact ⟨rfl, HB.out⟩
set_option maxHeartbeats 400000 in
theorem join_no (w : World) (b : Nat) : Calls Try.prog 32 #[ptr b, .pointer none] w fun e w' => e = .returned (I 3) ∧ w' = w := by
  go_enter Try.func32, Try.ntmps32
  go_wp2
  go_ret
  exact ⟨rfl, rfl⟩
set_option maxHeartbeats 400000 in
theorem meet_ok (w : World) (b u : Nat) (a p q : Int) (h : BdR w b u a p q) (o v : Nat) (a2 p2 q2 : Int) (h2 : BdR w o v a2 p2 q2) : Calls Try.prog 33 #[ptr b, ptr o] w fun e w' => e = .returned (I 0) ∧ BdR w' b (u &&& v) a p q ∧ Upd [b] w w' := by
  obtain ⟨c0, -, -, -⟩ := h.cells
  obtain ⟨d0, -, -, -⟩ := h2.cells
  have f0 := h.head.frozen 0
  have hu := h.hu
  have hv := h2.hu
  have e1 : bits .and .u64 (u : Int) (v : Int) = ((u &&& v : Nat) : Int) := by
    rw [u64_and_nat _ _ hu hv]
  have HE : Hid _ := e1
  clear e1
  have HB : Hid (BdR _ b (u &&& v) a p q ∧ Upd [b] w _) := ⟨(h.setU (u &&& v) (and_lt _ _ hu)).later (Below.refl _ _).drew, ((Upd.refl [b] w).setCell (p := ⟨b, 0, none⟩) (by simp) (W64 (u &&& v))).drew⟩
  rw [show (W64 (u &&& v)) = Value.int .u64 (bits .and .u64 (u : Int) (v : Int)) from by rw [HE.out]] at HB
  clear h h2
  go_enter Try.func33, Try.ntmps33
  go_wp2_with fail
  go_region
  go_wp2
  go_ret
  exact ⟨rfl, HB.out⟩
set_option maxHeartbeats 400000 in
theorem meet_no (w : World) (b : Nat) : Calls Try.prog 33 #[ptr b, .pointer none] w fun e w' => e = .returned (I 3) ∧ w' = w := by
  go_enter Try.func33, Try.ntmps33
  go_wp2
  go_ret
  exact ⟨rfl, rfl⟩
set_option maxHeartbeats 400000 in
theorem minus_ok (w : World) (b u : Nat) (a p q : Int) (h : BdR w b u a p q) (o v : Nat) (a2 p2 q2 : Int) (h2 : BdR w o v a2 p2 q2) : Calls Try.prog 34 #[ptr b, ptr o] w fun e w' => e = .returned (I 0) ∧ BdR w' b (u &&& (18446744073709551615 - v)) a p q ∧ Upd [b] w w' := by
  obtain ⟨c0, -, -, -⟩ := h.cells
  obtain ⟨d0, -, -, -⟩ := h2.cells
  have f0 := h.head.frozen 0
  have hu := h.hu
  have hv := h2.hu
  have e1 : bits .andNot .u64 (u : Int) (v : Int) = ((u &&& (18446744073709551615 - v) : Nat) : Int) := by
    rw [u64_andNot_nat _ _ hu hv]
  have HE : Hid _ := e1
  clear e1
  have HB : Hid (BdR _ b (u &&& (18446744073709551615 - v)) a p q ∧ Upd [b] w _) := ⟨(h.setU (u &&& (18446744073709551615 - v)) (and_lt _ _ hu)).later (Below.refl _ _).drew, ((Upd.refl [b] w).setCell (p := ⟨b, 0, none⟩) (by simp) (W64 (u &&& (18446744073709551615 - v)))).drew⟩
  rw [show (W64 (u &&& (18446744073709551615 - v))) = Value.int .u64 (bits .andNot .u64 (u : Int) (v : Int)) from by rw [HE.out]] at HB
  clear h h2
  go_enter Try.func34, Try.ntmps34
  go_wp2_with fail
  go_region
  go_wp2
  go_ret
  exact ⟨rfl, HB.out⟩
set_option maxHeartbeats 400000 in
theorem minus_no (w : World) (b : Nat) : Calls Try.prog 34 #[ptr b, .pointer none] w fun e w' => e = .returned (I 3) ∧ w' = w := by
  go_enter Try.func34, Try.ntmps34
  go_wp2
  go_ret
  exact ⟨rfl, rfl⟩
set_option maxHeartbeats 400000 in
theorem flip_any (w : World) (b u : Nat) (a p q : Int) (h : BdR w b u a p q) : Calls Try.prog 35 #[ptr b] w fun e w' => e = .returned (.tuple #[]) ∧ BdR w' b (18446744073709551615 ^^^ u) a p q ∧ Upd [b] w w' := by
  obtain ⟨c0, -, -, -⟩ := h.cells
  have f0 := h.head.frozen 0
  have e1 : bits .xor .u64 IntKind.u64.max (u : Int) = ((18446744073709551615 ^^^ u : Nat) : Int) := by
    rw [show IntKind.u64.max = ((18446744073709551615 : Nat) : Int) from by decide +kernel, u64_xor_nat _ _ (by decide) h.hu]
  have HE : Hid _ := e1
  have hB := h
  clear e1 h
  go_enter Try.func35, Try.ntmps35
  go_wp2
  go_end0
  rw [HE.out]
  exact ⟨rfl, hB.setU _ (xor_lt _ _ (by decide) hB.hu), (Upd.refl _ _).setCell (by simp) _⟩
set_option maxHeartbeats 400000 in
theorem reset_any (w : World) (b u : Nat) (a p q : Int) (h : BdR w b u a p q) : Calls Try.prog 44 #[ptr b] w fun e w' => e = .returned (.tuple #[]) ∧ BdR w' b 0 0 0 0 ∧ Upd [b] w w' := by
  obtain ⟨c0, c1, c2, c3⟩ := h.cells
  have f0 := h.head.frozen
  go_enter Try.func44, Try.ntmps44
  go_wp2
  go_end0
  exact ⟨rfl, ⟨(((h.head.set (i := 0) (.int .u64 0)).set (i := 1) (.int .i8 0)).set (i := 2) (.int .i16 0)).set (i := 3) (.int .u16 0), by omega, by omega, by omega, by omega⟩, ((((Upd.refl _ _).setCell (by simp) _).setCell (by simp) _).setCell (by simp) _).setCell (by simp) _⟩
set_option maxHeartbeats 400000 in
theorem check_any (w : World) (b : Nat) : Calls Try.prog 45 #[ptr b] w fun e w' => e = .returned (.bool true) ∧ w' = w := by
  go_enter Try.func45, Try.ntmps45
  go_wp2
  go_ret
  exact ⟨rfl, rfl⟩
end Go.Proofs.Qxb6500469a
