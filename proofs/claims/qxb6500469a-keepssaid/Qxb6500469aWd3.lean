import Derived.Test.Qxb6500469aWd2
namespace Go.Proofs.Qxb6500469a
open Go.RowKit

theorem shl_eq (u n : Nat) : IntKind.u64.wrap ((u : Int) * 2 ^ n) = ((shlB u n : Nat) : Int) := by
  have q : (u : Int) * 2 ^ n = ((u * 2 ^ n : Nat) : Int) := by rw [Int.natCast_mul, Int.natCast_pow]; rfl
  rw [IntKind.wrap_u64, q]
  unfold shlB
  generalize u * 2 ^ n = y
  omega
theorem shr_eq (u n : Nat) : (u : Int) / 2 ^ n = ((shrB u n : Nat) : Int) := by
  unfold shrB
  rw [Int.natCast_ediv, Int.natCast_pow]; rfl
set_option maxHeartbeats 1000000 in
theorem shift_no (w : World) (b : Nat) (i : Int) (hn : i < -64 ∨ 64 < i) : Calls Try.prog 36 #[ptr b, I i] w fun e w' => e = .returned (I 2) ∧ w' = w := by
  by_cases h1 : i < -64
  · go_enter Try.func36, Try.ntmps36
    go_wp2
    go_ret
    exact ⟨rfl, rfl⟩
  · have h2 : 64 < i := by omega
    go_enter Try.func36, Try.ntmps36
    go_wp2
    go_ret
    exact ⟨rfl, rfl⟩
set_option maxHeartbeats 1000000 in
theorem shift_up (w : World) (b u : Nat) (a p q : Int) (h : BdR w b u a p q) (n : Nat) (hn : n ≤ 64) : Calls Try.prog 36 #[ptr b, I n] w fun e w' => e = .returned (I 0) ∧ BdR w' b (shlB u n) a p q ∧ Upd [b] w w' := by
  obtain ⟨c0, -, -, -⟩ := h.cells
  have f0 := h.head.frozen 0
  have h1 : ¬ (n : Int) < -64 := by omega
  have h2 : ¬ (64 : Int) < (n : Int) := by omega
  have h3 : (0 : Int) ≤ (n : Int) := by omega
  have hw : IntKind.u64.wrap (n : Int) = (n : Int) := by rw [IntKind.wrap_u64]; omega
  have hB := h
  clear h
  go_enter Try.func36, Try.ntmps36
  go_wp2
  go_ret
  rw [shl_eq]
  exact ⟨rfl, hB.setU _ (shlB_lt _ _), (Upd.refl _ _).setCell (by simp) _⟩
set_option maxHeartbeats 1000000 in
theorem shift_dn (w : World) (b u : Nat) (a p q : Int) (h : BdR w b u a p q) (n : Nat) (h0 : 0 < n) (hn : n ≤ 64) : Calls Try.prog 36 #[ptr b, I (-(n : Int))] w fun e w' => e = .returned (I 0) ∧ BdR w' b (shrB u n) a p q ∧ Upd [b] w w' := by
  obtain ⟨c0, -, -, -⟩ := h.cells
  have f0 := h.head.frozen 0
  have h1 : ¬ (-(n : Int)) < -64 := by omega
  have h2 : ¬ (64 : Int) < (-(n : Int)) := by omega
  have h3 : ¬ (0 : Int) ≤ (-(n : Int)) := by omega
  have hw : IntKind.u64.wrap (n : Int) = (n : Int) := by rw [IntKind.wrap_u64]; omega
  have hw2 := wr64 (n : Int) (by omega) (by omega)
  have hB := h
  clear h
  go_enter Try.func36, Try.ntmps36
  go_wp2
  go_ret
  rw [shr_eq]
  exact ⟨rfl, hB.setU _ (shrB_lt _ _ hB.hu), (Upd.refl _ _).setCell (by simp) _⟩
set_option maxHeartbeats 1000000 in
theorem rotate_any (w : World) (b u : Nat) (a p q : Int) (h : BdR w b u a p q) (i : Int) : Calls Try.prog 37 #[ptr b, I i] w fun e w' => e = .returned (.tuple #[]) ∧ BdR w' b (rotB u (i % 64).toNat) a p q ∧ Upd [b] w w' := by
  obtain ⟨c0, -, -, -⟩ := h.cells
  have f0 := h.head.frozen 0
  obtain ⟨k, hk⟩ : ∃ k, k = (i % 64).toNat := ⟨_, rfl⟩
  have hk64 : k < 64 := by omega
  have e1 : bits .and .u64 (IntKind.u64.wrap i) 63 = (k : Int) := by
    rw [IntKind.wrap_u64]
    obtain ⟨y, hy⟩ := Int.eq_ofNat_of_zero_le (show 0 ≤ i % 18446744073709551616 by omega)
    rw [hy, show (63 : Int) = ((63 : Nat) : Int) from rfl, u64_and_nat y 63 (by omega) (by decide), show 63 = 2 ^ 6 - 1 from rfl, Nat.and_two_pow_sub_one_eq_mod]
    show ((y % 64 : Nat) : Int) = _
    omega
  rw [← hk]
  have hB := h
  have hs : IntKind.u64.wrap (64 - (k : Int)) = ((64 - k : Nat) : Int) := by rw [IntKind.wrap_u64]; omega
  have e2 : bits .or .u64 (IntKind.u64.wrap ((u : Int) * 2 ^ k)) ((u : Int) / 2 ^ (64 - k)) = ((rotB u k : Nat) : Int) := by
    rw [shl_eq, shr_eq, u64_or_nat _ _ (shlB_lt _ _) (shrB_lt _ _ h.hu)]
    rfl
  have HB : Hid (BdR _ b (rotB u k) a p q ∧ Upd [b] w _) := ⟨(h.setU (rotB u k) (rotB_lt _ _ h.hu)).later (Below.refl _ _).drew, ((Upd.refl [b] w).setCell (p := ⟨b, 0, none⟩) (by simp) (W64 (rotB u k))).drew⟩
  rw [show (W64 (rotB u k)) = Value.int .u64 (bits .or .u64 (IntKind.u64.wrap ((u : Int) * 2 ^ k)) ((u : Int) / 2 ^ (64 - k))) from by rw [e2]] at HB
  clear h hk hB e2
  go_enter Try.func37, Try.ntmps37
  go_wp2_with fail
  go_region
  go_wp2
  go_end0
  exact ⟨rfl, HB.out⟩
def popU (u : Nat) : Nat := (bitsL u 64).length
theorem popU_le (u : Nat) : popU u ≤ 64 := bitsL_len u 64
set_option maxHeartbeats 1000000 in
theorem count_any (w : World) (b u : Nat) (a p q : Int) (h : BdR w b u a p q) : Calls Try.prog 38 #[ptr b] w fun e w' => e = .returned (I (popU u)) ∧ w' = w := by
  obtain ⟨c0, -, -, -⟩ := h.cells
  have hu := h.hu
  clear h
  go_enter Try.func38, Try.ntmps38
  go_wp2
  go_loopw [3, 4] (fun n x wr => ∃ c y : Nat, n = I c ∧ x = W64 y ∧ y < 18446744073709551616 ∧ Hid (c + popU y = popU u) ∧ wr = w) (fun _ x _ => (intOf x).toNat)
  case atStart => exact ⟨0, u, rfl, rfl, hu, Nat.zero_add _, rfl⟩
  case round =>
    obtain ⟨c, y, rfl, rfl, hy, ha, rfl⟩ := hrel
    by_cases hz : y = 0
    · subst hz
      have HP : Hid (c = popU u) := by have := ha.out; rw [show popU 0 = 0 from by unfold popU; rw [bitsL_zero]; rfl] at this; exact this
      go_wp2
      go_ret
      refine ⟨?_, rfl⟩
      rw [← HP.out]
      rfl
    · have hz' : ((y : Int) != 0) = true := by simpa using hz
      obtain ⟨l, l64, hl, -, hand, -, p1⟩ := low_word y hy hz
      have p2 := bitsL_drop y (y &&& (y - 1)) l hl hand 64
      rw [if_pos l64] at p2
      have p3 := popU_le u
      have e1 : bits .and .u64 (y : Int) (IntKind.u64.wrap ((y : Int) - 1)) = ((y &&& (y - 1) : Nat) : Int) := by
        rw [IntKind.wrap_u64, show ((y : Int) - 1) % 18446744073709551616 = ((y - 1 : Nat) : Int) from by omega, u64_and_nat _ _ (by omega) (by omega)]
      have ha' := ha.out
      have HH : Hid (c + 1 + popU (y &&& (y - 1)) = popU u) := by show _ = _; unfold popU at *; omega
      have hw := wr64 ((c : Int) + 1) (by omega) (by omega)
      have HE : Hid _ := e1
      have HP : Hid _ := p1
      clear e1 ha' p2 p1 hz hl hand l64
      go_wp2
      go_roundw
      case rel => exact ⟨c + 1, y &&& (y - 1), by go_num, by rw [HE.out], by have := HP.out; omega, HH, trivial⟩
      case measure => rw [HE.out]; simp [intOf]; exact HP.out
/-- The least member. -/
def LowAt (u l : Nat) : Prop := l < 64 ∧ u.testBit l = true ∧ ∀ j, j < l → u.testBit j = false
set_option maxHeartbeats 1000000 in
theorem lowest_any (w : World) (b u : Nat) (a p q : Int) (h : BdR w b u a p q) : Calls Try.prog 39 #[ptr b] w fun e w' => ((u = 0 ∧ e = .returned (.tuple #[I 0, .bool false])) ∨ (∃ l, LowAt u l ∧ e = .returned (.tuple #[I (l : Nat), .bool true]))) ∧ Below w.heap.size w w' := by
  obtain ⟨c0, -, -, -⟩ := h.cells
  have hu := h.hu
  clear h
  by_cases hz : u = 0
  · subst hz
    go_enter Try.func39, Try.ntmps39
    go_wp2
    go_ret2
    exact ⟨.inl ⟨by trivial, rfl⟩, Below.refl _ _⟩
  · have hx0 : ((u : Int) == 0) = false := by simpa using hz
    obtain ⟨L, l64, hl, hlow, -, hw, -⟩ := low_word u hu hz
    have HL : Hid (LowAt u L) := ⟨l64, hl, hlow⟩
    have e1 : bits .andNot .u64 (u : Int) (IntKind.u64.wrap ((u : Int) - 1)) = ((2 ^ L : Nat) : Int) := by
      rw [IntKind.wrap_u64, show ((u : Int) - 1) % 18446744073709551616 = ((u - 1 : Nat) : Int) from by omega, u64_andNot_nat _ _ (by omega) (by omega), hw]
    clear hz hl hlow hw
    go_enter Try.func39, Try.ntmps39
    go_wp2_with fail
    go_region
    go_wp2
    go_loopw [4, 5] (fun n x wr => ∃ j : Nat, j ≤ L ∧ n = I ((L - j : Nat) : Int) ∧ x = W64 (2 ^ j) ∧ ∃ m, wr = w.drewN m) (fun _ x _ => (intOf x).toNat)
    case atStart => exact ⟨L, Nat.le_refl _, by simp, by simp, 1, rfl⟩
    case round =>
      obtain ⟨j, hj, rfl, rfl, m, rfl⟩ := hrel
      cases j with
      | zero =>
        have g1 : ¬ (1 : Int) < ((2 ^ 0 : Nat) : Int) := by decide
        go_wp2
        go_ret2
        exact ⟨.inr ⟨L, HL.out, rfl⟩, below_drewN _ _ _⟩
      | succ j =>
        have p0 := Nat.two_pow_pos j
        have e2 : 2 ^ (j + 1) = 2 ^ j * 2 := Nat.pow_succ 2 j
        have g1 : (1 : Int) < ((2 ^ (j + 1) : Nat) : Int) := by omega
        have g2 : ((2 ^ (j + 1) : Nat) : Int) / 2 = ((2 ^ j : Nat) : Int) := by omega
        have g3 : ((L - (j + 1) : Nat) : Int) + 1 = ((L - j : Nat) : Int) := by omega
        have g4 := wr64 (((L - (j + 1) : Nat) : Int) + 1) (by omega) (by omega)
        have hlt : 2 ^ j < 2 ^ (j + 1) := by omega
        have HG : Hid _ := hlt
        have HG3 : Hid _ := g3
        clear e2 p0 hlt g3
        generalize hA : 2 ^ (j + 1) = A at *
        generalize hB2 : 2 ^ j = B at *
        have HAB : Hid _ := hB2
        clear hB2
        go_wp2
        go_roundw
        case rel => exact ⟨j, by omega, by rw [← HG3.out], by rw [HAB.out], m, rfl⟩
        case measure => have := HG.out; simp [intOf]; omega
/-- The greatest member. -/
def HighAt (u l : Nat) : Prop := l < 64 ∧ 2 ^ l ≤ u ∧ u < 2 ^ (l + 1)
theorem high_step (M y u T : Nat) (hT : 0 < T) (h1 : M * y ≤ u) (h2 : u < M * (y + 1)) : M * T * (y / T) ≤ u ∧ u < M * T * (y / T + 1) := by
  have e1 : T * (y / T) ≤ y := Nat.mul_div_le y T
  have e2 : y < T * (y / T + 1) := Nat.lt_mul_div_succ y hT
  refine ⟨Nat.le_trans ?_ h1, Nat.lt_of_lt_of_le h2 ?_⟩
  · rw [Nat.mul_assoc]; exact Nat.mul_le_mul_left M e1
  · rw [Nat.mul_assoc]; exact Nat.mul_le_mul_left M e2
def hiT : List Nat := [32, 16, 8, 4, 2, 1, 0]
def hiP : List Nat := [4294967296, 65536, 256, 16, 4, 2, 1]
def hiQ : List Nat := [18446744073709551616, 4294967296, 65536, 256, 16, 4, 2]
structure HiI (u k c y : Nat) : Prop where
  hk : k ≤ 6
  pos : 0 < y
  lt : y < hiQ.getD k 0
  lo : 2 ^ c * y ≤ u
  up : u < 2 ^ c * (y + 1)
  sm : c + 2 * hiT.getD k 0 ≤ 64
theorem hi_start (u : Nat) (h : u < 18446744073709551616) (h0 : u ≠ 0) : HiI u 0 0 u := ⟨by omega, by omega, h, by simp, by simp, by decide⟩
theorem hi_end (u c y : Nat) (h : HiI u 6 c y) (hu : u < 18446744073709551616) : HighAt u c := by
  have h1 := h.lt
  have h2 := h.pos
  obtain rfl : y = 1 := by have : hiQ.getD 6 0 = 2 := rfl; omega
  have h3 := h.lo
  have h4 := h.up
  have h5 : 2 ^ c ≤ u := by simpa using h3
  refine ⟨?_, h5, by rw [Nat.pow_succ]; exact h4⟩
  by_cases hc : c < 64
  · exact hc
  · have : 2 ^ 64 ≤ 2 ^ c := Nat.pow_le_pow_right (by decide) (by omega)
    have e : (2 : Nat) ^ 64 = 18446744073709551616 := rfl
    omega
theorem hi_big0 (u c y : Nat) (h : HiI u 0 c y) (hq : y / 4294967296 ≠ 0) : HiI u 1 (c + 32) (y / 4294967296) := by
  obtain ⟨s1, s2⟩ := high_step (2 ^ c) y u 4294967296 (by decide) h.lo h.up
  have e : 2 ^ c * 4294967296 = 2 ^ (c + 32) := by rw [Nat.pow_add]
  rw [e] at s1 s2
  have hl := h.lt
  have hs := h.sm
  have r1 : hiQ.getD 0 0 = 18446744073709551616 := rfl
  have r2 : hiQ.getD 1 0 = 4294967296 := rfl
  have r3 : hiT.getD 0 0 = 32 := rfl
  have r4 : hiT.getD 1 0 = 16 := rfl
  exact ⟨by omega, by omega, by omega, s1, s2, by omega⟩
theorem hi_sm0 (u c y : Nat) (h : HiI u 0 c y) (hq : y / 4294967296 = 0) : HiI u 1 c y := by
  have hl := h.lt
  have hs := h.sm
  have hp := h.pos
  have r1 : hiQ.getD 0 0 = 18446744073709551616 := rfl
  have r2 : hiQ.getD 1 0 = 4294967296 := rfl
  have r3 : hiT.getD 0 0 = 32 := rfl
  have r4 : hiT.getD 1 0 = 16 := rfl
  exact ⟨by omega, by omega, by omega, h.lo, h.up, by omega⟩
theorem hi_big1 (u c y : Nat) (h : HiI u 1 c y) (hq : y / 65536 ≠ 0) : HiI u 2 (c + 16) (y / 65536) := by
  obtain ⟨s1, s2⟩ := high_step (2 ^ c) y u 65536 (by decide) h.lo h.up
  have e : 2 ^ c * 65536 = 2 ^ (c + 16) := by rw [Nat.pow_add]
  rw [e] at s1 s2
  have hl := h.lt
  have hs := h.sm
  have r1 : hiQ.getD 1 0 = 4294967296 := rfl
  have r2 : hiQ.getD 2 0 = 65536 := rfl
  have r3 : hiT.getD 1 0 = 16 := rfl
  have r4 : hiT.getD 2 0 = 8 := rfl
  exact ⟨by omega, by omega, by omega, s1, s2, by omega⟩
theorem hi_sm1 (u c y : Nat) (h : HiI u 1 c y) (hq : y / 65536 = 0) : HiI u 2 c y := by
  have hl := h.lt
  have hs := h.sm
  have hp := h.pos
  have r1 : hiQ.getD 1 0 = 4294967296 := rfl
  have r2 : hiQ.getD 2 0 = 65536 := rfl
  have r3 : hiT.getD 1 0 = 16 := rfl
  have r4 : hiT.getD 2 0 = 8 := rfl
  exact ⟨by omega, by omega, by omega, h.lo, h.up, by omega⟩
theorem hi_big2 (u c y : Nat) (h : HiI u 2 c y) (hq : y / 256 ≠ 0) : HiI u 3 (c + 8) (y / 256) := by
  obtain ⟨s1, s2⟩ := high_step (2 ^ c) y u 256 (by decide) h.lo h.up
  have e : 2 ^ c * 256 = 2 ^ (c + 8) := by rw [Nat.pow_add]
  rw [e] at s1 s2
  have hl := h.lt
  have hs := h.sm
  have r1 : hiQ.getD 2 0 = 65536 := rfl
  have r2 : hiQ.getD 3 0 = 256 := rfl
  have r3 : hiT.getD 2 0 = 8 := rfl
  have r4 : hiT.getD 3 0 = 4 := rfl
  exact ⟨by omega, by omega, by omega, s1, s2, by omega⟩
theorem hi_sm2 (u c y : Nat) (h : HiI u 2 c y) (hq : y / 256 = 0) : HiI u 3 c y := by
  have hl := h.lt
  have hs := h.sm
  have hp := h.pos
  have r1 : hiQ.getD 2 0 = 65536 := rfl
  have r2 : hiQ.getD 3 0 = 256 := rfl
  have r3 : hiT.getD 2 0 = 8 := rfl
  have r4 : hiT.getD 3 0 = 4 := rfl
  exact ⟨by omega, by omega, by omega, h.lo, h.up, by omega⟩
theorem hi_big3 (u c y : Nat) (h : HiI u 3 c y) (hq : y / 16 ≠ 0) : HiI u 4 (c + 4) (y / 16) := by
  obtain ⟨s1, s2⟩ := high_step (2 ^ c) y u 16 (by decide) h.lo h.up
  have e : 2 ^ c * 16 = 2 ^ (c + 4) := by rw [Nat.pow_add]
  rw [e] at s1 s2
  have hl := h.lt
  have hs := h.sm
  have r1 : hiQ.getD 3 0 = 256 := rfl
  have r2 : hiQ.getD 4 0 = 16 := rfl
  have r3 : hiT.getD 3 0 = 4 := rfl
  have r4 : hiT.getD 4 0 = 2 := rfl
  exact ⟨by omega, by omega, by omega, s1, s2, by omega⟩
theorem hi_sm3 (u c y : Nat) (h : HiI u 3 c y) (hq : y / 16 = 0) : HiI u 4 c y := by
  have hl := h.lt
  have hs := h.sm
  have hp := h.pos
  have r1 : hiQ.getD 3 0 = 256 := rfl
  have r2 : hiQ.getD 4 0 = 16 := rfl
  have r3 : hiT.getD 3 0 = 4 := rfl
  have r4 : hiT.getD 4 0 = 2 := rfl
  exact ⟨by omega, by omega, by omega, h.lo, h.up, by omega⟩
theorem hi_big4 (u c y : Nat) (h : HiI u 4 c y) (hq : y / 4 ≠ 0) : HiI u 5 (c + 2) (y / 4) := by
  obtain ⟨s1, s2⟩ := high_step (2 ^ c) y u 4 (by decide) h.lo h.up
  have e : 2 ^ c * 4 = 2 ^ (c + 2) := by rw [Nat.pow_add]
  rw [e] at s1 s2
  have hl := h.lt
  have hs := h.sm
  have r1 : hiQ.getD 4 0 = 16 := rfl
  have r2 : hiQ.getD 5 0 = 4 := rfl
  have r3 : hiT.getD 4 0 = 2 := rfl
  have r4 : hiT.getD 5 0 = 1 := rfl
  exact ⟨by omega, by omega, by omega, s1, s2, by omega⟩
theorem hi_sm4 (u c y : Nat) (h : HiI u 4 c y) (hq : y / 4 = 0) : HiI u 5 c y := by
  have hl := h.lt
  have hs := h.sm
  have hp := h.pos
  have r1 : hiQ.getD 4 0 = 16 := rfl
  have r2 : hiQ.getD 5 0 = 4 := rfl
  have r3 : hiT.getD 4 0 = 2 := rfl
  have r4 : hiT.getD 5 0 = 1 := rfl
  exact ⟨by omega, by omega, by omega, h.lo, h.up, by omega⟩
theorem hi_big5 (u c y : Nat) (h : HiI u 5 c y) (hq : y / 2 ≠ 0) : HiI u 6 (c + 1) (y / 2) := by
  obtain ⟨s1, s2⟩ := high_step (2 ^ c) y u 2 (by decide) h.lo h.up
  have e : 2 ^ c * 2 = 2 ^ (c + 1) := by rw [Nat.pow_add]
  rw [e] at s1 s2
  have hl := h.lt
  have hs := h.sm
  have r1 : hiQ.getD 5 0 = 4 := rfl
  have r2 : hiQ.getD 6 0 = 2 := rfl
  have r3 : hiT.getD 5 0 = 1 := rfl
  have r4 : hiT.getD 6 0 = 0 := rfl
  exact ⟨by omega, by omega, by omega, s1, s2, by omega⟩
theorem hi_sm5 (u c y : Nat) (h : HiI u 5 c y) (hq : y / 2 = 0) : HiI u 6 c y := by
  have hl := h.lt
  have hs := h.sm
  have hp := h.pos
  have r1 : hiQ.getD 5 0 = 4 := rfl
  have r2 : hiQ.getD 6 0 = 2 := rfl
  have r3 : hiT.getD 5 0 = 1 := rfl
  have r4 : hiT.getD 6 0 = 0 := rfl
  exact ⟨by omega, by omega, by omega, h.lo, h.up, by omega⟩
set_option maxHeartbeats 2000000 in
theorem highest_any (w : World) (b u : Nat) (a p q : Int) (h : BdR w b u a p q) : Calls Try.prog 40 #[ptr b] w fun e w' => ((u = 0 ∧ e = .returned (.tuple #[I 0, .bool false])) ∨ (∃ l, HighAt u l ∧ e = .returned (.tuple #[I (l : Nat), .bool true]))) ∧ Below w.heap.size w w' := by
  obtain ⟨c0, -, -, -⟩ := h.cells
  have hu := h.hu
  clear h
  by_cases hz : u = 0
  · subst hz
    go_enter Try.func40, Try.ntmps40
    go_wp2
    go_ret2
    exact ⟨.inl ⟨by trivial, rfl⟩, Below.refl _ _⟩
  · have hz' : ((u : Int) == 0) = false := by simpa using hz
    have HS : Hid (HiI u 0 0 u) := hi_start u hu hz
    clear hz
    go_enter Try.func40, Try.ntmps40
    go_wp2_with fail
    go_region
    go_wp2
    go_loopw [4, 5, 6] (fun n x s wr => ∃ k c y : Nat, n = I c ∧ x = W64 y ∧ s = W64 (hiT.getD k 0) ∧ Hid (HiI u k c y) ∧ ∃ m, wr = w.drewN m) (fun _ _ s _ => (intOf s).toNat)
    case atStart => exact ⟨0, 0, u, rfl, rfl, rfl, HS, 1, rfl⟩
    case round =>
      obtain ⟨k, c, y, rfl, rfl, rfl, hI, m, rfl⟩ := hrel
      have hk := hI.out.hk
      have hc := hI.out.sm
      have hkk : k = 0 ∨ k = 1 ∨ k = 2 ∨ k = 3 ∨ k = 4 ∨ k = 5 ∨ k = 6 := by omega
      clear hk
      rcases hkk with rfl | rfl | rfl | rfl | rfl | rfl | rfl
      · rw [show hiT.getD 0 0 = 32 from rfl] at hc ⊢
        by_cases hq : y / 4294967296 = 0
        · have e1 : ((y : Int) / 4294967296 != 0) = false := by simp; omega
          have HN : Hid _ := hi_sm0 u c y hI.out hq
          clear hq hI
          go_wp2
          go_roundw
          case rel => exact ⟨1, c, y, rfl, rfl, rfl, HN, m, rfl⟩
          case measure => simp [intOf]
        · have e1 : ((y : Int) / 4294967296 != 0) = true := by simp; omega
          have HN : Hid _ := hi_big0 u c y hI.out hq
          have hw := wr64 ((c : Int) + 32) (by omega) (by omega)
          clear hq hI
          go_wp2
          go_roundw
          case rel => exact ⟨1, c + 32, y / 4294967296, by go_num, by go_num, rfl, HN, m, rfl⟩
          case measure => simp [intOf]
      · rw [show hiT.getD 1 0 = 16 from rfl] at hc ⊢
        by_cases hq : y / 65536 = 0
        · have e1 : ((y : Int) / 65536 != 0) = false := by simp; omega
          have HN : Hid _ := hi_sm1 u c y hI.out hq
          clear hq hI
          go_wp2
          go_roundw
          case rel => exact ⟨2, c, y, rfl, rfl, rfl, HN, m, rfl⟩
          case measure => simp [intOf]
        · have e1 : ((y : Int) / 65536 != 0) = true := by simp; omega
          have HN : Hid _ := hi_big1 u c y hI.out hq
          have hw := wr64 ((c : Int) + 16) (by omega) (by omega)
          clear hq hI
          go_wp2
          go_roundw
          case rel => exact ⟨2, c + 16, y / 65536, by go_num, by go_num, rfl, HN, m, rfl⟩
          case measure => simp [intOf]
      · rw [show hiT.getD 2 0 = 8 from rfl] at hc ⊢
        by_cases hq : y / 256 = 0
        · have e1 : ((y : Int) / 256 != 0) = false := by simp; omega
          have HN : Hid _ := hi_sm2 u c y hI.out hq
          clear hq hI
          go_wp2
          go_roundw
          case rel => exact ⟨3, c, y, rfl, rfl, rfl, HN, m, rfl⟩
          case measure => simp [intOf]
        · have e1 : ((y : Int) / 256 != 0) = true := by simp; omega
          have HN : Hid _ := hi_big2 u c y hI.out hq
          have hw := wr64 ((c : Int) + 8) (by omega) (by omega)
          clear hq hI
          go_wp2
          go_roundw
          case rel => exact ⟨3, c + 8, y / 256, by go_num, by go_num, rfl, HN, m, rfl⟩
          case measure => simp [intOf]
      · rw [show hiT.getD 3 0 = 4 from rfl] at hc ⊢
        by_cases hq : y / 16 = 0
        · have e1 : ((y : Int) / 16 != 0) = false := by simp; omega
          have HN : Hid _ := hi_sm3 u c y hI.out hq
          clear hq hI
          go_wp2
          go_roundw
          case rel => exact ⟨4, c, y, rfl, rfl, rfl, HN, m, rfl⟩
          case measure => simp [intOf]
        · have e1 : ((y : Int) / 16 != 0) = true := by simp; omega
          have HN : Hid _ := hi_big3 u c y hI.out hq
          have hw := wr64 ((c : Int) + 4) (by omega) (by omega)
          clear hq hI
          go_wp2
          go_roundw
          case rel => exact ⟨4, c + 4, y / 16, by go_num, by go_num, rfl, HN, m, rfl⟩
          case measure => simp [intOf]
      · rw [show hiT.getD 4 0 = 2 from rfl] at hc ⊢
        by_cases hq : y / 4 = 0
        · have e1 : ((y : Int) / 4 != 0) = false := by simp; omega
          have HN : Hid _ := hi_sm4 u c y hI.out hq
          clear hq hI
          go_wp2
          go_roundw
          case rel => exact ⟨5, c, y, rfl, rfl, rfl, HN, m, rfl⟩
          case measure => simp [intOf]
        · have e1 : ((y : Int) / 4 != 0) = true := by simp; omega
          have HN : Hid _ := hi_big4 u c y hI.out hq
          have hw := wr64 ((c : Int) + 2) (by omega) (by omega)
          clear hq hI
          go_wp2
          go_roundw
          case rel => exact ⟨5, c + 2, y / 4, by go_num, by go_num, rfl, HN, m, rfl⟩
          case measure => simp [intOf]
      · rw [show hiT.getD 5 0 = 1 from rfl] at hc ⊢
        by_cases hq : y / 2 = 0
        · have e1 : ((y : Int) / 2 != 0) = false := by simp; omega
          have HN : Hid _ := hi_sm5 u c y hI.out hq
          clear hq hI
          go_wp2
          go_roundw
          case rel => exact ⟨6, c, y, rfl, rfl, rfl, HN, m, rfl⟩
          case measure => simp [intOf]
        · have e1 : ((y : Int) / 2 != 0) = true := by simp; omega
          have HN : Hid _ := hi_big5 u c y hI.out hq
          have hw := wr64 ((c : Int) + 1) (by omega) (by omega)
          clear hq hI
          go_wp2
          go_roundw
          case rel => exact ⟨6, c + 1, y / 2, by go_num, by go_num, rfl, HN, m, rfl⟩
          case measure => simp [intOf]
      · rw [show hiT.getD 6 0 = 0 from rfl]
        have HE : Hid _ := hi_end u c y hI.out hu
        go_wp2
        go_ret2
        exact ⟨.inr ⟨c, HE.out, rfl⟩, below_drewN _ _ _⟩
end Go.Proofs.Qxb6500469a
