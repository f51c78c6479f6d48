import Derived.Test.Qxb6500468aPk2
namespace Go.Proofs.Qxb6500468a
open Go.RowKit
def brdC (u : Nat) : Array Value := #[W64 u, .int .i8 0, .int .i16 0, .int .u16 0]
theorem brdC_set (u v : Nat) : (brdC u).setIfInBounds 0 (W64 v) = brdC v := rfl
def rmB (u i : Nat) : Nat := u &&& (18446744073709551615 - 2 ^ i)
def lowZ (u : Nat) : Nat := ((List.range 9).find? fun i => !u.testBit i).getD 0
def popB (u : Nat) : Nat := (List.range 8).countP fun i => u.testBit i
theorem flip_dec : ∀ u, u < 256 → 18446744073709551615 ^^^ u = 18446744073709551615 - u := by decide +kernel
theorem flip_dec2 : ∀ u, u < 256 → 18446744073709551615 ^^^ (18446744073709551615 - u) = u := by decide +kernel
theorem low_dec : ∀ u, u < 256 → (18446744073709551615 - u) &&& (18446744073709551615 - (18446744073709551615 - u - 1)) = 2 ^ lowZ u := by decide +kernel
theorem lowZ_le : ∀ u, u < 256 → lowZ u ≤ 8 := by decide +kernel
theorem pop_dec : ∀ x, x < 256 → x ≠ 0 → (x &&& (x - 1)) < x ∧ popB (x &&& (x - 1)) + 1 = popB x := by decide +kernel
theorem pop_le : ∀ x, x < 256 → popB x ≤ 8 := by decide +kernel

set_option maxHeartbeats 400000 in
theorem inside_any (i : Int) (h0 : 0 ≤ i) (h1 : i < 64) (w : World) : Calls Try.prog 72 #[I i] w fun e w' => e = .returned (.bool true) ∧ w' = w := by
  go_enter Try.func72, Try.ntmps72
  go_wp2
  go_ret
  exact ⟨rfl, rfl⟩
set_option maxHeartbeats 400000 in
theorem has_any (w : World) (b u i : Nat) (hi : i < 64) (hu : u < 18446744073709551616) (hB : Blk w b (brdC u) 88) : Calls Try.prog 57 #[ptr b, I i] w fun e w' => e = .returned (.bool (u.testBit i)) ∧ w' = w := by
  have c0 : w.cell? ⟨b, 0, none⟩ = some (W64 u) := hB.cell 0
  have hi' : (i : Int) < 64 := by omega
  have e1 : (bits .and .u64 ((u : Int) / 2 ^ i) 1 == 1) = u.testBit i := by
    have q : (u : Int) / 2 ^ i = ((u / 2 ^ i : Nat) : Int) := by rw [Int.natCast_ediv, Int.natCast_pow]; rfl
    have q2 : u / 2 ^ i < 18446744073709551616 := Nat.lt_of_le_of_lt (Nat.div_le_self _ _) hu
    rw [q, Nat.testBit_eq_decide_div_mod_eq]
    generalize u / 2 ^ i = y at *
    rw [and_one_u64 _ (by omega) (by omega)]
    have : y % 2 = 0 ∨ y % 2 = 1 := by omega
    rcases this with h | h
    · rw [h, show (y : Int) % 2 = 0 from by omega]; rfl
    · rw [h, show (y : Int) % 2 = 1 from by omega]; rfl
  have HE : Hid _ := e1
  clear e1
  go_enter Try.func57, Try.ntmps57
  go_wp2_with fail
  refine (inside_any i (by omega) hi' w).mono ?_
  rintro e w1 ⟨rfl, rfl⟩
  go_wp2
  go_ret
  refine ⟨?_, rfl⟩
  show Ending.returned (.bool (bits .and .u64 ((u : Int) / 2 ^ i) 1 == 1)) = _
  rw [HE.out]
theorem pow64 (i : Nat) (hi : i < 64) : IntKind.u64.wrap (2 ^ i) = ((2 ^ i : Nat) : Int) := by
  have h : (2 : Nat) ^ i < 2 ^ 64 := Nat.pow_lt_pow_right (by decide) hi
  have q : (2 : Int) ^ i = ((2 ^ i : Nat) : Int) := by rw [Int.natCast_pow]; rfl
  rw [IntKind.wrap_u64, q]
  generalize (2 : Nat) ^ i = y at *
  omega
set_option maxHeartbeats 400000 in
theorem add_any (w : World) (b u i : Nat) (hi : i < 64) (hu : u < 18446744073709551616) (hB : Blk w b (brdC u) 88) : Calls Try.prog 52 #[ptr b, I i] w fun e w' => e = .returned (I 0) ∧ Blk w' b (brdC (u ||| 2 ^ i)) 88 ∧ Upd [b] w w' := by
  have c0 : w.cell? ⟨b, 0, none⟩ = some (W64 u) := hB.cell 0
  have f0 := hB.frozen 0
  have hi' : (i : Int) < 64 := by omega
  have e1 : bits .or .u64 (u : Int) (IntKind.u64.wrap (2 ^ i)) = ((u ||| 2 ^ i : Nat) : Int) := by
    rw [pow64 i hi, u64_or_nat _ _ hu (Nat.pow_lt_pow_right (by decide) hi)]
  have HE : Hid _ := e1
  clear e1
  go_enter Try.func52, Try.ntmps52
  go_wp2_with fail
  refine (inside_any i (by omega) hi' w).mono ?_
  rintro e w1 ⟨rfl, rfl⟩
  go_wp2
  go_ret
  have X := hB.set (i := 0) (.int .u64 (bits .or .u64 (u : Int) (IntKind.u64.wrap (2 ^ i))))
  rw [HE.out] at X
  refine ⟨rfl, ?_, (Upd.refl _ _).setCell (by simp) _⟩
  rw [HE.out]
  exact X
set_option maxHeartbeats 400000 in
theorem remove_any (w : World) (b u i : Nat) (hi : i < 64) (hu : u < 18446744073709551616) (hB : Blk w b (brdC u) 88) : Calls Try.prog 54 #[ptr b, I i] w fun e w' => e = .returned (I 0) ∧ Blk w' b (brdC (rmB u i)) 88 ∧ Upd [b] w w' := by
  have c0 : w.cell? ⟨b, 0, none⟩ = some (W64 u) := hB.cell 0
  have f0 := hB.frozen 0
  have hi' : (i : Int) < 64 := by omega
  have e1 : bits .andNot .u64 (u : Int) (IntKind.u64.wrap (2 ^ i)) = ((rmB u i : Nat) : Int) := by
    rw [pow64 i hi, u64_andNot_nat _ _ hu (Nat.pow_lt_pow_right (by decide) hi)]
    rfl
  have HE : Hid _ := e1
  clear e1
  go_enter Try.func54, Try.ntmps54
  go_wp2_with fail
  refine (inside_any i (by omega) hi' w).mono ?_
  rintro e w1 ⟨rfl, rfl⟩
  go_wp2
  go_ret
  have X := hB.set (i := 0) (.int .u64 (bits .andNot .u64 (u : Int) (IntKind.u64.wrap (2 ^ i))))
  rw [HE.out] at X
  refine ⟨rfl, ?_, (Upd.refl _ _).setCell (by simp) _⟩
  rw [HE.out]
  exact X
set_option maxHeartbeats 400000 in
theorem flip_any (w : World) (b u v : Nat) (hu : u < 18446744073709551616) (hv : 18446744073709551615 ^^^ u = v) (hB : Blk w b (brdC u) 88) : Calls Try.prog 70 #[ptr b] w fun e w' => e = .returned (.tuple #[]) ∧ Blk w' b (brdC v) 88 ∧ Upd [b] w w' := by
  have c0 : w.cell? ⟨b, 0, none⟩ = some (W64 u) := hB.cell 0
  have f0 := hB.frozen 0
  have e1 : bits .xor .u64 IntKind.u64.max (u : Int) = ((v : Nat) : Int) := by
    rw [show IntKind.u64.max = ((18446744073709551615 : Nat) : Int) from by decide +kernel, u64_xor_nat _ _ (by decide) hu, hv]
  have HE : Hid _ := e1
  clear e1
  go_enter Try.func70, Try.ntmps70
  go_wp2
  go_end0
  have X := hB.set (i := 0) (.int .u64 (bits .xor .u64 IntKind.u64.max (u : Int)))
  rw [HE.out] at X
  refine ⟨rfl, ?_, (Upd.refl _ _).setCell (by simp) _⟩
  rw [HE.out]
  exact X
set_option maxHeartbeats 400000 in
theorem reset_any (w : World) (b u : Nat) (hB : Blk w b (brdC u) 88) : Calls Try.prog 59 #[ptr b] w fun e w' => e = .returned (.tuple #[]) ∧ Blk w' b (brdC 0) 88 ∧ Upd [b] w w' := by
  have c0 : w.cell? ⟨b, 0, none⟩ = some (W64 u) := hB.cell 0
  have c1 : w.cell? ⟨b, 1, none⟩ = some (.int .i8 0) := hB.cell 1
  have c2 : w.cell? ⟨b, 2, none⟩ = some (.int .i16 0) := hB.cell 2
  have c3 : w.cell? ⟨b, 3, none⟩ = some (.int .u16 0) := hB.cell 3
  have f0 := hB.frozen
  go_enter Try.func59, Try.ntmps59
  go_wp2
  go_end0
  exact ⟨rfl, (((hB.set (i := 0) (.int .u64 0)).set (i := 1) (.int .i8 0)).set (i := 2) (.int .i16 0)).set (i := 3) (.int .u16 0), ((((Upd.refl _ _).setCell (by simp) _).setCell (by simp) _).setCell (by simp) _).setCell (by simp) _⟩
set_option maxHeartbeats 400000 in
theorem count_any (w : World) (b u : Nat) (hu : u < 256) (hB : Blk w b (brdC u) 88) : Calls Try.prog 56 #[ptr b] w fun e w' => e = .returned (I (popB u)) ∧ w' = w := by
  have c0 : w.cell? ⟨b, 0, none⟩ = some (W64 u) := hB.cell 0
  go_enter Try.func56, Try.ntmps56
  go_wp2
  go_loopw [3, 4] (fun n x wr => ∃ a y : Nat, n = I a ∧ x = W64 y ∧ y < 256 ∧ Hid (a + popB y = popB u) ∧ wr = w) (fun _ x _ => (intOf x).toNat)
  case atStart => exact ⟨0, u, rfl, rfl, hu, Nat.zero_add _, rfl⟩
  case round =>
    obtain ⟨a, y, rfl, rfl, hy, ha, rfl⟩ := hrel
    by_cases hz : y = 0
    · subst hz
      have HP : Hid (a = popB u) := by have := ha.out; rw [show popB 0 = 0 from rfl] at this; exact this
      go_wp2
      go_ret
      refine ⟨?_, rfl⟩
      rw [← HP.out]
      rfl
    · have hz' : ((y : Int) != 0) = true := by simpa using hz
      obtain ⟨p1, p2⟩ := pop_dec y hy hz
      have p3 := pop_le u hu
      have e1 : bits .and .u64 (y : Int) (IntKind.u64.wrap ((y : Int) - 1)) = ((y &&& (y - 1) : Nat) : Int) := by
        rw [IntKind.wrap_u64, show ((y : Int) - 1) % 18446744073709551616 = ((y - 1 : Nat) : Int) from by omega, u64_and_nat _ _ (by omega) (by omega)]
      have ha' := ha.out
      have HH : Hid (a + 1 + popB (y &&& (y - 1)) = popB u) := by show _ = _; omega
      have hw := wr64 ((a : Int) + 1) (by omega) (by omega)
      have HE : Hid _ := e1
      have HP : Hid _ := p1
      clear e1 ha' p2 p1 hz
      go_wp2
      go_roundw
      case rel => exact ⟨a + 1, y &&& (y - 1), by go_num, by rw [HE.out], by have := HP.out; omega, HH, trivial⟩
      case measure => rw [HE.out]; simp [intOf]; exact HP.out
set_option maxHeartbeats 1000000 in
theorem lowest_any (w : World) (b u : Nat) (hu : u < 256) (hB : Blk w b (brdC (18446744073709551615 - u)) 88) : Calls Try.prog 71 #[ptr b] w fun e w' => e = .returned (.tuple #[I (lowZ u), .bool true]) ∧ ∃ m, w' = w.drewN m := by
  have hz : lowZ u ≤ 8 := lowZ_le u hu
  have e1 : bits .andNot .u64 ((18446744073709551615 - u : Nat) : Int) (IntKind.u64.wrap (((18446744073709551615 - u : Nat) : Int) - 1)) = ((2 ^ lowZ u : Nat) : Int) := by
    rw [IntKind.wrap_u64, show (((18446744073709551615 - u : Nat) : Int) - 1) % 18446744073709551616 = ((18446744073709551615 - u - 1 : Nat) : Int) from by omega, u64_andNot_nat _ _ (by omega) (by omega), low_dec u hu]
  obtain ⟨x, hx⟩ : ∃ x, x = 18446744073709551615 - u := ⟨_, rfl⟩
  rw [← hx] at hB e1
  have hx0 : ((x : Int) == 0) = false := by simp; omega
  have hx1 : x < 18446744073709551616 := by omega
  have c0 : w.cell? ⟨b, 0, none⟩ = some (W64 x) := hB.cell 0
  clear hx hB hu
  generalize lowZ u = L at *
  go_enter Try.func71, Try.ntmps71
  go_wp2_with fail
  go_region
  go_wp2
  go_loopw [4, 5] (fun n x wr => ∃ j : Nat, j ≤ L ∧ n = I ((L - j : Nat) : Int) ∧ x = W64 (2 ^ j) ∧ ∃ m, wr = w.drewN m) (fun _ x _ => (intOf x).toNat)
  case atStart => exact ⟨L, Nat.le_refl _, by simp, by simp, 1, rfl⟩
  case round =>
    obtain ⟨j, hj, rfl, rfl, m, rfl⟩ := hrel
    have hjj : j = 0 ∨ j = 1 ∨ j = 2 ∨ j = 3 ∨ j = 4 ∨ j = 5 ∨ j = 6 ∨ j = 7 ∨ j = 8 := by omega
    rcases hjj with rfl | rfl | rfl | rfl | rfl | rfl | rfl | rfl | rfl
    · go_wp2
      go_ret2
      exact ⟨by simp, m, rfl⟩
    all_goals
      go_wp2
      go_roundw
      case rel => first | exact ⟨0, by omega, by go_num, rfl, m, rfl⟩ | exact ⟨1, by omega, by go_num, rfl, m, rfl⟩ | exact ⟨2, by omega, by go_num, rfl, m, rfl⟩ | exact ⟨3, by omega, by go_num, rfl, m, rfl⟩ | exact ⟨4, by omega, by go_num, rfl, m, rfl⟩ | exact ⟨5, by omega, by go_num, rfl, m, rfl⟩ | exact ⟨6, by omega, by go_num, rfl, m, rfl⟩ | exact ⟨7, by omega, by go_num, rfl, m, rfl⟩
      case measure => simp [intOf]

set_option maxHeartbeats 1000000 in
theorem highest_any (w : World) (b u : Nat) (hu : u < 256) (hB : Blk w b (brdC u) 88) : Calls Try.prog 60 #[ptr b] w fun e w' => (∃ (n : Nat) (f : Bool), e = .returned (.tuple #[I n, .bool f]) ∧ n < 8) ∧ ∃ m, w' = w.drewN m := by
  have c0 : w.cell? ⟨b, 0, none⟩ = some (W64 u) := hB.cell 0
  by_cases hz : u = 0
  · subst hz
    go_enter Try.func60, Try.ntmps60
    go_wp2
    go_ret2
    exact ⟨⟨0, false, rfl, by omega⟩, 0, rfl⟩
  · have hz' : ((u : Int) == 0) = false := by simpa using hz
    clear hz
    go_enter Try.func60, Try.ntmps60
    go_wp2_with fail
    go_region
    go_wp2
    go_loopw [4, 5, 6] (fun n x s wr => ∃ a y t : Nat, n = I a ∧ x = W64 y ∧ s = W64 t ∧ ((t = 32 ∧ a = 0 ∧ y < 256) ∨ (t = 16 ∧ a = 0 ∧ y < 256) ∨ (t = 8 ∧ a = 0 ∧ y < 256) ∨ (t = 4 ∧ a = 0 ∧ y < 256) ∨ (t = 2 ∧ a ≤ 4 ∧ y < 16) ∨ (t = 1 ∧ a ≤ 6 ∧ y < 4) ∨ (t = 0 ∧ a ≤ 7 ∧ y < 4)) ∧ ∃ m, wr = w.drewN m) (fun _ _ s _ => (intOf s).toNat)
    case atStart => exact ⟨0, u, 32, rfl, rfl, rfl, .inl ⟨rfl, rfl, hu⟩, 1, rfl⟩
    case round =>
      obtain ⟨a, y, t, rfl, rfl, rfl, hr, m, rfl⟩ := hrel
      rcases hr with ⟨rfl, rfl, hy⟩ | ⟨rfl, rfl, hy⟩ | ⟨rfl, rfl, hy⟩ | ⟨rfl, rfl, hy⟩ | ⟨rfl, ha, hy⟩ | ⟨rfl, ha, hy⟩ | ⟨rfl, ha, hy⟩
      · have e1 : ((y : Int) / 4294967296 != 0) = false := by simp; omega
        go_wp2
        go_roundw
        case rel => exact ⟨0, y, 16, rfl, rfl, rfl, .inr (.inl ⟨rfl, rfl, hy⟩), m, rfl⟩
        case measure => simp [intOf]
      · have e1 : ((y : Int) / 65536 != 0) = false := by simp; omega
        go_wp2
        go_roundw
        case rel => exact ⟨0, y, 8, rfl, rfl, rfl, .inr (.inr (.inl ⟨rfl, rfl, hy⟩)), m, rfl⟩
        case measure => simp [intOf]
      · have e1 : ((y : Int) / 256 != 0) = false := by simp; omega
        go_wp2
        go_roundw
        case rel => exact ⟨0, y, 4, rfl, rfl, rfl, .inr (.inr (.inr (.inl ⟨rfl, rfl, hy⟩))), m, rfl⟩
        case measure => simp [intOf]
      · by_cases hq : y / 16 = 0
        · have e1 : ((y : Int) / 16 != 0) = false := by simp; omega
          go_wp2
          go_roundw
          case rel => exact ⟨0, y, 2, rfl, rfl, rfl, .inr (.inr (.inr (.inr (.inl ⟨rfl, by omega, by omega⟩)))), m, rfl⟩
          case measure => simp [intOf]
        · have e1 : ((y : Int) / 16 != 0) = true := by simp; omega
          go_wp2
          go_roundw
          case rel => exact ⟨4, y / 16, 2, rfl, rfl, rfl, .inr (.inr (.inr (.inr (.inl ⟨rfl, by omega, by omega⟩)))), m, rfl⟩
          case measure => simp [intOf]
      · by_cases hq : y / 4 = 0
        · have e1 : ((y : Int) / 4 != 0) = false := by simp; omega
          go_wp2
          go_roundw
          case rel => exact ⟨a, y, 1, rfl, rfl, rfl, .inr (.inr (.inr (.inr (.inr (.inl ⟨rfl, by omega, by omega⟩))))), m, rfl⟩
          case measure => simp [intOf]
        · have e1 : ((y : Int) / 4 != 0) = true := by simp; omega
          have hw := wr64 ((a : Int) + 2) (by omega) (by omega)
          go_wp2
          go_roundw
          case rel => exact ⟨a + 2, y / 4, 1, by go_num, rfl, rfl, .inr (.inr (.inr (.inr (.inr (.inl ⟨rfl, by omega, by omega⟩))))), m, rfl⟩
          case measure => simp [intOf]
      · by_cases hq : y / 2 = 0
        · have e1 : ((y : Int) / 2 != 0) = false := by simp; omega
          go_wp2
          go_roundw
          case rel => exact ⟨a, y, 0, rfl, rfl, rfl, .inr (.inr (.inr (.inr (.inr (.inr ⟨rfl, by omega, by omega⟩))))), m, rfl⟩
          case measure => simp [intOf]
        · have e1 : ((y : Int) / 2 != 0) = true := by simp; omega
          have hw := wr64 ((a : Int) + 1) (by omega) (by omega)
          go_wp2
          go_roundw
          case rel => exact ⟨a + 1, y / 2, 0, by go_num, rfl, rfl, .inr (.inr (.inr (.inr (.inr (.inr ⟨rfl, by omega, by omega⟩))))), m, rfl⟩
          case measure => simp [intOf]
      · go_wp2
        go_ret2
        exact ⟨⟨a, true, rfl, by omega⟩, m, rfl⟩
end Go.Proofs.Qxb6500468a
