import Derived.Test.Qxb6500469aWm1
namespace Go.Proofs.Qxb6500469a
open Go.RowKit
set_option maxHeartbeats 1000000 in
theorem wrap_u6 (v : Int) (w : World) : Calls Try.prog 24 #[I v, I 0, I 63] w fun e w' => e = .returned (I ((v + 0) % 64 - 0)) ∧ Below w.heap.size w w' := by
  obtain ⟨r0, hr0⟩ : ∃ r, r = v.tmod 64 := ⟨_, rfl⟩
  obtain ⟨r1, hr1⟩ : ∃ r, r = (r0).tmod 64 := ⟨_, rfl⟩
  have hc := tmod_cases v 64
  have hd := tmod_cases (r0) 64
  rw [← hr0] at hc
  rw [← hr1] at hd
  have g0 : -63 ≤ r0 ∧ r0 ≤ 63 := by omega
  have g1 : -63 ≤ r1 ∧ r1 ≤ 63 := by omega
  have hfin : (v + 0) % 64 - 0 = (if r1 < 0 then r1 + 64 else r1) - 0 := by
    split <;> omega
  rw [hfin]
  have e1 : v.tmod 64 = r0 := hr0.symm
  have e2 : (r0).tmod 64 = r1 := hr1.symm
  have w1 := wr64 (r0 - 0) (by omega) (by omega)
  have w2 := wr64 (r0) (by omega) (by omega)
  clear hr0 hr1 hc hd hfin
  by_cases h1 : r1 < 0
  · rw [if_pos h1]
    have w3 := wr64 (r1 + 64) (by omega) (by omega)
    have w4 := wr64 (0 + (r1 + 64)) (by omega) (by omega)
    go_enter Try.func24, Try.ntmps24
    go_wp2_with fail
    go_region
    go_wp2
    go_ret
    exact ⟨congrArg Ending.returned (congrArg (Value.int .i64) (by omega)), (Below.refl _ _).drew⟩
  · rw [if_neg h1]
    have w4 := wr64 (0 + r1) (by omega) (by omega)
    go_enter Try.func24, Try.ntmps24
    go_wp2_with fail
    go_region
    go_wp2
    go_ret
    exact ⟨congrArg Ending.returned (congrArg (Value.int .i64) (by omega)), (Below.refl _ _).drew⟩
set_option maxHeartbeats 1000000 in
theorem wrap_u16 (v : Int) (w : World) : Calls Try.prog 24 #[I v, I 0, I 65535] w fun e w' => e = .returned (I ((v + 0) % 65536 - 0)) ∧ Below w.heap.size w w' := by
  obtain ⟨r0, hr0⟩ : ∃ r, r = v.tmod 65536 := ⟨_, rfl⟩
  obtain ⟨r1, hr1⟩ : ∃ r, r = (r0).tmod 65536 := ⟨_, rfl⟩
  have hc := tmod_cases v 65536
  have hd := tmod_cases (r0) 65536
  rw [← hr0] at hc
  rw [← hr1] at hd
  have g0 : -65535 ≤ r0 ∧ r0 ≤ 65535 := by omega
  have g1 : -65535 ≤ r1 ∧ r1 ≤ 65535 := by omega
  have hfin : (v + 0) % 65536 - 0 = (if r1 < 0 then r1 + 65536 else r1) - 0 := by
    split <;> omega
  rw [hfin]
  have e1 : v.tmod 65536 = r0 := hr0.symm
  have e2 : (r0).tmod 65536 = r1 := hr1.symm
  have w1 := wr64 (r0 - 0) (by omega) (by omega)
  have w2 := wr64 (r0) (by omega) (by omega)
  clear hr0 hr1 hc hd hfin
  by_cases h1 : r1 < 0
  · rw [if_pos h1]
    have w3 := wr64 (r1 + 65536) (by omega) (by omega)
    have w4 := wr64 (0 + (r1 + 65536)) (by omega) (by omega)
    go_enter Try.func24, Try.ntmps24
    go_wp2_with fail
    go_region
    go_wp2
    go_ret
    exact ⟨congrArg Ending.returned (congrArg (Value.int .i64) (by omega)), (Below.refl _ _).drew⟩
  · rw [if_neg h1]
    have w4 := wr64 (0 + r1) (by omega) (by omega)
    go_enter Try.func24, Try.ntmps24
    go_wp2_with fail
    go_region
    go_wp2
    go_ret
    exact ⟨congrArg Ending.returned (congrArg (Value.int .i64) (by omega)), (Below.refl _ _).drew⟩
set_option maxHeartbeats 1000000 in
theorem wrap_i8 (v : Int) (w : World) : Calls Try.prog 24 #[I v, I (-128), I 127] w fun e w' => e = .returned (I ((v + 128) % 256 - 128)) ∧ Below w.heap.size w w' := by
  obtain ⟨r0, hr0⟩ : ∃ r, r = v.tmod 256 := ⟨_, rfl⟩
  obtain ⟨r1, hr1⟩ : ∃ r, r = (r0 + 128).tmod 256 := ⟨_, rfl⟩
  have hc := tmod_cases v 256
  have hd := tmod_cases (r0 + 128) 256
  rw [← hr0] at hc
  rw [← hr1] at hd
  have g0 : -255 ≤ r0 ∧ r0 ≤ 255 := by omega
  have g1 : -255 ≤ r1 ∧ r1 ≤ 255 := by omega
  have hfin : (v + 128) % 256 - 128 = (if r1 < 0 then r1 + 256 else r1) - 128 := by
    split <;> omega
  rw [hfin]
  have e1 : v.tmod 256 = r0 := hr0.symm
  have e2 : (r0 + 128).tmod 256 = r1 := hr1.symm
  have w1 := wr64 (r0 - (-128)) (by omega) (by omega)
  have w2 := wr64 (r0 + 128) (by omega) (by omega)
  clear hr0 hr1 hc hd hfin
  by_cases h1 : r1 < 0
  · rw [if_pos h1]
    have w3 := wr64 (r1 + 256) (by omega) (by omega)
    have w4 := wr64 ((-128) + (r1 + 256)) (by omega) (by omega)
    go_enter Try.func24, Try.ntmps24
    go_wp2_with fail
    go_region
    go_wp2
    go_ret
    exact ⟨congrArg Ending.returned (congrArg (Value.int .i64) (by omega)), (Below.refl _ _).drew⟩
  · rw [if_neg h1]
    have w4 := wr64 ((-128) + r1) (by omega) (by omega)
    go_enter Try.func24, Try.ntmps24
    go_wp2_with fail
    go_region
    go_wp2
    go_ret
    exact ⟨congrArg Ending.returned (congrArg (Value.int .i64) (by omega)), (Below.refl _ _).drew⟩
set_option maxHeartbeats 1000000 in
theorem wrap_i16 (v : Int) (w : World) : Calls Try.prog 24 #[I v, I (-32768), I 32767] w fun e w' => e = .returned (I ((v + 32768) % 65536 - 32768)) ∧ Below w.heap.size w w' := by
  obtain ⟨r0, hr0⟩ : ∃ r, r = v.tmod 65536 := ⟨_, rfl⟩
  obtain ⟨r1, hr1⟩ : ∃ r, r = (r0 + 32768).tmod 65536 := ⟨_, rfl⟩
  have hc := tmod_cases v 65536
  have hd := tmod_cases (r0 + 32768) 65536
  rw [← hr0] at hc
  rw [← hr1] at hd
  have g0 : -65535 ≤ r0 ∧ r0 ≤ 65535 := by omega
  have g1 : -65535 ≤ r1 ∧ r1 ≤ 65535 := by omega
  have hfin : (v + 32768) % 65536 - 32768 = (if r1 < 0 then r1 + 65536 else r1) - 32768 := by
    split <;> omega
  rw [hfin]
  have e1 : v.tmod 65536 = r0 := hr0.symm
  have e2 : (r0 + 32768).tmod 65536 = r1 := hr1.symm
  have w1 := wr64 (r0 - (-32768)) (by omega) (by omega)
  have w2 := wr64 (r0 + 32768) (by omega) (by omega)
  clear hr0 hr1 hc hd hfin
  by_cases h1 : r1 < 0
  · rw [if_pos h1]
    have w3 := wr64 (r1 + 65536) (by omega) (by omega)
    have w4 := wr64 ((-32768) + (r1 + 65536)) (by omega) (by omega)
    go_enter Try.func24, Try.ntmps24
    go_wp2_with fail
    go_region
    go_wp2
    go_ret
    exact ⟨congrArg Ending.returned (congrArg (Value.int .i64) (by omega)), (Below.refl _ _).drew⟩
  · rw [if_neg h1]
    have w4 := wr64 ((-32768) + r1) (by omega) (by omega)
    go_enter Try.func24, Try.ntmps24
    go_wp2_with fail
    go_region
    go_wp2
    go_ret
    exact ⟨congrArg Ending.returned (congrArg (Value.int .i64) (by omega)), (Below.refl _ _).drew⟩
theorem clamp_any (n lo hi : Int) (w : World) : Calls Try.prog 13 #[I n, I lo, I hi] w fun e w' => e = .returned (I (clampI n lo hi)) ∧ w' = w := by
  unfold clampI
  by_cases h1 : n < lo
  · rw [if_pos h1]
    go_enter Try.func13, Try.ntmps13
    go_wp2
    go_ret
    exact ⟨rfl, rfl⟩
  · rw [if_neg h1]
    by_cases h2 : hi < n
    · rw [if_pos h2]
      go_enter Try.func13, Try.ntmps13
      go_wp2
      go_ret
      exact ⟨rfl, rfl⟩
    · rw [if_neg h2]
      go_enter Try.func13, Try.ntmps13
      go_wp2
      go_ret
      exact ⟨rfl, rfl⟩
def loR (r : Int) : Int := if r = 0 then -128 else if r = 1 then -32768 else 0
def hiR (r : Int) : Int := if r = 0 then 127 else if r = 1 then 32767 else 65535
theorem ends_any (r : Int) (w : World) : Calls Try.prog 50 #[I r] w fun e w' => e = .returned (.tuple #[I (loR r), I (hiR r)]) ∧ w' = w := by
  unfold loR hiR
  by_cases r0 : r = 0
  · subst r0
    rw [if_pos rfl, if_pos rfl]
    go_enter Try.func50, Try.ntmps50
    go_wp2
    go_ret2
    exact ⟨rfl, rfl⟩
  · rw [if_neg r0, if_neg r0]
    have e0 : (r == 0) = false := by simpa using r0
    by_cases r1 : r = 1
    · subst r1
      rw [if_pos rfl, if_pos rfl]
      go_enter Try.func50, Try.ntmps50
      go_wp2
      go_ret2
      exact ⟨rfl, rfl⟩
    · rw [if_neg r1, if_neg r1]
      have e1 : (r == 1) = false := by simpa using r1
      go_enter Try.func50, Try.ntmps50
      go_wp2
      go_ret2
      exact ⟨rfl, rfl⟩
theorem bitsL_in {v k : Nat} (h : v.testBit k = true) : bitsL v (k + 1) = bitsL v k ++ [k] := by
  show (if v.testBit k then bitsL v k ++ [k] else bitsL v k) = _
  rw [if_pos h]
theorem bitsL_out {v k : Nat} (h : v.testBit k = false) : bitsL v (k + 1) = bitsL v k := by
  show (if v.testBit k then bitsL v k ++ [k] else bitsL v k) = _
  rw [if_neg (by rw [h]; simp)]
/-- What a method of the model leaves: the set v, in the old row or in a new one. -/
def Mod (a : World) (b : Nat) (ad : Option Addr) (v : Nat) (x y z : Int) (w' : World) : Prop := ∃ ad' cap', MbR w' b ad' cap' v x y z ∧ (ad' = ad ∨ ∀ g, blk? ad' = some g → a.heap.size ≤ g) ∧ Upd [b] a w'
end Go.Proofs.Qxb6500469a
