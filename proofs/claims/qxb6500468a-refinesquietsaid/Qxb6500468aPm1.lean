import Derived.Test.Qxb6500468aPk12
namespace Go.Proofs.Qxb6500468a
open Go.RowKit
set_option maxHeartbeats 1000000 in
theorem wrap_u8 (v : Int) (w : World) : Calls Try.prog 32 #[I v, I 0, I 255] w fun e w' => e = .returned (I ((v + 0) % 256 - 0)) ∧ Below w.heap.size w w' := by
  obtain ⟨r0, hr0⟩ : ∃ r, r = v.tmod 256 := ⟨_, rfl⟩
  obtain ⟨r1, hr1⟩ : ∃ r, r = (r0).tmod 256 := ⟨_, rfl⟩
  have hc := tmod_cases v 256
  have hd := tmod_cases (r0) 256
  rw [← hr0] at hc
  rw [← hr1] at hd
  have g0 : -255 ≤ r0 ∧ r0 ≤ 255 := by omega
  have g1 : -255 ≤ r1 ∧ r1 ≤ 255 := by omega
  have hfin : (v + 0) % 256 - 0 = (if r1 < 0 then r1 + 256 else r1) - 0 := by
    split <;> omega
  rw [hfin]
  have e1 : v.tmod 256 = r0 := hr0.symm
  have e2 : (r0).tmod 256 = r1 := hr1.symm
  have w1 := wr64 (r0 - 0) (by omega) (by omega)
  have w2 := wr64 (r0) (by omega) (by omega)
  clear hr0 hr1 hc hd hfin
  by_cases h1 : r1 < 0
  · rw [if_pos h1]
    have w3 := wr64 (r1 + 256) (by omega) (by omega)
    have w4 := wr64 (0 + (r1 + 256)) (by omega) (by omega)
    go_enter Try.func32, Try.ntmps32
    go_wp2_with fail
    go_region
    go_wp2
    go_ret
    exact ⟨congrArg Ending.returned (congrArg (Value.int .i64) (by omega)), (Below.refl _ _).drew⟩
  · rw [if_neg h1]
    have w4 := wr64 (0 + r1) (by omega) (by omega)
    go_enter Try.func32, Try.ntmps32
    go_wp2_with fail
    go_region
    go_wp2
    go_ret
    exact ⟨congrArg Ending.returned (congrArg (Value.int .i64) (by omega)), (Below.refl _ _).drew⟩
set_option maxHeartbeats 1000000 in
theorem wrap_u16 (v : Int) (w : World) : Calls Try.prog 32 #[I v, I 0, I 65535] w fun e w' => e = .returned (I ((v + 0) % 65536 - 0)) ∧ Below w.heap.size w w' := by
  obtain ⟨r0, hr0⟩ : ∃ r, r = v.tmod 65536 := ⟨_, rfl⟩
  obtain ⟨r1, hr1⟩ : ∃ r, r = (r0).tmod 65536 := ⟨_, rfl⟩
  have hc := tmod_cases v 65536
  have hd := tmod_cases (r0) 65536
  rw [← hr0] at hc
  rw [← hr1] at hd
  have g0 : -65535 ≤ r0 ∧ r0 ≤ 65535 := by omega
  have g1 : -65535 ≤ r1 ∧ r1 ≤ 65535 := by omega
  have hfin : (v + 0) % 65536 - 0 = (if r1 < 0 then r1 + 65536 else r1) - 0 := by
    split <;> omega
  rw [hfin]
  have e1 : v.tmod 65536 = r0 := hr0.symm
  have e2 : (r0).tmod 65536 = r1 := hr1.symm
  have w1 := wr64 (r0 - 0) (by omega) (by omega)
  have w2 := wr64 (r0) (by omega) (by omega)
  clear hr0 hr1 hc hd hfin
  by_cases h1 : r1 < 0
  · rw [if_pos h1]
    have w3 := wr64 (r1 + 65536) (by omega) (by omega)
    have w4 := wr64 (0 + (r1 + 65536)) (by omega) (by omega)
    go_enter Try.func32, Try.ntmps32
    go_wp2_with fail
    go_region
    go_wp2
    go_ret
    exact ⟨congrArg Ending.returned (congrArg (Value.int .i64) (by omega)), (Below.refl _ _).drew⟩
  · rw [if_neg h1]
    have w4 := wr64 (0 + r1) (by omega) (by omega)
    go_enter Try.func32, Try.ntmps32
    go_wp2_with fail
    go_region
    go_wp2
    go_ret
    exact ⟨congrArg Ending.returned (congrArg (Value.int .i64) (by omega)), (Below.refl _ _).drew⟩
set_option maxHeartbeats 1000000 in
theorem wrap_i8 (v : Int) (w : World) : Calls Try.prog 32 #[I v, I (-128), I 127] w fun e w' => e = .returned (I ((v + 128) % 256 - 128)) ∧ Below w.heap.size w w' := by
  obtain ⟨r0, hr0⟩ : ∃ r, r = v.tmod 256 := ⟨_, rfl⟩
  obtain ⟨r1, hr1⟩ : ∃ r, r = (r0 + 128).tmod 256 := ⟨_, rfl⟩
  have hc := tmod_cases v 256
  have hd := tmod_cases (r0 + 128) 256
  rw [← hr0] at hc
  rw [← hr1] at hd
  have g0 : -255 ≤ r0 ∧ r0 ≤ 255 := by omega
  have g1 : -255 ≤ r1 ∧ r1 ≤ 255 := by omega
  have hfin : (v + 128) % 256 - 128 = (if r1 < 0 then r1 + 256 else r1) - 128 := by
    split <;> omega
  rw [hfin]
  have e1 : v.tmod 256 = r0 := hr0.symm
  have e2 : (r0 + 128).tmod 256 = r1 := hr1.symm
  have w1 := wr64 (r0 - (-128)) (by omega) (by omega)
  have w2 := wr64 (r0 + 128) (by omega) (by omega)
  clear hr0 hr1 hc hd hfin
  by_cases h1 : r1 < 0
  · rw [if_pos h1]
    have w3 := wr64 (r1 + 256) (by omega) (by omega)
    have w4 := wr64 ((-128) + (r1 + 256)) (by omega) (by omega)
    go_enter Try.func32, Try.ntmps32
    go_wp2_with fail
    go_region
    go_wp2
    go_ret
    exact ⟨congrArg Ending.returned (congrArg (Value.int .i64) (by omega)), (Below.refl _ _).drew⟩
  · rw [if_neg h1]
    have w4 := wr64 ((-128) + r1) (by omega) (by omega)
    go_enter Try.func32, Try.ntmps32
    go_wp2_with fail
    go_region
    go_wp2
    go_ret
    exact ⟨congrArg Ending.returned (congrArg (Value.int .i64) (by omega)), (Below.refl _ _).drew⟩
set_option maxHeartbeats 1000000 in
theorem wrap_i16 (v : Int) (w : World) : Calls Try.prog 32 #[I v, I (-32768), I 32767] w fun e w' => e = .returned (I ((v + 32768) % 65536 - 32768)) ∧ Below w.heap.size w w' := by
  obtain ⟨r0, hr0⟩ : ∃ r, r = v.tmod 65536 := ⟨_, rfl⟩
  obtain ⟨r1, hr1⟩ : ∃ r, r = (r0 + 32768).tmod 65536 := ⟨_, rfl⟩
  have hc := tmod_cases v 65536
  have hd := tmod_cases (r0 + 32768) 65536
  rw [← hr0] at hc
  rw [← hr1] at hd
  have g0 : -65535 ≤ r0 ∧ r0 ≤ 65535 := by omega
  have g1 : -65535 ≤ r1 ∧ r1 ≤ 65535 := by omega
  have hfin : (v + 32768) % 65536 - 32768 = (if r1 < 0 then r1 + 65536 else r1) - 32768 := by
    split <;> omega
  rw [hfin]
  have e1 : v.tmod 65536 = r0 := hr0.symm
  have e2 : (r0 + 32768).tmod 65536 = r1 := hr1.symm
  have w1 := wr64 (r0 - (-32768)) (by omega) (by omega)
  have w2 := wr64 (r0 + 32768) (by omega) (by omega)
  clear hr0 hr1 hc hd hfin
  by_cases h1 : r1 < 0
  · rw [if_pos h1]
    have w3 := wr64 (r1 + 65536) (by omega) (by omega)
    have w4 := wr64 ((-32768) + (r1 + 65536)) (by omega) (by omega)
    go_enter Try.func32, Try.ntmps32
    go_wp2_with fail
    go_region
    go_wp2
    go_ret
    exact ⟨congrArg Ending.returned (congrArg (Value.int .i64) (by omega)), (Below.refl _ _).drew⟩
  · rw [if_neg h1]
    have w4 := wr64 ((-32768) + r1) (by omega) (by omega)
    go_enter Try.func32, Try.ntmps32
    go_wp2_with fail
    go_region
    go_wp2
    go_ret
    exact ⟨congrArg Ending.returned (congrArg (Value.int .i64) (by omega)), (Below.refl _ _).drew⟩
set_option maxHeartbeats 1000000 in
theorem clamp16 (v : Int) (hv : 0 ≤ v) (w : World) : Calls Try.prog 18 #[I v, I 0, I 65535] w fun e w' => e = .returned (I (if v < 65536 then v else 65535)) ∧ w' = w := by
  have h0 : ¬ v < 0 := by omega
  by_cases h : v < 65536
  · rw [if_pos h]
    have h1 : ¬ 65535 < v := by omega
    go_enter Try.func18, Try.ntmps18
    go_wp2
    go_ret
    exact ⟨rfl, rfl⟩
  · rw [if_neg h]
    have h1 : 65535 < v := by omega
    go_enter Try.func18, Try.ntmps18
    go_wp2
    go_ret
    exact ⟨rfl, rfl⟩
end Go.Proofs.Qxb6500468a
