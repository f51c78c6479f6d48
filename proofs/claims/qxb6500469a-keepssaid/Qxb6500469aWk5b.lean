import Derived.Test.Qxb6500469aWk4
import Derived.Deep.DeepCutAuto
import Derived.BigRegion
namespace Go.Proofs.Qxb6500469a
open Go.RowKit

set_option maxRecDepth 100000 in
set_option maxHeartbeats 8000000 in
theorem owes_7 (w : World) (A B C : Int) (s t : ByteArray) (f g F : Nat → Bool) (hF : ∀ k, k < 64 → F k = (f k || g k)) :
    Calls Try.prog 47 #[OpV 7 A B C s t, S (imgF f 64), S (imgF g 64)] w fun e w' => e = .returned (S (imgF F 64)) ∧ Below w.heap.size w w' := by
  have hmk := mk64
  have HF : Hid _ := hF
  have gp := img_get f
  have gq := img_get g
  have hPl := imgF_len f
  have hQl := imgF_len g
  generalize imgF f 64 = P at *
  generalize imgF g 64 = Q at *
  have hP := str_size P
  have hQ := str_size Q
  rw [hPl] at hP
  rw [hQl] at hQ
  have HGP : Hid _ := gp
  have HGQ : Hid _ := gq
  obtain ⟨kk, hkk⟩ : ∃ kk : Int, kk = A % 64 := ⟨_, rfl⟩
  have tc := tmod_cases A 64
  have hk64 : 0 ≤ kk ∧ kk < 64 := by omega
  obtain ⟨r0, hr0⟩ : ∃ r0, r0 = A.tmod 64 := ⟨_, rfl⟩
  rw [← hr0] at tc
  have e0 : A.tmod 64 = r0 := hr0.symm
  have b0 := ((Below.refl w.heap.size w).alloc (Nat.le_refl _) (.cells #[I 7, I A, I B, I C, .string s, .string t] 31)).alloc (by simp) (.cells (byC (List.replicate 64 0)).toArray 5)
  have BO : Blk ((w.alloc (.cells #[I 7, I A, I B, I C, .string s, .string t] 31)).alloc (.cells (byC (List.replicate 64 0)).toArray 5)) w.heap.size #[I 7, I A, I B, I C, .string s, .string t] 31 := (Blk.new rfl).old _
  have RW := row_new (w.alloc (.cells #[I 7, I A, I B, I C, .string s, .string t] 31))
  rw [World.size_alloc] at RW
  clear hF gp gq hr0
  go_enter Try.func47, Try.ntmps47
  go_upto_if 18 with fail
  go_cut [8] from 13 (fun s8 wx => s8 = I kk ∧ (w.alloc (.cells #[I 7, I A, I B, I C, .string s, .string t] 31)).alloc (.cells (byC (List.replicate 64 0)).toArray 5) = wx)
  case first =>
    by_cases hneg : r0 < 0
    · have w1 := wr64 (r0 + 64) (by omega) (by omega)
      have e1 : r0 + 64 = kk := by omega
      have HE : Hid _ := e1
      clear e1
      go_wp2_with fail
      go_meet
      case rel => exact ⟨by rw [← HE.out], rfl⟩
    · have e1 : r0 = kk := by omega
      have HE : Hid _ := e1
      clear e1
      go_wp2_with fail
      go_meet
      case rel => exact ⟨by rw [← HE.out], rfl⟩
  case rest =>
  obtain ⟨rfl, rfl⟩ := hcut
  clear e0 tc hmk
  have HKK : Hid _ := hkk
  clear hkk
  go_wp2
  go_loopw [9] (fun i wr => ∃ k : Nat, k ≤ 64 ∧ i = I k ∧ RowB wr (w.heap.size + 1) 64 (rowF F k) ∧ Blk wr w.heap.size #[I 7, I A, I B, I C, .string s, .string t] 31 ∧ Below w.heap.size w wr) (fun i _ => (64 - intOf i).toNat)
  case atStart => exact ⟨0, by omega, rfl, by rw [rowF_zero]; exact RW, BO, b0⟩
  case round =>
    clear RW BO b0
    obtain ⟨k, hk, rfl, hR, BO, br⟩ := hrel
    by_cases hlt : k < 64
    · have q1 : (k : Int) < 64 := by omega
      have q0 : (0 : Int) ≤ (k : Int) := by omega
      obtain ⟨c0, c1⟩ := hR.cell k (by rw [rowF_len]; exact hlt)
      have hst := hR.set k (c01 (F k))
      rw [rowF_step] at hst
      have hne : w.heap.size ≠ w.heap.size + 1 := by omega
      have bo := BO.other (a := ⟨w.heap.size + 1, k, none⟩) hne (B8 (c01 (F k)).toNat)
      have bb := (br.setCell (p := ⟨w.heap.size + 1, k, none⟩) (Nat.le_succ _) (B8 (c01 (F k)).toNat)).drew
      have HST : Hid (_ ∧ _ ∧ _) := And.intro (hst.drewN 1) (And.intro bo.drew bb)
      clear hst bo bb
      obtain ⟨o0, o1, o2⟩ := BO.facts
      have gk := HGP.out k hlt
      have gy := HGQ.out k hlt
      cases hx : f k with
      | true =>
        rw [hx, if_pos rfl] at gk
        cases hy : g k with
        | true =>
          rw [hy, if_pos rfl] at gy
          rw [show F k = true from by rw [HF.out k hlt]; rw [hx, hy]; rfl] at HST
          go_wp2_with fail
          go_region
          go_wp2_with fail
          refine (B_any true _).mono ?_
          rintro e w2 ⟨rfl, rfl⟩
          rw [show b2i true = 1 from rfl]
          go_wp2
          go_roundw
          case rel => exact ⟨k + 1, by omega, by go_num, HST.out.1, HST.out.2.1, HST.out.2.2⟩
          case measure => simp [intOf]; omega
        | false =>
          rw [hy, if_neg (by simp)] at gy
          rw [show F k = true from by rw [HF.out k hlt]; rw [hx, hy]; rfl] at HST
          go_wp2_with fail
          go_region
          go_wp2_with fail
          refine (B_any true _).mono ?_
          rintro e w2 ⟨rfl, rfl⟩
          rw [show b2i true = 1 from rfl]
          go_wp2
          go_roundw
          case rel => exact ⟨k + 1, by omega, by go_num, HST.out.1, HST.out.2.1, HST.out.2.2⟩
          case measure => simp [intOf]; omega
      | false =>
        rw [hx, if_neg (by simp)] at gk
        cases hy : g k with
        | true =>
          rw [hy, if_pos rfl] at gy
          rw [show F k = true from by rw [HF.out k hlt]; rw [hx, hy]; rfl] at HST
          go_wp2_with fail
          go_region
          go_wp2_with fail
          refine (B_any true _).mono ?_
          rintro e w2 ⟨rfl, rfl⟩
          rw [show b2i true = 1 from rfl]
          go_wp2
          go_roundw
          case rel => exact ⟨k + 1, by omega, by go_num, HST.out.1, HST.out.2.1, HST.out.2.2⟩
          case measure => simp [intOf]; omega
        | false =>
          rw [hy, if_neg (by simp)] at gy
          rw [show F k = false from by rw [HF.out k hlt]; rw [hx, hy]; rfl] at HST
          go_wp2_with fail
          go_region
          go_wp2_with fail
          refine (B_any false _).mono ?_
          rintro e w2 ⟨rfl, rfl⟩
          rw [show b2i false = 0 from rfl]
          go_wp2
          go_roundw
          case rel => exact ⟨k + 1, by omega, by go_num, HST.out.1, HST.out.2.1, HST.out.2.2⟩
          case measure => simp [intOf]; omega
    · obtain rfl : k = 64 := by omega
      rw [rowF_end] at hR
      have hcv := hR.str (imgF_len _)
      go_wp2
      go_ret
      exact ⟨rfl, br⟩
set_option maxRecDepth 100000 in
set_option maxHeartbeats 8000000 in
theorem owes_8 (w : World) (A B C : Int) (s t : ByteArray) (f g F : Nat → Bool) (hF : ∀ k, k < 64 → F k = (f k && g k)) :
    Calls Try.prog 47 #[OpV 8 A B C s t, S (imgF f 64), S (imgF g 64)] w fun e w' => e = .returned (S (imgF F 64)) ∧ Below w.heap.size w w' := by
  have hmk := mk64
  have HF : Hid _ := hF
  have gp := img_get f
  have gq := img_get g
  have hPl := imgF_len f
  have hQl := imgF_len g
  generalize imgF f 64 = P at *
  generalize imgF g 64 = Q at *
  have hP := str_size P
  have hQ := str_size Q
  rw [hPl] at hP
  rw [hQl] at hQ
  have HGP : Hid _ := gp
  have HGQ : Hid _ := gq
  obtain ⟨kk, hkk⟩ : ∃ kk : Int, kk = A % 64 := ⟨_, rfl⟩
  have tc := tmod_cases A 64
  have hk64 : 0 ≤ kk ∧ kk < 64 := by omega
  obtain ⟨r0, hr0⟩ : ∃ r0, r0 = A.tmod 64 := ⟨_, rfl⟩
  rw [← hr0] at tc
  have e0 : A.tmod 64 = r0 := hr0.symm
  have b0 := ((Below.refl w.heap.size w).alloc (Nat.le_refl _) (.cells #[I 8, I A, I B, I C, .string s, .string t] 31)).alloc (by simp) (.cells (byC (List.replicate 64 0)).toArray 5)
  have BO : Blk ((w.alloc (.cells #[I 8, I A, I B, I C, .string s, .string t] 31)).alloc (.cells (byC (List.replicate 64 0)).toArray 5)) w.heap.size #[I 8, I A, I B, I C, .string s, .string t] 31 := (Blk.new rfl).old _
  have RW := row_new (w.alloc (.cells #[I 8, I A, I B, I C, .string s, .string t] 31))
  rw [World.size_alloc] at RW
  clear hF gp gq hr0
  go_enter Try.func47, Try.ntmps47
  go_upto_if 18 with fail
  go_cut [8] from 13 (fun s8 wx => s8 = I kk ∧ (w.alloc (.cells #[I 8, I A, I B, I C, .string s, .string t] 31)).alloc (.cells (byC (List.replicate 64 0)).toArray 5) = wx)
  case first =>
    by_cases hneg : r0 < 0
    · have w1 := wr64 (r0 + 64) (by omega) (by omega)
      have e1 : r0 + 64 = kk := by omega
      have HE : Hid _ := e1
      clear e1
      go_wp2_with fail
      go_meet
      case rel => exact ⟨by rw [← HE.out], rfl⟩
    · have e1 : r0 = kk := by omega
      have HE : Hid _ := e1
      clear e1
      go_wp2_with fail
      go_meet
      case rel => exact ⟨by rw [← HE.out], rfl⟩
  case rest =>
  obtain ⟨rfl, rfl⟩ := hcut
  clear e0 tc hmk
  have HKK : Hid _ := hkk
  clear hkk
  go_wp2
  go_loopw [9] (fun i wr => ∃ k : Nat, k ≤ 64 ∧ i = I k ∧ RowB wr (w.heap.size + 1) 64 (rowF F k) ∧ Blk wr w.heap.size #[I 8, I A, I B, I C, .string s, .string t] 31 ∧ Below w.heap.size w wr) (fun i _ => (64 - intOf i).toNat)
  case atStart => exact ⟨0, by omega, rfl, by rw [rowF_zero]; exact RW, BO, b0⟩
  case round =>
    clear RW BO b0
    obtain ⟨k, hk, rfl, hR, BO, br⟩ := hrel
    by_cases hlt : k < 64
    · have q1 : (k : Int) < 64 := by omega
      have q0 : (0 : Int) ≤ (k : Int) := by omega
      obtain ⟨c0, c1⟩ := hR.cell k (by rw [rowF_len]; exact hlt)
      have hst := hR.set k (c01 (F k))
      rw [rowF_step] at hst
      have hne : w.heap.size ≠ w.heap.size + 1 := by omega
      have bo := BO.other (a := ⟨w.heap.size + 1, k, none⟩) hne (B8 (c01 (F k)).toNat)
      have bb := (br.setCell (p := ⟨w.heap.size + 1, k, none⟩) (Nat.le_succ _) (B8 (c01 (F k)).toNat)).drew
      have HST : Hid (_ ∧ _ ∧ _) := And.intro (hst.drewN 1) (And.intro bo.drew bb)
      clear hst bo bb
      obtain ⟨o0, o1, o2⟩ := BO.facts
      have gk := HGP.out k hlt
      have gy := HGQ.out k hlt
      cases hx : f k with
      | true =>
        rw [hx, if_pos rfl] at gk
        cases hy : g k with
        | true =>
          rw [hy, if_pos rfl] at gy
          rw [show F k = true from by rw [HF.out k hlt]; rw [hx, hy]; rfl] at HST
          go_wp2_with fail
          go_region
          go_wp2_with fail
          refine (B_any true _).mono ?_
          rintro e w2 ⟨rfl, rfl⟩
          rw [show b2i true = 1 from rfl]
          go_wp2
          go_roundw
          case rel => exact ⟨k + 1, by omega, by go_num, HST.out.1, HST.out.2.1, HST.out.2.2⟩
          case measure => simp [intOf]; omega
        | false =>
          rw [hy, if_neg (by simp)] at gy
          rw [show F k = false from by rw [HF.out k hlt]; rw [hx, hy]; rfl] at HST
          go_wp2_with fail
          go_region
          go_wp2_with fail
          refine (B_any false _).mono ?_
          rintro e w2 ⟨rfl, rfl⟩
          rw [show b2i false = 0 from rfl]
          go_wp2
          go_roundw
          case rel => exact ⟨k + 1, by omega, by go_num, HST.out.1, HST.out.2.1, HST.out.2.2⟩
          case measure => simp [intOf]; omega
      | false =>
        rw [hx, if_neg (by simp)] at gk
        cases hy : g k with
        | true =>
          rw [hy, if_pos rfl] at gy
          rw [show F k = false from by rw [HF.out k hlt]; rw [hx, hy]; rfl] at HST
          go_wp2_with fail
          go_region
          go_wp2_with fail
          refine (B_any false _).mono ?_
          rintro e w2 ⟨rfl, rfl⟩
          rw [show b2i false = 0 from rfl]
          go_wp2
          go_roundw
          case rel => exact ⟨k + 1, by omega, by go_num, HST.out.1, HST.out.2.1, HST.out.2.2⟩
          case measure => simp [intOf]; omega
        | false =>
          rw [hy, if_neg (by simp)] at gy
          rw [show F k = false from by rw [HF.out k hlt]; rw [hx, hy]; rfl] at HST
          go_wp2_with fail
          go_region
          go_wp2_with fail
          refine (B_any false _).mono ?_
          rintro e w2 ⟨rfl, rfl⟩
          rw [show b2i false = 0 from rfl]
          go_wp2
          go_roundw
          case rel => exact ⟨k + 1, by omega, by go_num, HST.out.1, HST.out.2.1, HST.out.2.2⟩
          case measure => simp [intOf]; omega
    · obtain rfl : k = 64 := by omega
      rw [rowF_end] at hR
      have hcv := hR.str (imgF_len _)
      go_wp2
      go_ret
      exact ⟨rfl, br⟩
set_option maxRecDepth 100000 in
set_option maxHeartbeats 8000000 in
theorem owes_9 (w : World) (A B C : Int) (s t : ByteArray) (f g F : Nat → Bool) (hF : ∀ k, k < 64 → F k = (f k && !g k)) :
    Calls Try.prog 47 #[OpV 9 A B C s t, S (imgF f 64), S (imgF g 64)] w fun e w' => e = .returned (S (imgF F 64)) ∧ Below w.heap.size w w' := by
  have hmk := mk64
  have HF : Hid _ := hF
  have gp := img_get f
  have gq := img_get g
  have hPl := imgF_len f
  have hQl := imgF_len g
  generalize imgF f 64 = P at *
  generalize imgF g 64 = Q at *
  have hP := str_size P
  have hQ := str_size Q
  rw [hPl] at hP
  rw [hQl] at hQ
  have HGP : Hid _ := gp
  have HGQ : Hid _ := gq
  obtain ⟨kk, hkk⟩ : ∃ kk : Int, kk = A % 64 := ⟨_, rfl⟩
  have tc := tmod_cases A 64
  have hk64 : 0 ≤ kk ∧ kk < 64 := by omega
  obtain ⟨r0, hr0⟩ : ∃ r0, r0 = A.tmod 64 := ⟨_, rfl⟩
  rw [← hr0] at tc
  have e0 : A.tmod 64 = r0 := hr0.symm
  have b0 := ((Below.refl w.heap.size w).alloc (Nat.le_refl _) (.cells #[I 9, I A, I B, I C, .string s, .string t] 31)).alloc (by simp) (.cells (byC (List.replicate 64 0)).toArray 5)
  have BO : Blk ((w.alloc (.cells #[I 9, I A, I B, I C, .string s, .string t] 31)).alloc (.cells (byC (List.replicate 64 0)).toArray 5)) w.heap.size #[I 9, I A, I B, I C, .string s, .string t] 31 := (Blk.new rfl).old _
  have RW := row_new (w.alloc (.cells #[I 9, I A, I B, I C, .string s, .string t] 31))
  rw [World.size_alloc] at RW
  clear hF gp gq hr0
  go_enter Try.func47, Try.ntmps47
  go_upto_if 18 with fail
  go_cut [8] from 13 (fun s8 wx => s8 = I kk ∧ (w.alloc (.cells #[I 9, I A, I B, I C, .string s, .string t] 31)).alloc (.cells (byC (List.replicate 64 0)).toArray 5) = wx)
  case first =>
    by_cases hneg : r0 < 0
    · have w1 := wr64 (r0 + 64) (by omega) (by omega)
      have e1 : r0 + 64 = kk := by omega
      have HE : Hid _ := e1
      clear e1
      go_wp2_with fail
      go_meet
      case rel => exact ⟨by rw [← HE.out], rfl⟩
    · have e1 : r0 = kk := by omega
      have HE : Hid _ := e1
      clear e1
      go_wp2_with fail
      go_meet
      case rel => exact ⟨by rw [← HE.out], rfl⟩
  case rest =>
  obtain ⟨rfl, rfl⟩ := hcut
  clear e0 tc hmk
  have HKK : Hid _ := hkk
  clear hkk
  go_wp2
  go_loopw [9] (fun i wr => ∃ k : Nat, k ≤ 64 ∧ i = I k ∧ RowB wr (w.heap.size + 1) 64 (rowF F k) ∧ Blk wr w.heap.size #[I 9, I A, I B, I C, .string s, .string t] 31 ∧ Below w.heap.size w wr) (fun i _ => (64 - intOf i).toNat)
  case atStart => exact ⟨0, by omega, rfl, by rw [rowF_zero]; exact RW, BO, b0⟩
  case round =>
    clear RW BO b0
    obtain ⟨k, hk, rfl, hR, BO, br⟩ := hrel
    by_cases hlt : k < 64
    · have q1 : (k : Int) < 64 := by omega
      have q0 : (0 : Int) ≤ (k : Int) := by omega
      obtain ⟨c0, c1⟩ := hR.cell k (by rw [rowF_len]; exact hlt)
      have hst := hR.set k (c01 (F k))
      rw [rowF_step] at hst
      have hne : w.heap.size ≠ w.heap.size + 1 := by omega
      have bo := BO.other (a := ⟨w.heap.size + 1, k, none⟩) hne (B8 (c01 (F k)).toNat)
      have bb := (br.setCell (p := ⟨w.heap.size + 1, k, none⟩) (Nat.le_succ _) (B8 (c01 (F k)).toNat)).drew
      have HST : Hid (_ ∧ _ ∧ _) := And.intro (hst.drewN 1) (And.intro bo.drew bb)
      clear hst bo bb
      obtain ⟨o0, o1, o2⟩ := BO.facts
      have gk := HGP.out k hlt
      have gy := HGQ.out k hlt
      cases hx : f k with
      | true =>
        rw [hx, if_pos rfl] at gk
        cases hy : g k with
        | true =>
          rw [hy, if_pos rfl] at gy
          rw [show F k = false from by rw [HF.out k hlt]; rw [hx, hy]; rfl] at HST
          go_wp2_with fail
          go_region
          go_wp2_with fail
          refine (B_any false _).mono ?_
          rintro e w2 ⟨rfl, rfl⟩
          rw [show b2i false = 0 from rfl]
          go_wp2
          go_roundw
          case rel => exact ⟨k + 1, by omega, by go_num, HST.out.1, HST.out.2.1, HST.out.2.2⟩
          case measure => simp [intOf]; omega
        | false =>
          rw [hy, if_neg (by simp)] at gy
          rw [show F k = true from by rw [HF.out k hlt]; rw [hx, hy]; rfl] at HST
          go_wp2_with fail
          go_region
          go_wp2_with fail
          refine (B_any true _).mono ?_
          rintro e w2 ⟨rfl, rfl⟩
          rw [show b2i true = 1 from rfl]
          go_wp2
          go_roundw
          case rel => exact ⟨k + 1, by omega, by go_num, HST.out.1, HST.out.2.1, HST.out.2.2⟩
          case measure => simp [intOf]; omega
      | false =>
        rw [hx, if_neg (by simp)] at gk
        cases hy : g k with
        | true =>
          rw [hy, if_pos rfl] at gy
          rw [show F k = false from by rw [HF.out k hlt]; rw [hx, hy]; rfl] at HST
          go_wp2_with fail
          go_region
          go_wp2_with fail
          refine (B_any false _).mono ?_
          rintro e w2 ⟨rfl, rfl⟩
          rw [show b2i false = 0 from rfl]
          go_wp2
          go_roundw
          case rel => exact ⟨k + 1, by omega, by go_num, HST.out.1, HST.out.2.1, HST.out.2.2⟩
          case measure => simp [intOf]; omega
        | false =>
          rw [hy, if_neg (by simp)] at gy
          rw [show F k = false from by rw [HF.out k hlt]; rw [hx, hy]; rfl] at HST
          go_wp2_with fail
          go_region
          go_wp2_with fail
          refine (B_any false _).mono ?_
          rintro e w2 ⟨rfl, rfl⟩
          rw [show b2i false = 0 from rfl]
          go_wp2
          go_roundw
          case rel => exact ⟨k + 1, by omega, by go_num, HST.out.1, HST.out.2.1, HST.out.2.2⟩
          case measure => simp [intOf]; omega
    · obtain rfl : k = 64 := by omega
      rw [rowF_end] at hR
      have hcv := hR.str (imgF_len _)
      go_wp2
      go_ret
      exact ⟨rfl, br⟩
set_option maxRecDepth 100000 in
set_option maxHeartbeats 8000000 in
theorem owes_10 (w : World) (A B C : Int) (s t : ByteArray) (f g F : Nat → Bool) (hF : ∀ k, k < 64 → F k = (!f k)) :
    Calls Try.prog 47 #[OpV 10 A B C s t, S (imgF f 64), S (imgF g 64)] w fun e w' => e = .returned (S (imgF F 64)) ∧ Below w.heap.size w w' := by
  have hmk := mk64
  have HF : Hid _ := hF
  have gp := img_get f
  have gq := img_get g
  have hPl := imgF_len f
  have hQl := imgF_len g
  generalize imgF f 64 = P at *
  generalize imgF g 64 = Q at *
  have hP := str_size P
  have hQ := str_size Q
  rw [hPl] at hP
  rw [hQl] at hQ
  have HGP : Hid _ := gp
  have HGQ : Hid _ := gq
  obtain ⟨kk, hkk⟩ : ∃ kk : Int, kk = A % 64 := ⟨_, rfl⟩
  have tc := tmod_cases A 64
  have hk64 : 0 ≤ kk ∧ kk < 64 := by omega
  obtain ⟨r0, hr0⟩ : ∃ r0, r0 = A.tmod 64 := ⟨_, rfl⟩
  rw [← hr0] at tc
  have e0 : A.tmod 64 = r0 := hr0.symm
  have b0 := ((Below.refl w.heap.size w).alloc (Nat.le_refl _) (.cells #[I 10, I A, I B, I C, .string s, .string t] 31)).alloc (by simp) (.cells (byC (List.replicate 64 0)).toArray 5)
  have BO : Blk ((w.alloc (.cells #[I 10, I A, I B, I C, .string s, .string t] 31)).alloc (.cells (byC (List.replicate 64 0)).toArray 5)) w.heap.size #[I 10, I A, I B, I C, .string s, .string t] 31 := (Blk.new rfl).old _
  have RW := row_new (w.alloc (.cells #[I 10, I A, I B, I C, .string s, .string t] 31))
  rw [World.size_alloc] at RW
  clear hF gp gq hr0
  go_enter Try.func47, Try.ntmps47
  go_upto_if 18 with fail
  go_cut [8] from 13 (fun s8 wx => s8 = I kk ∧ (w.alloc (.cells #[I 10, I A, I B, I C, .string s, .string t] 31)).alloc (.cells (byC (List.replicate 64 0)).toArray 5) = wx)
  case first =>
    by_cases hneg : r0 < 0
    · have w1 := wr64 (r0 + 64) (by omega) (by omega)
      have e1 : r0 + 64 = kk := by omega
      have HE : Hid _ := e1
      clear e1
      go_wp2_with fail
      go_meet
      case rel => exact ⟨by rw [← HE.out], rfl⟩
    · have e1 : r0 = kk := by omega
      have HE : Hid _ := e1
      clear e1
      go_wp2_with fail
      go_meet
      case rel => exact ⟨by rw [← HE.out], rfl⟩
  case rest =>
  obtain ⟨rfl, rfl⟩ := hcut
  clear e0 tc hmk
  have HKK : Hid _ := hkk
  clear hkk
  go_wp2
  go_loopw [9] (fun i wr => ∃ k : Nat, k ≤ 64 ∧ i = I k ∧ RowB wr (w.heap.size + 1) 64 (rowF F k) ∧ Blk wr w.heap.size #[I 10, I A, I B, I C, .string s, .string t] 31 ∧ Below w.heap.size w wr) (fun i _ => (64 - intOf i).toNat)
  case atStart => exact ⟨0, by omega, rfl, by rw [rowF_zero]; exact RW, BO, b0⟩
  case round =>
    clear RW BO b0
    obtain ⟨k, hk, rfl, hR, BO, br⟩ := hrel
    by_cases hlt : k < 64
    · have q1 : (k : Int) < 64 := by omega
      have q0 : (0 : Int) ≤ (k : Int) := by omega
      obtain ⟨c0, c1⟩ := hR.cell k (by rw [rowF_len]; exact hlt)
      have hst := hR.set k (c01 (F k))
      rw [rowF_step] at hst
      have hne : w.heap.size ≠ w.heap.size + 1 := by omega
      have bo := BO.other (a := ⟨w.heap.size + 1, k, none⟩) hne (B8 (c01 (F k)).toNat)
      have bb := (br.setCell (p := ⟨w.heap.size + 1, k, none⟩) (Nat.le_succ _) (B8 (c01 (F k)).toNat)).drew
      have HST : Hid (_ ∧ _ ∧ _) := And.intro (hst.drewN 1) (And.intro bo.drew bb)
      clear hst bo bb
      obtain ⟨o0, o1, o2⟩ := BO.facts
      have gk := HGP.out k hlt
      obtain ⟨yv, gy⟩ : ∃ yv, ∀ h, ((str Q)[k]'h).toNat = yv := ⟨_, HGQ.out k hlt⟩
      cases hx : f k with
      | true =>
        rw [hx, if_pos rfl] at gk
        rw [show F k = false from by rw [HF.out k hlt]; rw [hx]; rfl] at HST
        go_wp2_with fail
        go_region
        go_wp2_with fail
        refine (B_any false _).mono ?_
        rintro e w2 ⟨rfl, rfl⟩
        rw [show b2i false = 0 from rfl]
        go_wp2
        go_roundw
        case rel => exact ⟨k + 1, by omega, by go_num, HST.out.1, HST.out.2.1, HST.out.2.2⟩
        case measure => simp [intOf]; omega
      | false =>
        rw [hx, if_neg (by simp)] at gk
        rw [show F k = true from by rw [HF.out k hlt]; rw [hx]; rfl] at HST
        go_wp2_with fail
        go_region
        go_wp2_with fail
        refine (B_any true _).mono ?_
        rintro e w2 ⟨rfl, rfl⟩
        rw [show b2i true = 1 from rfl]
        go_wp2
        go_roundw
        case rel => exact ⟨k + 1, by omega, by go_num, HST.out.1, HST.out.2.1, HST.out.2.2⟩
        case measure => simp [intOf]; omega
    · obtain rfl : k = 64 := by omega
      rw [rowF_end] at hR
      have hcv := hR.str (imgF_len _)
      go_wp2
      go_ret
      exact ⟨rfl, br⟩
end Go.Proofs.Qxb6500469a
