import Derived.Test.Qxb6500469aWm2
namespace Go.Proofs.Qxb6500469a
open Go.RowKit

set_option maxRecDepth 100000 in
set_option maxHeartbeats 4000000 in
theorem pick_4 (w : World) (b : Nat) (ad : Option Addr) (cap u : Nat) (a p q : Int) (h : MbR w b ad cap u a p q) (o : Nat) (ad2 : Option Addr) (cap2 u2 : Nat) (a2 p2 q2 : Int) (h2 : MbR w o ad2 cap2 u2 a2 p2 q2) (v : Nat) (hv : v < 18446744073709551616) (hV : ∀ k, k < 64 → v.testBit k = (u.testBit k || u2.testBit k)) :
    Calls Try.prog 85 #[ptr b, I 4, ptr o, I 0] w fun e w' => e = .returned (.tuple #[]) ∧ Mod w b ad v a p q w' := by
  obtain ⟨i0, hi, hz0, hz1, hz2⟩ := info_parts iInfo
  have lb := h.head.lt
  have HV : Hid _ := hV
  have Hh : Hid _ := h
  clear hV
  go_enter Try.func85, Try.ntmps85
  go_wp2
  go_loopw [8, 9] (fun nx i wr => ∃ (k : Nat) (an : Option Addr) (cn : Nat), k ≤ 64 ∧ nx = .slice an (bitsL v k).length cn ∧ i = I k ∧ OwnI w.heap.size wr an cn (bitsL v k) ∧ Below w.heap.size w wr) (fun _ i _ => (64 - intOf i).toNat)
  case atStart => exact ⟨0, none, 0, by omega, rfl, rfl, OwnI.nil _ _, Below.refl _ _⟩
  case round =>
    obtain ⟨k, an, cn, hk, rfl, rfl, hO, br⟩ := hrel
    have hr := h.later br
    have hlen := bitsL_len v k
    clear h
    by_cases hlt : k < 64
    · have q1 : (k : Int) < 64 := by omega
      have HOwn := hO.own
      have hH := fun j => mhas_any wr b ad cap u a p q hr j
      have hH1 := hH (k : Int)
      rw [hasB_nat u k hlt] at hH1
      have hr2 := h2.later br
      have hH2 := mhas_any wr o ad2 cap2 u2 a2 p2 q2 hr2 (k : Int)
      rw [hasB_nat u2 k hlt] at hH2
      cases hx : u.testBit k with
      | true =>
        rw [hx] at hH1
        cases hy : u2.testBit k with
        | true =>
          rw [hy] at hH2
          have hf : (u.testBit k || u2.testBit k) = true := by rw [hx, hy]; rfl
          go_wp2_with fail
          refine hH1.mono ?_
          rintro e w1 ⟨rfl, rfl⟩
          go_wp2_with fail
          refine hH2.mono ?_
          rintro e w1 ⟨rfl, rfl⟩
          go_wp2_with (at_builtin; go_loud (refine wpList_append_lies _ rfl (.tmp 83) (.tmp 85) 87 rfl 0 3 i0 (I 0) 1 8 Try.underlying87 hi hz0 hz1 hz2 rfl (by decide) (.slice an (bitsL v k).length cn) _ _ rfl (World.ownsRow.alloc HOwn _) ⟨w1.heap.size, 0, none⟩ 1 1 [I (k : Int)] rfl rfl (cell_one_new _ _ _) (by intro u hu; simp at hu; subst hu; rfl) (by decide) (by unfold maxLen; omega) (by omega) (Nat.zero_le _) (w1.heap.size + 1) (World.size_alloc _ _) ?_); intro g1 cap1 w3 hown hgrow hat hlt3; go_loud (rw [own_slice] at hgrow hat))
          obtain ⟨O4, B4⟩ := hO.push (c := k) br.size hown hgrow hat
          have e8 : bitsL v (k + 1) = bitsL v k ++ [k] := bitsL_in ((HV.out k hlt).trans hf)
          have hl8 : (bitsL v (k + 1)).length = (bitsL v k).length + 1 := by rw [e8, List.length_append]; rfl
          go_roundw
          case rel => exact ⟨k + 1, some ⟨g1, 0, none⟩, cap1, by omega, by rw [hl8], by go_num, by rw [e8]; exact O4, br.trans B4⟩
          case measure => simp [intOf]; omega
        | false =>
          rw [hy] at hH2
          have hf : (u.testBit k || u2.testBit k) = true := by rw [hx, hy]; rfl
          go_wp2_with fail
          refine hH1.mono ?_
          rintro e w1 ⟨rfl, rfl⟩
          go_wp2_with fail
          refine hH2.mono ?_
          rintro e w1 ⟨rfl, rfl⟩
          go_wp2_with (at_builtin; go_loud (refine wpList_append_lies _ rfl (.tmp 83) (.tmp 85) 87 rfl 0 3 i0 (I 0) 1 8 Try.underlying87 hi hz0 hz1 hz2 rfl (by decide) (.slice an (bitsL v k).length cn) _ _ rfl (World.ownsRow.alloc HOwn _) ⟨w1.heap.size, 0, none⟩ 1 1 [I (k : Int)] rfl rfl (cell_one_new _ _ _) (by intro u hu; simp at hu; subst hu; rfl) (by decide) (by unfold maxLen; omega) (by omega) (Nat.zero_le _) (w1.heap.size + 1) (World.size_alloc _ _) ?_); intro g1 cap1 w3 hown hgrow hat hlt3; go_loud (rw [own_slice] at hgrow hat))
          obtain ⟨O4, B4⟩ := hO.push (c := k) br.size hown hgrow hat
          have e8 : bitsL v (k + 1) = bitsL v k ++ [k] := bitsL_in ((HV.out k hlt).trans hf)
          have hl8 : (bitsL v (k + 1)).length = (bitsL v k).length + 1 := by rw [e8, List.length_append]; rfl
          go_roundw
          case rel => exact ⟨k + 1, some ⟨g1, 0, none⟩, cap1, by omega, by rw [hl8], by go_num, by rw [e8]; exact O4, br.trans B4⟩
          case measure => simp [intOf]; omega
      | false =>
        rw [hx] at hH1
        cases hy : u2.testBit k with
        | true =>
          rw [hy] at hH2
          have hf : (u.testBit k || u2.testBit k) = true := by rw [hx, hy]; rfl
          go_wp2_with fail
          refine hH1.mono ?_
          rintro e w1 ⟨rfl, rfl⟩
          go_wp2_with fail
          refine hH2.mono ?_
          rintro e w1 ⟨rfl, rfl⟩
          go_wp2_with (at_builtin; go_loud (refine wpList_append_lies _ rfl (.tmp 83) (.tmp 85) 87 rfl 0 3 i0 (I 0) 1 8 Try.underlying87 hi hz0 hz1 hz2 rfl (by decide) (.slice an (bitsL v k).length cn) _ _ rfl (World.ownsRow.alloc HOwn _) ⟨w1.heap.size, 0, none⟩ 1 1 [I (k : Int)] rfl rfl (cell_one_new _ _ _) (by intro u hu; simp at hu; subst hu; rfl) (by decide) (by unfold maxLen; omega) (by omega) (Nat.zero_le _) (w1.heap.size + 1) (World.size_alloc _ _) ?_); intro g1 cap1 w3 hown hgrow hat hlt3; go_loud (rw [own_slice] at hgrow hat))
          obtain ⟨O4, B4⟩ := hO.push (c := k) br.size hown hgrow hat
          have e8 : bitsL v (k + 1) = bitsL v k ++ [k] := bitsL_in ((HV.out k hlt).trans hf)
          have hl8 : (bitsL v (k + 1)).length = (bitsL v k).length + 1 := by rw [e8, List.length_append]; rfl
          go_roundw
          case rel => exact ⟨k + 1, some ⟨g1, 0, none⟩, cap1, by omega, by rw [hl8], by go_num, by rw [e8]; exact O4, br.trans B4⟩
          case measure => simp [intOf]; omega
        | false =>
          rw [hy] at hH2
          have hf : (u.testBit k || u2.testBit k) = false := by rw [hx, hy]; rfl
          go_wp2_with fail
          refine hH1.mono ?_
          rintro e w1 ⟨rfl, rfl⟩
          go_wp2_with fail
          refine hH2.mono ?_
          rintro e w1 ⟨rfl, rfl⟩
          go_wp2
          have e8 : bitsL v (k + 1) = bitsL v k := bitsL_out ((HV.out k hlt).trans hf)
          go_roundw
          case rel => exact ⟨k + 1, an, cn, by omega, by rw [e8], by go_num, by rw [e8]; exact hO, br⟩
          case measure => simp [intOf]; omega
    · obtain rfl : k = 64 := by omega
      obtain ⟨c0, -, -, -⟩ := hr.cells
      have fz := hr.head.frozen 0
      have MM := hr.take hO hv lb
      have UU : Upd [b] w _ := (Upd.of_below br).setCell (p := ⟨b, 0, none⟩) (by simp) (.slice an (bitsL v 64).length cn)
      go_wp2
      go_end0
      exact ⟨rfl, an, cn, MM, .inr hO.fresh, UU⟩
set_option maxRecDepth 100000 in
set_option maxHeartbeats 4000000 in
theorem pick_5 (w : World) (b : Nat) (ad : Option Addr) (cap u : Nat) (a p q : Int) (h : MbR w b ad cap u a p q) (o : Nat) (ad2 : Option Addr) (cap2 u2 : Nat) (a2 p2 q2 : Int) (h2 : MbR w o ad2 cap2 u2 a2 p2 q2) (v : Nat) (hv : v < 18446744073709551616) (hV : ∀ k, k < 64 → v.testBit k = (u.testBit k && u2.testBit k)) :
    Calls Try.prog 85 #[ptr b, I 5, ptr o, I 0] w fun e w' => e = .returned (.tuple #[]) ∧ Mod w b ad v a p q w' := by
  obtain ⟨i0, hi, hz0, hz1, hz2⟩ := info_parts iInfo
  have lb := h.head.lt
  have HV : Hid _ := hV
  have Hh : Hid _ := h
  clear hV
  go_enter Try.func85, Try.ntmps85
  go_wp2
  go_loopw [8, 9] (fun nx i wr => ∃ (k : Nat) (an : Option Addr) (cn : Nat), k ≤ 64 ∧ nx = .slice an (bitsL v k).length cn ∧ i = I k ∧ OwnI w.heap.size wr an cn (bitsL v k) ∧ Below w.heap.size w wr) (fun _ i _ => (64 - intOf i).toNat)
  case atStart => exact ⟨0, none, 0, by omega, rfl, rfl, OwnI.nil _ _, Below.refl _ _⟩
  case round =>
    obtain ⟨k, an, cn, hk, rfl, rfl, hO, br⟩ := hrel
    have hr := h.later br
    have hlen := bitsL_len v k
    clear h
    by_cases hlt : k < 64
    · have q1 : (k : Int) < 64 := by omega
      have HOwn := hO.own
      have hH := fun j => mhas_any wr b ad cap u a p q hr j
      have hH1 := hH (k : Int)
      rw [hasB_nat u k hlt] at hH1
      have hr2 := h2.later br
      have hH2 := mhas_any wr o ad2 cap2 u2 a2 p2 q2 hr2 (k : Int)
      rw [hasB_nat u2 k hlt] at hH2
      cases hx : u.testBit k with
      | true =>
        rw [hx] at hH1
        cases hy : u2.testBit k with
        | true =>
          rw [hy] at hH2
          have hf : (u.testBit k && u2.testBit k) = true := by rw [hx, hy]; rfl
          go_wp2_with fail
          refine hH1.mono ?_
          rintro e w1 ⟨rfl, rfl⟩
          go_wp2_with fail
          refine hH2.mono ?_
          rintro e w1 ⟨rfl, rfl⟩
          go_wp2_with (at_builtin; go_loud (refine wpList_append_lies _ rfl (.tmp 83) (.tmp 85) 87 rfl 0 3 i0 (I 0) 1 8 Try.underlying87 hi hz0 hz1 hz2 rfl (by decide) (.slice an (bitsL v k).length cn) _ _ rfl (World.ownsRow.alloc HOwn _) ⟨w1.heap.size, 0, none⟩ 1 1 [I (k : Int)] rfl rfl (cell_one_new _ _ _) (by intro u hu; simp at hu; subst hu; rfl) (by decide) (by unfold maxLen; omega) (by omega) (Nat.zero_le _) (w1.heap.size + 1) (World.size_alloc _ _) ?_); intro g1 cap1 w3 hown hgrow hat hlt3; go_loud (rw [own_slice] at hgrow hat))
          obtain ⟨O4, B4⟩ := hO.push (c := k) br.size hown hgrow hat
          have e8 : bitsL v (k + 1) = bitsL v k ++ [k] := bitsL_in ((HV.out k hlt).trans hf)
          have hl8 : (bitsL v (k + 1)).length = (bitsL v k).length + 1 := by rw [e8, List.length_append]; rfl
          go_roundw
          case rel => exact ⟨k + 1, some ⟨g1, 0, none⟩, cap1, by omega, by rw [hl8], by go_num, by rw [e8]; exact O4, br.trans B4⟩
          case measure => simp [intOf]; omega
        | false =>
          rw [hy] at hH2
          have hf : (u.testBit k && u2.testBit k) = false := by rw [hx, hy]; rfl
          go_wp2_with fail
          refine hH1.mono ?_
          rintro e w1 ⟨rfl, rfl⟩
          go_wp2_with fail
          refine hH2.mono ?_
          rintro e w1 ⟨rfl, rfl⟩
          go_wp2
          have e8 : bitsL v (k + 1) = bitsL v k := bitsL_out ((HV.out k hlt).trans hf)
          go_roundw
          case rel => exact ⟨k + 1, an, cn, by omega, by rw [e8], by go_num, by rw [e8]; exact hO, br⟩
          case measure => simp [intOf]; omega
      | false =>
        rw [hx] at hH1
        cases hy : u2.testBit k with
        | true =>
          rw [hy] at hH2
          have hf : (u.testBit k && u2.testBit k) = false := by rw [hx, hy]; rfl
          go_wp2_with fail
          refine hH1.mono ?_
          rintro e w1 ⟨rfl, rfl⟩
          go_wp2_with fail
          refine hH2.mono ?_
          rintro e w1 ⟨rfl, rfl⟩
          go_wp2
          have e8 : bitsL v (k + 1) = bitsL v k := bitsL_out ((HV.out k hlt).trans hf)
          go_roundw
          case rel => exact ⟨k + 1, an, cn, by omega, by rw [e8], by go_num, by rw [e8]; exact hO, br⟩
          case measure => simp [intOf]; omega
        | false =>
          rw [hy] at hH2
          have hf : (u.testBit k && u2.testBit k) = false := by rw [hx, hy]; rfl
          go_wp2_with fail
          refine hH1.mono ?_
          rintro e w1 ⟨rfl, rfl⟩
          go_wp2_with fail
          refine hH2.mono ?_
          rintro e w1 ⟨rfl, rfl⟩
          go_wp2
          have e8 : bitsL v (k + 1) = bitsL v k := bitsL_out ((HV.out k hlt).trans hf)
          go_roundw
          case rel => exact ⟨k + 1, an, cn, by omega, by rw [e8], by go_num, by rw [e8]; exact hO, br⟩
          case measure => simp [intOf]; omega
    · obtain rfl : k = 64 := by omega
      obtain ⟨c0, -, -, -⟩ := hr.cells
      have fz := hr.head.frozen 0
      have MM := hr.take hO hv lb
      have UU : Upd [b] w _ := (Upd.of_below br).setCell (p := ⟨b, 0, none⟩) (by simp) (.slice an (bitsL v 64).length cn)
      go_wp2
      go_end0
      exact ⟨rfl, an, cn, MM, .inr hO.fresh, UU⟩
set_option maxRecDepth 100000 in
set_option maxHeartbeats 4000000 in
theorem pick_6 (w : World) (b : Nat) (ad : Option Addr) (cap u : Nat) (a p q : Int) (h : MbR w b ad cap u a p q) (o : Nat) (ad2 : Option Addr) (cap2 u2 : Nat) (a2 p2 q2 : Int) (h2 : MbR w o ad2 cap2 u2 a2 p2 q2) (v : Nat) (hv : v < 18446744073709551616) (hV : ∀ k, k < 64 → v.testBit k = (u.testBit k && !u2.testBit k)) :
    Calls Try.prog 85 #[ptr b, I 6, ptr o, I 0] w fun e w' => e = .returned (.tuple #[]) ∧ Mod w b ad v a p q w' := by
  obtain ⟨i0, hi, hz0, hz1, hz2⟩ := info_parts iInfo
  have lb := h.head.lt
  have HV : Hid _ := hV
  have Hh : Hid _ := h
  clear hV
  go_enter Try.func85, Try.ntmps85
  go_wp2
  go_loopw [8, 9] (fun nx i wr => ∃ (k : Nat) (an : Option Addr) (cn : Nat), k ≤ 64 ∧ nx = .slice an (bitsL v k).length cn ∧ i = I k ∧ OwnI w.heap.size wr an cn (bitsL v k) ∧ Below w.heap.size w wr) (fun _ i _ => (64 - intOf i).toNat)
  case atStart => exact ⟨0, none, 0, by omega, rfl, rfl, OwnI.nil _ _, Below.refl _ _⟩
  case round =>
    obtain ⟨k, an, cn, hk, rfl, rfl, hO, br⟩ := hrel
    have hr := h.later br
    have hlen := bitsL_len v k
    clear h
    by_cases hlt : k < 64
    · have q1 : (k : Int) < 64 := by omega
      have HOwn := hO.own
      have hH := fun j => mhas_any wr b ad cap u a p q hr j
      have hH1 := hH (k : Int)
      rw [hasB_nat u k hlt] at hH1
      have hr2 := h2.later br
      have hH2 := mhas_any wr o ad2 cap2 u2 a2 p2 q2 hr2 (k : Int)
      rw [hasB_nat u2 k hlt] at hH2
      cases hx : u.testBit k with
      | true =>
        rw [hx] at hH1
        cases hy : u2.testBit k with
        | true =>
          rw [hy] at hH2
          have hf : (u.testBit k && !u2.testBit k) = false := by rw [hx, hy]; rfl
          go_wp2_with fail
          refine hH1.mono ?_
          rintro e w1 ⟨rfl, rfl⟩
          go_wp2_with fail
          refine hH2.mono ?_
          rintro e w1 ⟨rfl, rfl⟩
          go_wp2
          have e8 : bitsL v (k + 1) = bitsL v k := bitsL_out ((HV.out k hlt).trans hf)
          go_roundw
          case rel => exact ⟨k + 1, an, cn, by omega, by rw [e8], by go_num, by rw [e8]; exact hO, br⟩
          case measure => simp [intOf]; omega
        | false =>
          rw [hy] at hH2
          have hf : (u.testBit k && !u2.testBit k) = true := by rw [hx, hy]; rfl
          go_wp2_with fail
          refine hH1.mono ?_
          rintro e w1 ⟨rfl, rfl⟩
          go_wp2_with fail
          refine hH2.mono ?_
          rintro e w1 ⟨rfl, rfl⟩
          go_wp2_with (at_builtin; go_loud (refine wpList_append_lies _ rfl (.tmp 83) (.tmp 85) 87 rfl 0 3 i0 (I 0) 1 8 Try.underlying87 hi hz0 hz1 hz2 rfl (by decide) (.slice an (bitsL v k).length cn) _ _ rfl (World.ownsRow.alloc HOwn _) ⟨w1.heap.size, 0, none⟩ 1 1 [I (k : Int)] rfl rfl (cell_one_new _ _ _) (by intro u hu; simp at hu; subst hu; rfl) (by decide) (by unfold maxLen; omega) (by omega) (Nat.zero_le _) (w1.heap.size + 1) (World.size_alloc _ _) ?_); intro g1 cap1 w3 hown hgrow hat hlt3; go_loud (rw [own_slice] at hgrow hat))
          obtain ⟨O4, B4⟩ := hO.push (c := k) br.size hown hgrow hat
          have e8 : bitsL v (k + 1) = bitsL v k ++ [k] := bitsL_in ((HV.out k hlt).trans hf)
          have hl8 : (bitsL v (k + 1)).length = (bitsL v k).length + 1 := by rw [e8, List.length_append]; rfl
          go_roundw
          case rel => exact ⟨k + 1, some ⟨g1, 0, none⟩, cap1, by omega, by rw [hl8], by go_num, by rw [e8]; exact O4, br.trans B4⟩
          case measure => simp [intOf]; omega
      | false =>
        rw [hx] at hH1
        cases hy : u2.testBit k with
        | true =>
          rw [hy] at hH2
          have hf : (u.testBit k && !u2.testBit k) = false := by rw [hx, hy]; rfl
          go_wp2_with fail
          refine hH1.mono ?_
          rintro e w1 ⟨rfl, rfl⟩
          go_wp2_with fail
          refine hH2.mono ?_
          rintro e w1 ⟨rfl, rfl⟩
          go_wp2
          have e8 : bitsL v (k + 1) = bitsL v k := bitsL_out ((HV.out k hlt).trans hf)
          go_roundw
          case rel => exact ⟨k + 1, an, cn, by omega, by rw [e8], by go_num, by rw [e8]; exact hO, br⟩
          case measure => simp [intOf]; omega
        | false =>
          rw [hy] at hH2
          have hf : (u.testBit k && !u2.testBit k) = false := by rw [hx, hy]; rfl
          go_wp2_with fail
          refine hH1.mono ?_
          rintro e w1 ⟨rfl, rfl⟩
          go_wp2_with fail
          refine hH2.mono ?_
          rintro e w1 ⟨rfl, rfl⟩
          go_wp2
          have e8 : bitsL v (k + 1) = bitsL v k := bitsL_out ((HV.out k hlt).trans hf)
          go_roundw
          case rel => exact ⟨k + 1, an, cn, by omega, by rw [e8], by go_num, by rw [e8]; exact hO, br⟩
          case measure => simp [intOf]; omega
    · obtain rfl : k = 64 := by omega
      obtain ⟨c0, -, -, -⟩ := hr.cells
      have fz := hr.head.frozen 0
      have MM := hr.take hO hv lb
      have UU : Upd [b] w _ := (Upd.of_below br).setCell (p := ⟨b, 0, none⟩) (by simp) (.slice an (bitsL v 64).length cn)
      go_wp2
      go_end0
      exact ⟨rfl, an, cn, MM, .inr hO.fresh, UU⟩
set_option maxRecDepth 100000 in
set_option maxHeartbeats 4000000 in
theorem pick_8 (w : World) (b : Nat) (ad : Option Addr) (cap u : Nat) (a p q : Int) (h : MbR w b ad cap u a p q) (pp : Int) (hpp : 0 ≤ pp ∧ pp < 64) (v : Nat) (hv : v < 18446744073709551616) (hV : ∀ k, k < 64 → v.testBit k = (u.testBit ((((k : Int) - pp) % 64).toNat))) :
    Calls Try.prog 85 #[ptr b, I 8, .pointer none, I pp] w fun e w' => e = .returned (.tuple #[]) ∧ Mod w b ad v a p q w' := by
  obtain ⟨i0, hi, hz0, hz1, hz2⟩ := info_parts iInfo
  have lb := h.head.lt
  have HV : Hid _ := hV
  have Hh : Hid _ := h
  clear hV
  go_enter Try.func85, Try.ntmps85
  go_wp2
  go_loopw [8, 9] (fun nx i wr => ∃ (k : Nat) (an : Option Addr) (cn : Nat), k ≤ 64 ∧ nx = .slice an (bitsL v k).length cn ∧ i = I k ∧ OwnI w.heap.size wr an cn (bitsL v k) ∧ Below w.heap.size w wr) (fun _ i _ => (64 - intOf i).toNat)
  case atStart => exact ⟨0, none, 0, by omega, rfl, rfl, OwnI.nil _ _, Below.refl _ _⟩
  case round =>
    obtain ⟨k, an, cn, hk, rfl, rfl, hO, br⟩ := hrel
    have hr := h.later br
    have hlen := bitsL_len v k
    clear h
    by_cases hlt : k < 64
    · have q1 : (k : Int) < 64 := by omega
      have HOwn := hO.own
      have hH := fun j => mhas_any wr b ad cap u a p q hr j
      have hH1 := hH (k : Int)
      rw [hasB_nat u k hlt] at hH1
      have w8 := wr64 ((k : Int) - pp) (by omega) (by omega)
      have hW := wrap_u6 ((k : Int) - pp) wr
      obtain ⟨fr, hfr⟩ : ∃ fr, fr = (((k : Int) - pp) % 64).toNat := ⟨_, rfl⟩
      have hfr64 : fr < 64 := by omega
      rw [show ((k : Int) - pp + 0) % 64 - 0 = (fr : Int) from by omega] at hW
      have hV8 := HV.out k hlt
      rw [← hfr] at hV8
      clear hfr
      cases hx : u.testBit k with
      | true =>
        rw [hx] at hH1
        go_wp2_with fail
        refine hH1.mono ?_
        rintro e w1 ⟨rfl, rfl⟩
        go_wp2_with fail
        refine hW.mono ?_
        rintro e w2 ⟨rfl, b2⟩
        have hr2 := hr.later b2
        have hO2 := hO.later b2
        have br2 := br.trans (b2.mono br.size)
        have HOwn2 := hO2.own
        have hH2 := mhas_any w2 b ad cap u a p q hr2 (fr : Int)
        rw [hasB_nat u fr hfr64, ← hV8] at hH2
        cases hf : v.testBit k with
        | true =>
          rw [hf] at hH2
          go_wp2_with fail
          refine hH2.mono ?_
          rintro e w4 ⟨rfl, rfl⟩
          go_wp2_with (at_builtin; go_loud (refine wpList_append_lies _ rfl (.tmp 83) (.tmp 85) 87 rfl 0 3 i0 (I 0) 1 8 Try.underlying87 hi hz0 hz1 hz2 rfl (by decide) (.slice an (bitsL v k).length cn) _ _ rfl (World.ownsRow.alloc HOwn2 _) ⟨w4.heap.size, 0, none⟩ 1 1 [I (k : Int)] rfl rfl (cell_one_new _ _ _) (by intro u hu; simp at hu; subst hu; rfl) (by decide) (by unfold maxLen; omega) (by omega) (Nat.zero_le _) (w4.heap.size + 1) (World.size_alloc _ _) ?_); intro g1 cap1 w3 hown hgrow hat hlt3; go_loud (rw [own_slice] at hgrow hat))
          obtain ⟨O4, B4⟩ := hO2.push (c := k) br2.size hown hgrow hat
          have e8 : bitsL v (k + 1) = bitsL v k ++ [k] := bitsL_in hf
          have hl8 : (bitsL v (k + 1)).length = (bitsL v k).length + 1 := by rw [e8, List.length_append]; rfl
          go_roundw
          case rel => exact ⟨k + 1, some ⟨g1, 0, none⟩, cap1, by omega, by rw [hl8], by go_num, by rw [e8]; exact O4, br2.trans B4⟩
          case measure => simp [intOf]; omega
        | false =>
          rw [hf] at hH2
          go_wp2_with fail
          refine hH2.mono ?_
          rintro e w4 ⟨rfl, rfl⟩
          go_wp2
          have e8 : bitsL v (k + 1) = bitsL v k := bitsL_out hf
          go_roundw
          case rel => exact ⟨k + 1, an, cn, by omega, by rw [e8], by go_num, by rw [e8]; exact hO2, br2⟩
          case measure => simp [intOf]; omega
      | false =>
        rw [hx] at hH1
        go_wp2_with fail
        refine hH1.mono ?_
        rintro e w1 ⟨rfl, rfl⟩
        go_wp2_with fail
        refine hW.mono ?_
        rintro e w2 ⟨rfl, b2⟩
        have hr2 := hr.later b2
        have hO2 := hO.later b2
        have br2 := br.trans (b2.mono br.size)
        have HOwn2 := hO2.own
        have hH2 := mhas_any w2 b ad cap u a p q hr2 (fr : Int)
        rw [hasB_nat u fr hfr64, ← hV8] at hH2
        cases hf : v.testBit k with
        | true =>
          rw [hf] at hH2
          go_wp2_with fail
          refine hH2.mono ?_
          rintro e w4 ⟨rfl, rfl⟩
          go_wp2_with (at_builtin; go_loud (refine wpList_append_lies _ rfl (.tmp 83) (.tmp 85) 87 rfl 0 3 i0 (I 0) 1 8 Try.underlying87 hi hz0 hz1 hz2 rfl (by decide) (.slice an (bitsL v k).length cn) _ _ rfl (World.ownsRow.alloc HOwn2 _) ⟨w4.heap.size, 0, none⟩ 1 1 [I (k : Int)] rfl rfl (cell_one_new _ _ _) (by intro u hu; simp at hu; subst hu; rfl) (by decide) (by unfold maxLen; omega) (by omega) (Nat.zero_le _) (w4.heap.size + 1) (World.size_alloc _ _) ?_); intro g1 cap1 w3 hown hgrow hat hlt3; go_loud (rw [own_slice] at hgrow hat))
          obtain ⟨O4, B4⟩ := hO2.push (c := k) br2.size hown hgrow hat
          have e8 : bitsL v (k + 1) = bitsL v k ++ [k] := bitsL_in hf
          have hl8 : (bitsL v (k + 1)).length = (bitsL v k).length + 1 := by rw [e8, List.length_append]; rfl
          go_roundw
          case rel => exact ⟨k + 1, some ⟨g1, 0, none⟩, cap1, by omega, by rw [hl8], by go_num, by rw [e8]; exact O4, br2.trans B4⟩
          case measure => simp [intOf]; omega
        | false =>
          rw [hf] at hH2
          go_wp2_with fail
          refine hH2.mono ?_
          rintro e w4 ⟨rfl, rfl⟩
          go_wp2
          have e8 : bitsL v (k + 1) = bitsL v k := bitsL_out hf
          go_roundw
          case rel => exact ⟨k + 1, an, cn, by omega, by rw [e8], by go_num, by rw [e8]; exact hO2, br2⟩
          case measure => simp [intOf]; omega
    · obtain rfl : k = 64 := by omega
      obtain ⟨c0, -, -, -⟩ := hr.cells
      have fz := hr.head.frozen 0
      have MM := hr.take hO hv lb
      have UU : Upd [b] w _ := (Upd.of_below br).setCell (p := ⟨b, 0, none⟩) (by simp) (.slice an (bitsL v 64).length cn)
      go_wp2
      go_end0
      exact ⟨rfl, an, cn, MM, .inr hO.fresh, UU⟩
end Go.Proofs.Qxb6500469a
