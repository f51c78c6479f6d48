import Derived.Test.Qxb6500469aWm2
namespace Go.Proofs.Qxb6500469a
open Go.RowKit

set_option maxRecDepth 100000 in
set_option maxHeartbeats 4000000 in
theorem pick_1 (w : World) (b : Nat) (ad : Option Addr) (cap u : Nat) (a p q : Int) (h : MbR w b ad cap u a p q) (pp : Int) (v : Nat) (hv : v < 18446744073709551616) (hV : ∀ k, k < 64 → v.testBit k = (u.testBit k || decide ((k : Int) = pp))) :
    Calls Try.prog 85 #[ptr b, I 1, .pointer none, I pp] w fun e w' => e = .returned (.tuple #[]) ∧ Mod w b ad v a p q w' := by
  obtain ⟨i0, hi, hz0, hz1, hz2⟩ := info_parts iInfo
  have lb := h.head.lt
  have HV : Hid _ := hV
  have Hh : Hid _ := h
  clear hV
  go_enter Try.func85, Try.ntmps85
  go_wp2
  go_loopw [8, 9] (fun nx i wr => ∃ (k : Nat) (an : Option Addr) (cn : Nat), k ≤ 64 ∧ nx = .slice an (bitsL v k).length cn ∧ i = I k ∧ OwnI w.heap.size wr an cn (bitsL v k) ∧ Below w.heap.size w wr) (fun _ i _ => (64 - intOf i).toNat)
  case atStart => exact ⟨0, none, 0, by omega, rfl, rfl, OwnI.nil _ _, Below.refl _ _⟩
  case round =>
    obtain ⟨k, an, cn, hk, rfl, rfl, hO, br⟩ := hrel
    have hr := h.later br
    have hlen := bitsL_len v k
    clear h
    by_cases hlt : k < 64
    · have q1 : (k : Int) < 64 := by omega
      have HOwn := hO.own
      have hH := fun j => mhas_any wr b ad cap u a p q hr j
      have hH1 := hH (k : Int)
      rw [hasB_nat u k hlt] at hH1
      cases hx : u.testBit k with
      | true =>
        rw [hx] at hH1
        by_cases hkp : (k : Int) = pp
        · have e1 : ((k : Int) == pp) = true := by simpa using hkp
          have e1' : ((k : Int) != pp) = false := by simp [hkp]
          have ed : decide ((k : Int) = pp) = true := decide_eq_true hkp
          have hf : (u.testBit k || decide ((k : Int) = pp)) = true := by rw [hx, ed]; rfl
          clear hkp ed
          go_wp2_with fail
          refine hH1.mono ?_
          rintro e w1 ⟨rfl, rfl⟩
          go_wp2_with (at_builtin; go_loud (refine wpList_append_lies _ rfl (.tmp 83) (.tmp 85) 87 rfl 0 3 i0 (I 0) 1 8 Try.underlying87 hi hz0 hz1 hz2 rfl (by decide) (.slice an (bitsL v k).length cn) _ _ rfl (World.ownsRow.alloc HOwn _) ⟨w1.heap.size, 0, none⟩ 1 1 [I (k : Int)] rfl rfl (cell_one_new _ _ _) (by intro u hu; simp at hu; subst hu; rfl) (by decide) (by unfold maxLen; omega) (by omega) (Nat.zero_le _) (w1.heap.size + 1) (World.size_alloc _ _) ?_); intro g1 cap1 w3 hown hgrow hat hlt3; go_loud (rw [own_slice] at hgrow hat))
          obtain ⟨O4, B4⟩ := hO.push (c := k) br.size hown hgrow hat
          have e8 : bitsL v (k + 1) = bitsL v k ++ [k] := bitsL_in ((HV.out k hlt).trans hf)
          have hl8 : (bitsL v (k + 1)).length = (bitsL v k).length + 1 := by rw [e8, List.length_append]; rfl
          go_roundw
          case rel => exact ⟨k + 1, some ⟨g1, 0, none⟩, cap1, by omega, by rw [hl8], by go_num, by rw [e8]; exact O4, br.trans B4⟩
          case measure => simp [intOf]; omega
        · have e1 : ((k : Int) == pp) = false := by simpa using hkp
          have e1' : ((k : Int) != pp) = true := by simpa using hkp
          have ed : decide ((k : Int) = pp) = false := decide_eq_false hkp
          have hf : (u.testBit k || decide ((k : Int) = pp)) = true := by rw [hx, ed]; rfl
          clear hkp ed
          go_wp2_with fail
          refine hH1.mono ?_
          rintro e w1 ⟨rfl, rfl⟩
          go_wp2_with (at_builtin; go_loud (refine wpList_append_lies _ rfl (.tmp 83) (.tmp 85) 87 rfl 0 3 i0 (I 0) 1 8 Try.underlying87 hi hz0 hz1 hz2 rfl (by decide) (.slice an (bitsL v k).length cn) _ _ rfl (World.ownsRow.alloc HOwn _) ⟨w1.heap.size, 0, none⟩ 1 1 [I (k : Int)] rfl rfl (cell_one_new _ _ _) (by intro u hu; simp at hu; subst hu; rfl) (by decide) (by unfold maxLen; omega) (by omega) (Nat.zero_le _) (w1.heap.size + 1) (World.size_alloc _ _) ?_); intro g1 cap1 w3 hown hgrow hat hlt3; go_loud (rw [own_slice] at hgrow hat))
          obtain ⟨O4, B4⟩ := hO.push (c := k) br.size hown hgrow hat
          have e8 : bitsL v (k + 1) = bitsL v k ++ [k] := bitsL_in ((HV.out k hlt).trans hf)
          have hl8 : (bitsL v (k + 1)).length = (bitsL v k).length + 1 := by rw [e8, List.length_append]; rfl
          go_roundw
          case rel => exact ⟨k + 1, some ⟨g1, 0, none⟩, cap1, by omega, by rw [hl8], by go_num, by rw [e8]; exact O4, br.trans B4⟩
          case measure => simp [intOf]; omega
      | false =>
        rw [hx] at hH1
        by_cases hkp : (k : Int) = pp
        · have e1 : ((k : Int) == pp) = true := by simpa using hkp
          have e1' : ((k : Int) != pp) = false := by simp [hkp]
          have ed : decide ((k : Int) = pp) = true := decide_eq_true hkp
          have hf : (u.testBit k || decide ((k : Int) = pp)) = true := by rw [hx, ed]; rfl
          clear hkp ed
          go_wp2_with fail
          refine hH1.mono ?_
          rintro e w1 ⟨rfl, rfl⟩
          go_wp2_with (at_builtin; go_loud (refine wpList_append_lies _ rfl (.tmp 83) (.tmp 85) 87 rfl 0 3 i0 (I 0) 1 8 Try.underlying87 hi hz0 hz1 hz2 rfl (by decide) (.slice an (bitsL v k).length cn) _ _ rfl (World.ownsRow.alloc HOwn _) ⟨w1.heap.size, 0, none⟩ 1 1 [I (k : Int)] rfl rfl (cell_one_new _ _ _) (by intro u hu; simp at hu; subst hu; rfl) (by decide) (by unfold maxLen; omega) (by omega) (Nat.zero_le _) (w1.heap.size + 1) (World.size_alloc _ _) ?_); intro g1 cap1 w3 hown hgrow hat hlt3; go_loud (rw [own_slice] at hgrow hat))
          obtain ⟨O4, B4⟩ := hO.push (c := k) br.size hown hgrow hat
          have e8 : bitsL v (k + 1) = bitsL v k ++ [k] := bitsL_in ((HV.out k hlt).trans hf)
          have hl8 : (bitsL v (k + 1)).length = (bitsL v k).length + 1 := by rw [e8, List.length_append]; rfl
          go_roundw
          case rel => exact ⟨k + 1, some ⟨g1, 0, none⟩, cap1, by omega, by rw [hl8], by go_num, by rw [e8]; exact O4, br.trans B4⟩
          case measure => simp [intOf]; omega
        · have e1 : ((k : Int) == pp) = false := by simpa using hkp
          have e1' : ((k : Int) != pp) = true := by simpa using hkp
          have ed : decide ((k : Int) = pp) = false := decide_eq_false hkp
          have hf : (u.testBit k || decide ((k : Int) = pp)) = false := by rw [hx, ed]; rfl
          clear hkp ed
          go_wp2_with fail
          refine hH1.mono ?_
          rintro e w1 ⟨rfl, rfl⟩
          go_wp2
          have e8 : bitsL v (k + 1) = bitsL v k := bitsL_out ((HV.out k hlt).trans hf)
          go_roundw
          case rel => exact ⟨k + 1, an, cn, by omega, by rw [e8], by go_num, by rw [e8]; exact hO, br⟩
          case measure => simp [intOf]; omega
    · obtain rfl : k = 64 := by omega
      obtain ⟨c0, -, -, -⟩ := hr.cells
      have fz := hr.head.frozen 0
      have MM := hr.take hO hv lb
      have UU : Upd [b] w _ := (Upd.of_below br).setCell (p := ⟨b, 0, none⟩) (by simp) (.slice an (bitsL v 64).length cn)
      go_wp2
      go_end0
      exact ⟨rfl, an, cn, MM, .inr hO.fresh, UU⟩
set_option maxRecDepth 100000 in
set_option maxHeartbeats 4000000 in
theorem pick_2 (w : World) (b : Nat) (ad : Option Addr) (cap u : Nat) (a p q : Int) (h : MbR w b ad cap u a p q) (pp : Int) (v : Nat) (hv : v < 18446744073709551616) (hV : ∀ k, k < 64 → v.testBit k = (u.testBit k && !decide ((k : Int) = pp))) :
    Calls Try.prog 85 #[ptr b, I 2, .pointer none, I pp] w fun e w' => e = .returned (.tuple #[]) ∧ Mod w b ad v a p q w' := by
  obtain ⟨i0, hi, hz0, hz1, hz2⟩ := info_parts iInfo
  have lb := h.head.lt
  have HV : Hid _ := hV
  have Hh : Hid _ := h
  clear hV
  go_enter Try.func85, Try.ntmps85
  go_wp2
  go_loopw [8, 9] (fun nx i wr => ∃ (k : Nat) (an : Option Addr) (cn : Nat), k ≤ 64 ∧ nx = .slice an (bitsL v k).length cn ∧ i = I k ∧ OwnI w.heap.size wr an cn (bitsL v k) ∧ Below w.heap.size w wr) (fun _ i _ => (64 - intOf i).toNat)
  case atStart => exact ⟨0, none, 0, by omega, rfl, rfl, OwnI.nil _ _, Below.refl _ _⟩
  case round =>
    obtain ⟨k, an, cn, hk, rfl, rfl, hO, br⟩ := hrel
    have hr := h.later br
    have hlen := bitsL_len v k
    clear h
    by_cases hlt : k < 64
    · have q1 : (k : Int) < 64 := by omega
      have HOwn := hO.own
      have hH := fun j => mhas_any wr b ad cap u a p q hr j
      have hH1 := hH (k : Int)
      rw [hasB_nat u k hlt] at hH1
      cases hx : u.testBit k with
      | true =>
        rw [hx] at hH1
        by_cases hkp : (k : Int) = pp
        · have e1 : ((k : Int) == pp) = true := by simpa using hkp
          have e1' : ((k : Int) != pp) = false := by simp [hkp]
          have ed : decide ((k : Int) = pp) = true := decide_eq_true hkp
          have hf : (u.testBit k && !decide ((k : Int) = pp)) = false := by rw [hx, ed]; rfl
          clear hkp ed
          go_wp2_with fail
          refine hH1.mono ?_
          rintro e w1 ⟨rfl, rfl⟩
          go_wp2
          have e8 : bitsL v (k + 1) = bitsL v k := bitsL_out ((HV.out k hlt).trans hf)
          go_roundw
          case rel => exact ⟨k + 1, an, cn, by omega, by rw [e8], by go_num, by rw [e8]; exact hO, br⟩
          case measure => simp [intOf]; omega
        · have e1 : ((k : Int) == pp) = false := by simpa using hkp
          have e1' : ((k : Int) != pp) = true := by simpa using hkp
          have ed : decide ((k : Int) = pp) = false := decide_eq_false hkp
          have hf : (u.testBit k && !decide ((k : Int) = pp)) = true := by rw [hx, ed]; rfl
          clear hkp ed
          go_wp2_with fail
          refine hH1.mono ?_
          rintro e w1 ⟨rfl, rfl⟩
          go_wp2_with (at_builtin; go_loud (refine wpList_append_lies _ rfl (.tmp 83) (.tmp 85) 87 rfl 0 3 i0 (I 0) 1 8 Try.underlying87 hi hz0 hz1 hz2 rfl (by decide) (.slice an (bitsL v k).length cn) _ _ rfl (World.ownsRow.alloc HOwn _) ⟨w1.heap.size, 0, none⟩ 1 1 [I (k : Int)] rfl rfl (cell_one_new _ _ _) (by intro u hu; simp at hu; subst hu; rfl) (by decide) (by unfold maxLen; omega) (by omega) (Nat.zero_le _) (w1.heap.size + 1) (World.size_alloc _ _) ?_); intro g1 cap1 w3 hown hgrow hat hlt3; go_loud (rw [own_slice] at hgrow hat))
          obtain ⟨O4, B4⟩ := hO.push (c := k) br.size hown hgrow hat
          have e8 : bitsL v (k + 1) = bitsL v k ++ [k] := bitsL_in ((HV.out k hlt).trans hf)
          have hl8 : (bitsL v (k + 1)).length = (bitsL v k).length + 1 := by rw [e8, List.length_append]; rfl
          go_roundw
          case rel => exact ⟨k + 1, some ⟨g1, 0, none⟩, cap1, by omega, by rw [hl8], by go_num, by rw [e8]; exact O4, br.trans B4⟩
          case measure => simp [intOf]; omega
      | false =>
        rw [hx] at hH1
        by_cases hkp : (k : Int) = pp
        · have e1 : ((k : Int) == pp) = true := by simpa using hkp
          have e1' : ((k : Int) != pp) = false := by simp [hkp]
          have ed : decide ((k : Int) = pp) = true := decide_eq_true hkp
          have hf : (u.testBit k && !decide ((k : Int) = pp)) = false := by rw [hx, ed]; rfl
          clear hkp ed
          go_wp2_with fail
          refine hH1.mono ?_
          rintro e w1 ⟨rfl, rfl⟩
          go_wp2
          have e8 : bitsL v (k + 1) = bitsL v k := bitsL_out ((HV.out k hlt).trans hf)
          go_roundw
          case rel => exact ⟨k + 1, an, cn, by omega, by rw [e8], by go_num, by rw [e8]; exact hO, br⟩
          case measure => simp [intOf]; omega
        · have e1 : ((k : Int) == pp) = false := by simpa using hkp
          have e1' : ((k : Int) != pp) = true := by simpa using hkp
          have ed : decide ((k : Int) = pp) = false := decide_eq_false hkp
          have hf : (u.testBit k && !decide ((k : Int) = pp)) = false := by rw [hx, ed]; rfl
          clear hkp ed
          go_wp2_with fail
          refine hH1.mono ?_
          rintro e w1 ⟨rfl, rfl⟩
          go_wp2
          have e8 : bitsL v (k + 1) = bitsL v k := bitsL_out ((HV.out k hlt).trans hf)
          go_roundw
          case rel => exact ⟨k + 1, an, cn, by omega, by rw [e8], by go_num, by rw [e8]; exact hO, br⟩
          case measure => simp [intOf]; omega
    · obtain rfl : k = 64 := by omega
      obtain ⟨c0, -, -, -⟩ := hr.cells
      have fz := hr.head.frozen 0
      have MM := hr.take hO hv lb
      have UU : Upd [b] w _ := (Upd.of_below br).setCell (p := ⟨b, 0, none⟩) (by simp) (.slice an (bitsL v 64).length cn)
      go_wp2
      go_end0
      exact ⟨rfl, an, cn, MM, .inr hO.fresh, UU⟩
set_option maxRecDepth 100000 in
set_option maxHeartbeats 4000000 in
theorem pick_3 (w : World) (b : Nat) (ad : Option Addr) (cap u : Nat) (a p q : Int) (h : MbR w b ad cap u a p q) (pp : Int) (v : Nat) (hv : v < 18446744073709551616) (hV : ∀ k, k < 64 → v.testBit k = (u.testBit k != decide ((k : Int) = pp))) :
    Calls Try.prog 85 #[ptr b, I 3, .pointer none, I pp] w fun e w' => e = .returned (.tuple #[]) ∧ Mod w b ad v a p q w' := by
  obtain ⟨i0, hi, hz0, hz1, hz2⟩ := info_parts iInfo
  have lb := h.head.lt
  have HV : Hid _ := hV
  have Hh : Hid _ := h
  clear hV
  go_enter Try.func85, Try.ntmps85
  go_wp2
  go_loopw [8, 9] (fun nx i wr => ∃ (k : Nat) (an : Option Addr) (cn : Nat), k ≤ 64 ∧ nx = .slice an (bitsL v k).length cn ∧ i = I k ∧ OwnI w.heap.size wr an cn (bitsL v k) ∧ Below w.heap.size w wr) (fun _ i _ => (64 - intOf i).toNat)
  case atStart => exact ⟨0, none, 0, by omega, rfl, rfl, OwnI.nil _ _, Below.refl _ _⟩
  case round =>
    obtain ⟨k, an, cn, hk, rfl, rfl, hO, br⟩ := hrel
    have hr := h.later br
    have hlen := bitsL_len v k
    clear h
    by_cases hlt : k < 64
    · have q1 : (k : Int) < 64 := by omega
      have HOwn := hO.own
      have hH := fun j => mhas_any wr b ad cap u a p q hr j
      have hH1 := hH (k : Int)
      rw [hasB_nat u k hlt] at hH1
      cases hx : u.testBit k with
      | true =>
        rw [hx] at hH1
        by_cases hkp : (k : Int) = pp
        · have e1 : ((k : Int) == pp) = true := by simpa using hkp
          have e1' : ((k : Int) != pp) = false := by simp [hkp]
          have ed : decide ((k : Int) = pp) = true := decide_eq_true hkp
          have hf : (u.testBit k != decide ((k : Int) = pp)) = false := by rw [hx, ed]; rfl
          clear hkp ed
          go_wp2_with fail
          refine hH1.mono ?_
          rintro e w1 ⟨rfl, rfl⟩
          go_wp2
          have e8 : bitsL v (k + 1) = bitsL v k := bitsL_out ((HV.out k hlt).trans hf)
          go_roundw
          case rel => exact ⟨k + 1, an, cn, by omega, by rw [e8], by go_num, by rw [e8]; exact hO, br⟩
          case measure => simp [intOf]; omega
        · have e1 : ((k : Int) == pp) = false := by simpa using hkp
          have e1' : ((k : Int) != pp) = true := by simpa using hkp
          have ed : decide ((k : Int) = pp) = false := decide_eq_false hkp
          have hf : (u.testBit k != decide ((k : Int) = pp)) = true := by rw [hx, ed]; rfl
          clear hkp ed
          go_wp2_with fail
          refine hH1.mono ?_
          rintro e w1 ⟨rfl, rfl⟩
          go_wp2_with (at_builtin; go_loud (refine wpList_append_lies _ rfl (.tmp 83) (.tmp 85) 87 rfl 0 3 i0 (I 0) 1 8 Try.underlying87 hi hz0 hz1 hz2 rfl (by decide) (.slice an (bitsL v k).length cn) _ _ rfl (World.ownsRow.alloc HOwn _) ⟨w1.heap.size, 0, none⟩ 1 1 [I (k : Int)] rfl rfl (cell_one_new _ _ _) (by intro u hu; simp at hu; subst hu; rfl) (by decide) (by unfold maxLen; omega) (by omega) (Nat.zero_le _) (w1.heap.size + 1) (World.size_alloc _ _) ?_); intro g1 cap1 w3 hown hgrow hat hlt3; go_loud (rw [own_slice] at hgrow hat))
          obtain ⟨O4, B4⟩ := hO.push (c := k) br.size hown hgrow hat
          have e8 : bitsL v (k + 1) = bitsL v k ++ [k] := bitsL_in ((HV.out k hlt).trans hf)
          have hl8 : (bitsL v (k + 1)).length = (bitsL v k).length + 1 := by rw [e8, List.length_append]; rfl
          go_roundw
          case rel => exact ⟨k + 1, some ⟨g1, 0, none⟩, cap1, by omega, by rw [hl8], by go_num, by rw [e8]; exact O4, br.trans B4⟩
          case measure => simp [intOf]; omega
      | false =>
        rw [hx] at hH1
        by_cases hkp : (k : Int) = pp
        · have e1 : ((k : Int) == pp) = true := by simpa using hkp
          have e1' : ((k : Int) != pp) = false := by simp [hkp]
          have ed : decide ((k : Int) = pp) = true := decide_eq_true hkp
          have hf : (u.testBit k != decide ((k : Int) = pp)) = true := by rw [hx, ed]; rfl
          clear hkp ed
          go_wp2_with fail
          refine hH1.mono ?_
          rintro e w1 ⟨rfl, rfl⟩
          go_wp2_with (at_builtin; go_loud (refine wpList_append_lies _ rfl (.tmp 83) (.tmp 85) 87 rfl 0 3 i0 (I 0) 1 8 Try.underlying87 hi hz0 hz1 hz2 rfl (by decide) (.slice an (bitsL v k).length cn) _ _ rfl (World.ownsRow.alloc HOwn _) ⟨w1.heap.size, 0, none⟩ 1 1 [I (k : Int)] rfl rfl (cell_one_new _ _ _) (by intro u hu; simp at hu; subst hu; rfl) (by decide) (by unfold maxLen; omega) (by omega) (Nat.zero_le _) (w1.heap.size + 1) (World.size_alloc _ _) ?_); intro g1 cap1 w3 hown hgrow hat hlt3; go_loud (rw [own_slice] at hgrow hat))
          obtain ⟨O4, B4⟩ := hO.push (c := k) br.size hown hgrow hat
          have e8 : bitsL v (k + 1) = bitsL v k ++ [k] := bitsL_in ((HV.out k hlt).trans hf)
          have hl8 : (bitsL v (k + 1)).length = (bitsL v k).length + 1 := by rw [e8, List.length_append]; rfl
          go_roundw
          case rel => exact ⟨k + 1, some ⟨g1, 0, none⟩, cap1, by omega, by rw [hl8], by go_num, by rw [e8]; exact O4, br.trans B4⟩
          case measure => simp [intOf]; omega
        · have e1 : ((k : Int) == pp) = false := by simpa using hkp
          have e1' : ((k : Int) != pp) = true := by simpa using hkp
          have ed : decide ((k : Int) = pp) = false := decide_eq_false hkp
          have hf : (u.testBit k != decide ((k : Int) = pp)) = false := by rw [hx, ed]; rfl
          clear hkp ed
          go_wp2_with fail
          refine hH1.mono ?_
          rintro e w1 ⟨rfl, rfl⟩
          go_wp2
          have e8 : bitsL v (k + 1) = bitsL v k := bitsL_out ((HV.out k hlt).trans hf)
          go_roundw
          case rel => exact ⟨k + 1, an, cn, by omega, by rw [e8], by go_num, by rw [e8]; exact hO, br⟩
          case measure => simp [intOf]; omega
    · obtain rfl : k = 64 := by omega
      obtain ⟨c0, -, -, -⟩ := hr.cells
      have fz := hr.head.frozen 0
      have MM := hr.take hO hv lb
      have UU : Upd [b] w _ := (Upd.of_below br).setCell (p := ⟨b, 0, none⟩) (by simp) (.slice an (bitsL v 64).length cn)
      go_wp2
      go_end0
      exact ⟨rfl, an, cn, MM, .inr hO.fresh, UU⟩
set_option maxRecDepth 100000 in
set_option maxHeartbeats 4000000 in
theorem pick_7 (w : World) (b : Nat) (ad : Option Addr) (cap u : Nat) (a p q : Int) (h : MbR w b ad cap u a p q) (v : Nat) (hv : v < 18446744073709551616) (hV : ∀ k, k < 64 → v.testBit k = (!u.testBit k)) :
    Calls Try.prog 85 #[ptr b, I 7, .pointer none, I 0] w fun e w' => e = .returned (.tuple #[]) ∧ Mod w b ad v a p q w' := by
  obtain ⟨i0, hi, hz0, hz1, hz2⟩ := info_parts iInfo
  have lb := h.head.lt
  have HV : Hid _ := hV
  have Hh : Hid _ := h
  clear hV
  go_enter Try.func85, Try.ntmps85
  go_wp2
  go_loopw [8, 9] (fun nx i wr => ∃ (k : Nat) (an : Option Addr) (cn : Nat), k ≤ 64 ∧ nx = .slice an (bitsL v k).length cn ∧ i = I k ∧ OwnI w.heap.size wr an cn (bitsL v k) ∧ Below w.heap.size w wr) (fun _ i _ => (64 - intOf i).toNat)
  case atStart => exact ⟨0, none, 0, by omega, rfl, rfl, OwnI.nil _ _, Below.refl _ _⟩
  case round =>
    obtain ⟨k, an, cn, hk, rfl, rfl, hO, br⟩ := hrel
    have hr := h.later br
    have hlen := bitsL_len v k
    clear h
    by_cases hlt : k < 64
    · have q1 : (k : Int) < 64 := by omega
      have HOwn := hO.own
      have hH := fun j => mhas_any wr b ad cap u a p q hr j
      have hH1 := hH (k : Int)
      rw [hasB_nat u k hlt] at hH1
      cases hx : u.testBit k with
      | true =>
        rw [hx] at hH1
        have hf : (!u.testBit k) = false := by rw [hx]; rfl
        go_wp2_with fail
        refine hH1.mono ?_
        rintro e w1 ⟨rfl, rfl⟩
        go_wp2
        have e8 : bitsL v (k + 1) = bitsL v k := bitsL_out ((HV.out k hlt).trans hf)
        go_roundw
        case rel => exact ⟨k + 1, an, cn, by omega, by rw [e8], by go_num, by rw [e8]; exact hO, br⟩
        case measure => simp [intOf]; omega
      | false =>
        rw [hx] at hH1
        have hf : (!u.testBit k) = true := by rw [hx]; rfl
        go_wp2_with fail
        refine hH1.mono ?_
        rintro e w1 ⟨rfl, rfl⟩
        go_wp2_with (at_builtin; go_loud (refine wpList_append_lies _ rfl (.tmp 83) (.tmp 85) 87 rfl 0 3 i0 (I 0) 1 8 Try.underlying87 hi hz0 hz1 hz2 rfl (by decide) (.slice an (bitsL v k).length cn) _ _ rfl (World.ownsRow.alloc HOwn _) ⟨w1.heap.size, 0, none⟩ 1 1 [I (k : Int)] rfl rfl (cell_one_new _ _ _) (by intro u hu; simp at hu; subst hu; rfl) (by decide) (by unfold maxLen; omega) (by omega) (Nat.zero_le _) (w1.heap.size + 1) (World.size_alloc _ _) ?_); intro g1 cap1 w3 hown hgrow hat hlt3; go_loud (rw [own_slice] at hgrow hat))
        obtain ⟨O4, B4⟩ := hO.push (c := k) br.size hown hgrow hat
        have e8 : bitsL v (k + 1) = bitsL v k ++ [k] := bitsL_in ((HV.out k hlt).trans hf)
        have hl8 : (bitsL v (k + 1)).length = (bitsL v k).length + 1 := by rw [e8, List.length_append]; rfl
        go_roundw
        case rel => exact ⟨k + 1, some ⟨g1, 0, none⟩, cap1, by omega, by rw [hl8], by go_num, by rw [e8]; exact O4, br.trans B4⟩
        case measure => simp [intOf]; omega
    · obtain rfl : k = 64 := by omega
      obtain ⟨c0, -, -, -⟩ := hr.cells
      have fz := hr.head.frozen 0
      have MM := hr.take hO hv lb
      have UU : Upd [b] w _ := (Upd.of_below br).setCell (p := ⟨b, 0, none⟩) (by simp) (.slice an (bitsL v 64).length cn)
      go_wp2
      go_end0
      exact ⟨rfl, an, cn, MM, .inr hO.fresh, UU⟩
end Go.Proofs.Qxb6500469a
