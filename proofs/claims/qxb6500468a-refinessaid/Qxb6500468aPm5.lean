import Derived.Test.Qxb6500468aPm4
namespace Go.Proofs.Qxb6500468a
open Go.RowKit
/-- The divisor behind j rounds. -/
def kT : List Nat := [281474976710656, 1099511627776, 4294967296, 16777216, 65536, 256, 1, 0]

set_option maxRecDepth 100000 in
set_option maxHeartbeats 4000000 in
theorem mexp_any (w : World) (g : Nat) (us : List Bool) (hs : List Int) (h : MoR w g us hs) (u : Nat) (ws : List Nat) (ht : Tells u ws us hs) (hws : ∀ i, ws.getD i 0 < 72057594037927936) : Calls Try.prog 68 #[ptr g] w fun e w' => e = .returned (S (expB u ws 8)) ∧ Below w.heap.size w w' := by
  obtain ⟨i0, hi, hz0, hz1, hz2⟩ := info_parts bInfo
  have lg := h.head.lt
  go_enter Try.func68, Try.ntmps68
  go_wp2
  go_loopw [3, 4] (fun b i wr => ∃ (k : Nat) (a : Option Addr) (cap : Nat), k ≤ 8 ∧ b = .slice a (expB u ws k).length cap ∧ i = I k ∧ OwnB w.heap.size wr a cap (expB u ws k) ∧ Below w.heap.size w wr) (fun _ i _ => (8 - intOf i).toNat)
  case atStart => exact ⟨0, none, 0, by omega, rfl, rfl, OwnB.nil _ _, Below.refl _ _⟩
  case round =>
    obtain ⟨k, a, cap, hk, rfl, rfl, hO, br⟩ := hrel
    have hr := h.upd (Upd.of_below (bs := []) br) (by simp)
    have hlen := expB_len u ws k
    by_cases hlt : k < 8
    · have q1 : (k : Int) < 8 := by omega
      have c0 := hr.used ht k hlt
      have hn56 := hws k
      have hstep : expB u ws (k + 1) = if u.testBit k then expB u ws k ++ recB k (ws.getD k 0) else expB u ws k := rfl
      cases hb : u.testBit k with
      | false =>
        rw [hb, if_neg (by simp)] at hstep
        rw [hb] at c0
        have HS : Hid _ := hstep
        clear hstep
        go_wp2
        go_roundw
        case rel => exact ⟨k + 1, a, cap, by omega, by rw [HS.out], by go_num, by rw [HS.out]; exact hO, br⟩
        case measure => simp [intOf]; omega
      | true =>
        obtain ⟨o0, o1, o2, o3, o4⟩ := hr.hdr ht k hlt hb
        rw [hb, if_pos rfl] at hstep
        rw [hb] at c0
        have HS : Hid _ := hstep
        clear hstep
        have hpk := pack_un (ws.getD k 0) hn56
        generalize ws.getD k 0 = n at *
        generalize hxs : expB u ws k = xs at *
        have hPC := fun W => mpack_any (unK n) (unD n) (unL n) (unF n) (unS n) (un_good n) W
        rw [hpk] at hPC
        go_wp2_with fail
        refine (hPC wr).mono ?_
        rintro e w2 ⟨rfl, d2⟩
        have hO2 := hO.later d2
        have br2 := br.trans (d2.mono br.size)
        have HOwn := hO2.own
        clear c0 o0 o1 o2 o3 o4 hO hpk hPC
        go_wp2_with (at_builtin; go_loud (refine wpList_append_lies _ rfl (.tmp 24) (.tmp 27) 61 rfl 0 5 i0 (B8 0) 1 1 Try.underlying61 hi hz0 hz1 hz2 rfl (by decide) (.slice a xs.length cap) _ _ rfl (World.ownsRow.alloc HOwn _) ⟨w2.heap.size, 0, none⟩ 1 1 [.int .u8 _] rfl rfl (cell_one_new _ _ _) (by intro u hu; simp at hu; subst hu; rfl) (by decide) (by unfold maxLen; omega) (by omega) (Nat.zero_le _) (w2.heap.size + 1) (World.size_alloc _ _) ?_); intro g1 cap1 w3 hown hgrow hat hlt3; go_loud (rw [own_slice] at hgrow hat))
        obtain ⟨O3, B3⟩ := hO2.push (c := k) br2.size (by omega) rfl hown hgrow hat
        have br3 := br2.trans B3
        have e0 : xs ++ [UInt8.ofNat k] = xs ++ (recB k n).take 1 := rfl
        rw [e0] at O3
        have hl1 : (xs ++ (recB k n).take 1).length = xs.length + 1 := by rw [List.length_append]; rfl
        clear hown hgrow hat hO2 B3 br2 HOwn e0 d2
        go_loopw [3, 6] (fun b i wr' => ∃ (j : Nat) (a' : Option Addr) (cap' : Nat), j ≤ 7 ∧ b = .slice a' (xs ++ (recB k n).take (1 + j)).length cap' ∧ i = W64 (kT.getD j 0) ∧ OwnB w.heap.size wr' a' cap' (xs ++ (recB k n).take (1 + j)) ∧ Below w.heap.size w wr') (fun _ i _ => (intOf i).toNat)
        case atStart => exact ⟨0, some ⟨g1, 0, none⟩, cap1, by omega, by rw [show 1 + 0 = 1 from rfl, hl1], rfl, O3, br3⟩
        case round =>
          clear O3 br3
          obtain ⟨j, a', cap', hj, rfl, rfl, hOj, brj⟩ := hrel
          have HOj := hOj
          have hjj : j = 0 ∨ j = 1 ∨ j = 2 ∨ j = 3 ∨ j = 4 ∨ j = 5 ∨ j = 6 ∨ j = 7 := by omega
          clear hj
          rcases hjj with rfl | rfl | rfl | rfl | rfl | rfl | rfl | rfl
          · obtain ⟨ys, hys⟩ : ∃ ys, ys = xs ++ (recB k n).take (1 + 0) := ⟨_, rfl⟩
            have hyl : ys.length ≤ 8 * k + 8 := by rw [hys, List.length_append]; have : ((recB k n).take (1 + 0)).length = 1 := rfl; omega
            have hy2 : ys ++ [UInt8.ofNat (n / 281474976710656 % 256)] = xs ++ (recB k n).take (1 + 1) := by rw [hys, List.append_assoc]; rfl
            rw [← hys] at hOj ⊢
            rw [show kT.getD 0 0 = 281474976710656 from rfl]
            have t1 : (n : Int).tdiv 281474976710656 = ((n / 281474976710656 : Nat) : Int) := by rw [Int.tdiv_eq_ediv_of_nonneg (by omega)]; omega
            have t2 : ((n / 281474976710656 : Nat) : Int).tmod 256 = ((n / 281474976710656 % 256 : Nat) : Int) := by rw [Int.tmod_eq_emod_of_nonneg (by omega)]; omega
            have t3 : IntKind.u64.wrap ((n / 281474976710656 : Nat) : Int) = ((n / 281474976710656 : Nat) : Int) := by rw [IntKind.wrap_u64]; omega
            have t4 : IntKind.u8.wrap ((n / 281474976710656 % 256 : Nat) : Int) = ((n / 281474976710656 % 256 : Nat) : Int) := by rw [IntKind.wrap_u8]; omega
            generalize hq1 : n / 281474976710656 % 256 = c1 at *
            generalize hq0 : n / 281474976710656 = c0 at *
            have hc1 : c1 < 256 := by omega
            have HQ : Hid (_ ∧ _) := And.intro hq0 hq1
            clear hq0 hq1
            have HOwn := hOj.own
            have HY2 : Hid _ := hy2
            clear hys hy2 HOj
            go_wp2_with (at_builtin; go_loud (refine wpList_append_lies _ rfl (.tmp 33) (.tmp 39) 61 rfl 0 5 i0 (B8 0) 1 1 Try.underlying61 hi hz0 hz1 hz2 rfl (by decide) (.slice a' ys.length cap') _ _ rfl (World.ownsRow.alloc HOwn _) ⟨wr.heap.size, 0, none⟩ 1 1 [.int .u8 _] rfl rfl (cell_one_new _ _ _) (by intro u hu; simp at hu; subst hu; rfl) (by decide) (by unfold maxLen; omega) (by omega) (Nat.zero_le _) (wr.heap.size + 1) (World.size_alloc _ _) ?_); intro g1 cap1 w3 hown hgrow hat hlt3; go_loud (rw [own_slice] at hgrow hat))
            obtain ⟨O4, B4⟩ := hOj.push (c := c1) brj.size hc1 (by first | rfl | omega) hown hgrow hat
            rw [HY2.out] at O4
            have hl4 : (xs ++ (recB k n).take (1 + 1)).length = ys.length + 1 := by rw [← HY2.out, List.length_append]; rfl
            go_roundw
            case rel => exact ⟨1, some ⟨g1, 0, none⟩, cap1, by omega, by rw [hl4], by go_num, O4, brj.trans B4⟩
            case measure => simp [intOf]
          · obtain ⟨ys, hys⟩ : ∃ ys, ys = xs ++ (recB k n).take (1 + 1) := ⟨_, rfl⟩
            have hyl : ys.length ≤ 8 * k + 8 := by rw [hys, List.length_append]; have : ((recB k n).take (1 + 1)).length = 2 := rfl; omega
            have hy2 : ys ++ [UInt8.ofNat (n / 1099511627776 % 256)] = xs ++ (recB k n).take (1 + 2) := by rw [hys, List.append_assoc]; rfl
            rw [← hys] at hOj ⊢
            rw [show kT.getD 1 0 = 1099511627776 from rfl]
            have t1 : (n : Int).tdiv 1099511627776 = ((n / 1099511627776 : Nat) : Int) := by rw [Int.tdiv_eq_ediv_of_nonneg (by omega)]; omega
            have t2 : ((n / 1099511627776 : Nat) : Int).tmod 256 = ((n / 1099511627776 % 256 : Nat) : Int) := by rw [Int.tmod_eq_emod_of_nonneg (by omega)]; omega
            have t3 : IntKind.u64.wrap ((n / 1099511627776 : Nat) : Int) = ((n / 1099511627776 : Nat) : Int) := by rw [IntKind.wrap_u64]; omega
            have t4 : IntKind.u8.wrap ((n / 1099511627776 % 256 : Nat) : Int) = ((n / 1099511627776 % 256 : Nat) : Int) := by rw [IntKind.wrap_u8]; omega
            generalize hq1 : n / 1099511627776 % 256 = c1 at *
            generalize hq0 : n / 1099511627776 = c0 at *
            have hc1 : c1 < 256 := by omega
            have HQ : Hid (_ ∧ _) := And.intro hq0 hq1
            clear hq0 hq1
            have HOwn := hOj.own
            have HY2 : Hid _ := hy2
            clear hys hy2 HOj
            go_wp2_with (at_builtin; go_loud (refine wpList_append_lies _ rfl (.tmp 33) (.tmp 39) 61 rfl 0 5 i0 (B8 0) 1 1 Try.underlying61 hi hz0 hz1 hz2 rfl (by decide) (.slice a' ys.length cap') _ _ rfl (World.ownsRow.alloc HOwn _) ⟨wr.heap.size, 0, none⟩ 1 1 [.int .u8 _] rfl rfl (cell_one_new _ _ _) (by intro u hu; simp at hu; subst hu; rfl) (by decide) (by unfold maxLen; omega) (by omega) (Nat.zero_le _) (wr.heap.size + 1) (World.size_alloc _ _) ?_); intro g1 cap1 w3 hown hgrow hat hlt3; go_loud (rw [own_slice] at hgrow hat))
            obtain ⟨O4, B4⟩ := hOj.push (c := c1) brj.size hc1 (by first | rfl | omega) hown hgrow hat
            rw [HY2.out] at O4
            have hl4 : (xs ++ (recB k n).take (1 + 2)).length = ys.length + 1 := by rw [← HY2.out, List.length_append]; rfl
            go_roundw
            case rel => exact ⟨2, some ⟨g1, 0, none⟩, cap1, by omega, by rw [hl4], by go_num, O4, brj.trans B4⟩
            case measure => simp [intOf]
          · obtain ⟨ys, hys⟩ : ∃ ys, ys = xs ++ (recB k n).take (1 + 2) := ⟨_, rfl⟩
            have hyl : ys.length ≤ 8 * k + 8 := by rw [hys, List.length_append]; have : ((recB k n).take (1 + 2)).length = 3 := rfl; omega
            have hy2 : ys ++ [UInt8.ofNat (n / 4294967296 % 256)] = xs ++ (recB k n).take (1 + 3) := by rw [hys, List.append_assoc]; rfl
            rw [← hys] at hOj ⊢
            rw [show kT.getD 2 0 = 4294967296 from rfl]
            have t1 : (n : Int).tdiv 4294967296 = ((n / 4294967296 : Nat) : Int) := by rw [Int.tdiv_eq_ediv_of_nonneg (by omega)]; omega
            have t2 : ((n / 4294967296 : Nat) : Int).tmod 256 = ((n / 4294967296 % 256 : Nat) : Int) := by rw [Int.tmod_eq_emod_of_nonneg (by omega)]; omega
            have t3 : IntKind.u64.wrap ((n / 4294967296 : Nat) : Int) = ((n / 4294967296 : Nat) : Int) := by rw [IntKind.wrap_u64]; omega
            have t4 : IntKind.u8.wrap ((n / 4294967296 % 256 : Nat) : Int) = ((n / 4294967296 % 256 : Nat) : Int) := by rw [IntKind.wrap_u8]; omega
            generalize hq1 : n / 4294967296 % 256 = c1 at *
            generalize hq0 : n / 4294967296 = c0 at *
            have hc1 : c1 < 256 := by omega
            have HQ : Hid (_ ∧ _) := And.intro hq0 hq1
            clear hq0 hq1
            have HOwn := hOj.own
            have HY2 : Hid _ := hy2
            clear hys hy2 HOj
            go_wp2_with (at_builtin; go_loud (refine wpList_append_lies _ rfl (.tmp 33) (.tmp 39) 61 rfl 0 5 i0 (B8 0) 1 1 Try.underlying61 hi hz0 hz1 hz2 rfl (by decide) (.slice a' ys.length cap') _ _ rfl (World.ownsRow.alloc HOwn _) ⟨wr.heap.size, 0, none⟩ 1 1 [.int .u8 _] rfl rfl (cell_one_new _ _ _) (by intro u hu; simp at hu; subst hu; rfl) (by decide) (by unfold maxLen; omega) (by omega) (Nat.zero_le _) (wr.heap.size + 1) (World.size_alloc _ _) ?_); intro g1 cap1 w3 hown hgrow hat hlt3; go_loud (rw [own_slice] at hgrow hat))
            obtain ⟨O4, B4⟩ := hOj.push (c := c1) brj.size hc1 (by first | rfl | omega) hown hgrow hat
            rw [HY2.out] at O4
            have hl4 : (xs ++ (recB k n).take (1 + 3)).length = ys.length + 1 := by rw [← HY2.out, List.length_append]; rfl
            go_roundw
            case rel => exact ⟨3, some ⟨g1, 0, none⟩, cap1, by omega, by rw [hl4], by go_num, O4, brj.trans B4⟩
            case measure => simp [intOf]
          · obtain ⟨ys, hys⟩ : ∃ ys, ys = xs ++ (recB k n).take (1 + 3) := ⟨_, rfl⟩
            have hyl : ys.length ≤ 8 * k + 8 := by rw [hys, List.length_append]; have : ((recB k n).take (1 + 3)).length = 4 := rfl; omega
            have hy2 : ys ++ [UInt8.ofNat (n / 16777216 % 256)] = xs ++ (recB k n).take (1 + 4) := by rw [hys, List.append_assoc]; rfl
            rw [← hys] at hOj ⊢
            rw [show kT.getD 3 0 = 16777216 from rfl]
            have t1 : (n : Int).tdiv 16777216 = ((n / 16777216 : Nat) : Int) := by rw [Int.tdiv_eq_ediv_of_nonneg (by omega)]; omega
            have t2 : ((n / 16777216 : Nat) : Int).tmod 256 = ((n / 16777216 % 256 : Nat) : Int) := by rw [Int.tmod_eq_emod_of_nonneg (by omega)]; omega
            have t3 : IntKind.u64.wrap ((n / 16777216 : Nat) : Int) = ((n / 16777216 : Nat) : Int) := by rw [IntKind.wrap_u64]; omega
            have t4 : IntKind.u8.wrap ((n / 16777216 % 256 : Nat) : Int) = ((n / 16777216 % 256 : Nat) : Int) := by rw [IntKind.wrap_u8]; omega
            generalize hq1 : n / 16777216 % 256 = c1 at *
            generalize hq0 : n / 16777216 = c0 at *
            have hc1 : c1 < 256 := by omega
            have HQ : Hid (_ ∧ _) := And.intro hq0 hq1
            clear hq0 hq1
            have HOwn := hOj.own
            have HY2 : Hid _ := hy2
            clear hys hy2 HOj
            go_wp2_with (at_builtin; go_loud (refine wpList_append_lies _ rfl (.tmp 33) (.tmp 39) 61 rfl 0 5 i0 (B8 0) 1 1 Try.underlying61 hi hz0 hz1 hz2 rfl (by decide) (.slice a' ys.length cap') _ _ rfl (World.ownsRow.alloc HOwn _) ⟨wr.heap.size, 0, none⟩ 1 1 [.int .u8 _] rfl rfl (cell_one_new _ _ _) (by intro u hu; simp at hu; subst hu; rfl) (by decide) (by unfold maxLen; omega) (by omega) (Nat.zero_le _) (wr.heap.size + 1) (World.size_alloc _ _) ?_); intro g1 cap1 w3 hown hgrow hat hlt3; go_loud (rw [own_slice] at hgrow hat))
            obtain ⟨O4, B4⟩ := hOj.push (c := c1) brj.size hc1 (by first | rfl | omega) hown hgrow hat
            rw [HY2.out] at O4
            have hl4 : (xs ++ (recB k n).take (1 + 4)).length = ys.length + 1 := by rw [← HY2.out, List.length_append]; rfl
            go_roundw
            case rel => exact ⟨4, some ⟨g1, 0, none⟩, cap1, by omega, by rw [hl4], by go_num, O4, brj.trans B4⟩
            case measure => simp [intOf]
          · obtain ⟨ys, hys⟩ : ∃ ys, ys = xs ++ (recB k n).take (1 + 4) := ⟨_, rfl⟩
            have hyl : ys.length ≤ 8 * k + 8 := by rw [hys, List.length_append]; have : ((recB k n).take (1 + 4)).length = 5 := rfl; omega
            have hy2 : ys ++ [UInt8.ofNat (n / 65536 % 256)] = xs ++ (recB k n).take (1 + 5) := by rw [hys, List.append_assoc]; rfl
            rw [← hys] at hOj ⊢
            rw [show kT.getD 4 0 = 65536 from rfl]
            have t1 : (n : Int).tdiv 65536 = ((n / 65536 : Nat) : Int) := by rw [Int.tdiv_eq_ediv_of_nonneg (by omega)]; omega
            have t2 : ((n / 65536 : Nat) : Int).tmod 256 = ((n / 65536 % 256 : Nat) : Int) := by rw [Int.tmod_eq_emod_of_nonneg (by omega)]; omega
            have t3 : IntKind.u64.wrap ((n / 65536 : Nat) : Int) = ((n / 65536 : Nat) : Int) := by rw [IntKind.wrap_u64]; omega
            have t4 : IntKind.u8.wrap ((n / 65536 % 256 : Nat) : Int) = ((n / 65536 % 256 : Nat) : Int) := by rw [IntKind.wrap_u8]; omega
            generalize hq1 : n / 65536 % 256 = c1 at *
            generalize hq0 : n / 65536 = c0 at *
            have hc1 : c1 < 256 := by omega
            have HQ : Hid (_ ∧ _) := And.intro hq0 hq1
            clear hq0 hq1
            have HOwn := hOj.own
            have HY2 : Hid _ := hy2
            clear hys hy2 HOj
            go_wp2_with (at_builtin; go_loud (refine wpList_append_lies _ rfl (.tmp 33) (.tmp 39) 61 rfl 0 5 i0 (B8 0) 1 1 Try.underlying61 hi hz0 hz1 hz2 rfl (by decide) (.slice a' ys.length cap') _ _ rfl (World.ownsRow.alloc HOwn _) ⟨wr.heap.size, 0, none⟩ 1 1 [.int .u8 _] rfl rfl (cell_one_new _ _ _) (by intro u hu; simp at hu; subst hu; rfl) (by decide) (by unfold maxLen; omega) (by omega) (Nat.zero_le _) (wr.heap.size + 1) (World.size_alloc _ _) ?_); intro g1 cap1 w3 hown hgrow hat hlt3; go_loud (rw [own_slice] at hgrow hat))
            obtain ⟨O4, B4⟩ := hOj.push (c := c1) brj.size hc1 (by first | rfl | omega) hown hgrow hat
            rw [HY2.out] at O4
            have hl4 : (xs ++ (recB k n).take (1 + 5)).length = ys.length + 1 := by rw [← HY2.out, List.length_append]; rfl
            go_roundw
            case rel => exact ⟨5, some ⟨g1, 0, none⟩, cap1, by omega, by rw [hl4], by go_num, O4, brj.trans B4⟩
            case measure => simp [intOf]
          · obtain ⟨ys, hys⟩ : ∃ ys, ys = xs ++ (recB k n).take (1 + 5) := ⟨_, rfl⟩
            have hyl : ys.length ≤ 8 * k + 8 := by rw [hys, List.length_append]; have : ((recB k n).take (1 + 5)).length = 6 := rfl; omega
            have hy2 : ys ++ [UInt8.ofNat (n / 256 % 256)] = xs ++ (recB k n).take (1 + 6) := by rw [hys, List.append_assoc]; rfl
            rw [← hys] at hOj ⊢
            rw [show kT.getD 5 0 = 256 from rfl]
            have t1 : (n : Int).tdiv 256 = ((n / 256 : Nat) : Int) := by rw [Int.tdiv_eq_ediv_of_nonneg (by omega)]; omega
            have t2 : ((n / 256 : Nat) : Int).tmod 256 = ((n / 256 % 256 : Nat) : Int) := by rw [Int.tmod_eq_emod_of_nonneg (by omega)]; omega
            have t3 : IntKind.u64.wrap ((n / 256 : Nat) : Int) = ((n / 256 : Nat) : Int) := by rw [IntKind.wrap_u64]; omega
            have t4 : IntKind.u8.wrap ((n / 256 % 256 : Nat) : Int) = ((n / 256 % 256 : Nat) : Int) := by rw [IntKind.wrap_u8]; omega
            generalize hq1 : n / 256 % 256 = c1 at *
            generalize hq0 : n / 256 = c0 at *
            have hc1 : c1 < 256 := by omega
            have HQ : Hid (_ ∧ _) := And.intro hq0 hq1
            clear hq0 hq1
            have HOwn := hOj.own
            have HY2 : Hid _ := hy2
            clear hys hy2 HOj
            go_wp2_with (at_builtin; go_loud (refine wpList_append_lies _ rfl (.tmp 33) (.tmp 39) 61 rfl 0 5 i0 (B8 0) 1 1 Try.underlying61 hi hz0 hz1 hz2 rfl (by decide) (.slice a' ys.length cap') _ _ rfl (World.ownsRow.alloc HOwn _) ⟨wr.heap.size, 0, none⟩ 1 1 [.int .u8 _] rfl rfl (cell_one_new _ _ _) (by intro u hu; simp at hu; subst hu; rfl) (by decide) (by unfold maxLen; omega) (by omega) (Nat.zero_le _) (wr.heap.size + 1) (World.size_alloc _ _) ?_); intro g1 cap1 w3 hown hgrow hat hlt3; go_loud (rw [own_slice] at hgrow hat))
            obtain ⟨O4, B4⟩ := hOj.push (c := c1) brj.size hc1 (by first | rfl | omega) hown hgrow hat
            rw [HY2.out] at O4
            have hl4 : (xs ++ (recB k n).take (1 + 6)).length = ys.length + 1 := by rw [← HY2.out, List.length_append]; rfl
            go_roundw
            case rel => exact ⟨6, some ⟨g1, 0, none⟩, cap1, by omega, by rw [hl4], by go_num, O4, brj.trans B4⟩
            case measure => simp [intOf]
          · obtain ⟨ys, hys⟩ : ∃ ys, ys = xs ++ (recB k n).take (1 + 6) := ⟨_, rfl⟩
            have hyl : ys.length ≤ 8 * k + 8 := by rw [hys, List.length_append]; have : ((recB k n).take (1 + 6)).length = 7 := rfl; omega
            have hy2 : ys ++ [UInt8.ofNat (n / 1 % 256)] = xs ++ (recB k n).take (1 + 7) := by rw [hys, List.append_assoc]; rw [Nat.div_one]; rfl
            rw [← hys] at hOj ⊢
            rw [show kT.getD 6 0 = 1 from rfl]
            have t1 : (n : Int).tdiv 1 = ((n / 1 : Nat) : Int) := by rw [Int.tdiv_eq_ediv_of_nonneg (by omega)]; omega
            have t2 : ((n / 1 : Nat) : Int).tmod 256 = ((n / 1 % 256 : Nat) : Int) := by rw [Int.tmod_eq_emod_of_nonneg (by omega)]; omega
            have t3 : IntKind.u64.wrap ((n / 1 : Nat) : Int) = ((n / 1 : Nat) : Int) := by rw [IntKind.wrap_u64]; omega
            have t4 : IntKind.u8.wrap ((n / 1 % 256 : Nat) : Int) = ((n / 1 % 256 : Nat) : Int) := by rw [IntKind.wrap_u8]; omega
            generalize hq1 : n / 1 % 256 = c1 at *
            generalize hq0 : n / 1 = c0 at *
            have hc1 : c1 < 256 := by omega
            have HQ : Hid (_ ∧ _) := And.intro hq0 hq1
            clear hq0 hq1
            have HOwn := hOj.own
            have HY2 : Hid _ := hy2
            clear hys hy2 HOj
            go_wp2_with (at_builtin; go_loud (refine wpList_append_lies _ rfl (.tmp 33) (.tmp 39) 61 rfl 0 5 i0 (B8 0) 1 1 Try.underlying61 hi hz0 hz1 hz2 rfl (by decide) (.slice a' ys.length cap') _ _ rfl (World.ownsRow.alloc HOwn _) ⟨wr.heap.size, 0, none⟩ 1 1 [.int .u8 _] rfl rfl (cell_one_new _ _ _) (by intro u hu; simp at hu; subst hu; rfl) (by decide) (by unfold maxLen; omega) (by omega) (Nat.zero_le _) (wr.heap.size + 1) (World.size_alloc _ _) ?_); intro g1 cap1 w3 hown hgrow hat hlt3; go_loud (rw [own_slice] at hgrow hat))
            obtain ⟨O4, B4⟩ := hOj.push (c := c1) brj.size hc1 (by first | rfl | omega) hown hgrow hat
            rw [HY2.out] at O4
            have hl4 : (xs ++ (recB k n).take (1 + 7)).length = ys.length + 1 := by rw [← HY2.out, List.length_append]; rfl
            go_roundw
            case rel => exact ⟨7, some ⟨g1, 0, none⟩, cap1, by omega, by rw [hl4], by go_num, O4, brj.trans B4⟩
            case measure => simp [intOf]
          · rw [show kT.getD 7 0 = 0 from rfl]
            go_wp2
            go_roundw
            case rel =>
              have e8 : xs ++ (recB k n).take (1 + 7) = expB u ws (k + 1) := by rw [HS.out]; rfl
              exact ⟨k + 1, a', cap', by omega, by rw [e8], by go_num, by rw [← e8]; exact hOj, brj⟩
            case measure => simp [intOf]; omega
    · obtain rfl : k = 8 := by omega
      have hcv := hO.str
      go_wp2
      go_ret
      exact ⟨rfl, br⟩
end Go.Proofs.Qxb6500468a
