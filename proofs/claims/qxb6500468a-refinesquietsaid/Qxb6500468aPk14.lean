import Derived.Test.Qxb6500468aPk13
namespace Go.Proofs.Qxb6500468a
open Go.RowKit

/-- One more byte: what holds behind the append. -/
theorem OwnB.push {N : Nat} {w w1 : World} {a : Option Addr} {cap g cap' : Nat} {xs : List UInt8} {o : Obj} {x : Int} {c : Nat} (h : OwnB N w a cap xs) (hN : N ≤ w.heap.size) (hc : c < 256) (hx : x = (c : Int))
    (hown : w1.ownsRow 0 5 1 (.slice (some ⟨g, 0, none⟩) (xs.length + 1) cap') (xs.length + 1) (byC xs ++ [.int .u8 x])) (hgrow : (w.alloc o).grownBy w1 (blk? a)) (hat : blk? a = some g ∨ g = w.heap.size + 1) :
    OwnB N w1 (some ⟨g, 0, none⟩) cap' (xs ++ [UInt8.ofNat c]) ∧ Below N w w1 := by
  have ex : [Value.int .u8 x] = byC [UInt8.ofNat c] := by
    have : (UInt8.ofNat c).toNat = c := by rw [UInt8.toNat_ofNat']; omega
    unfold byC
    simp only [List.map_cons, List.map_nil, this, hx]
  rw [ex] at hown
  exact h.more (ys := [UInt8.ofNat c]) hN hown hgrow hat
theorem OwnB.later {N : Nat} {w w' : World} {a : Option Addr} {cap : Nat} {xs : List UInt8} (h : OwnB N w a cap xs) (b : Below w.heap.size w w') : OwnB N w' a cap xs := by
  refine ⟨⟨h.own.1, ?_⟩, h.fresh⟩
  rcases h.own.2 with h0 | ⟨g, c, cur, hv, h1, hg, h2⟩
  · exact .inl h0
  · exact .inr ⟨g, c, cur, hv, h1, Blk.below (w := w) (t := 5) hg b (Blk.lt (w := w) (c := cur) (t := 5) hg), h2⟩
/-- 'string(b)' of whatever is owned. -/
theorem OwnB.str {N : Nat} {w : World} {a : Option Addr} {cap : Nat} {xs : List UInt8} (h : OwnB N w a cap xs) : (convert 61 9 (.slice a xs.length cap)).run Try.prog w = .ok (S xs) w := by
  rcases Nat.eq_zero_or_pos xs.length with hz | hpos
  · have hnil : xs = [] := List.length_eq_zero_iff.1 hz
    subst hnil
    rw [run_convert_bytes_string w 61 9 5 _ _ _ Try.underlying61 Try.underlying5 Try.underlying9]
    cases a with
    | none => rfl
    | some ad => exact run_bytesToString w ad 0 cap [] (by first | rfl | simp [loadCells])
  · obtain ⟨g, cur, rfl, hB, -, -, ht, -, -⟩ := h.form hpos
    exact run_bytes_own (P := Try.prog) w 61 9 5 g _ cur xs xs.length cap rfl hB ht Try.underlying61 Try.underlying5 Try.underlying9

set_option maxRecDepth 100000 in
set_option maxHeartbeats 4000000 in
theorem exported_any (w : World) (g : Nat) (us : List Bool) (hs ds : List Int) (img : List UInt8) (h : GhR w g us hs ds img) (u : Nat) (ws : List Nat) (ht : Tells u ws us hs) (hws : ∀ i, ws.getD i 0 < 72057594037927936) : Calls Try.prog 45 #[ptr g] w fun e w' => e = .returned (S (expB u ws 8)) ∧ Below w.heap.size w w' := by
  obtain ⟨i0, hi, hz0, hz1, hz2⟩ := info_parts bInfo
  have lg := h.head.lt
  go_enter Try.func45, Try.ntmps45
  go_wp2
  go_loopw [3, 4] (fun b i wr => ∃ (k : Nat) (a : Option Addr) (cap : Nat), k ≤ 8 ∧ b = .slice a (expB u ws k).length cap ∧ i = I k ∧ OwnB w.heap.size wr a cap (expB u ws k) ∧ Below w.heap.size w wr) (fun _ i _ => (8 - intOf i).toNat)
  case atStart => exact ⟨0, none, 0, by omega, rfl, rfl, OwnB.nil _ _, Below.refl _ _⟩
  case round =>
    obtain ⟨k, a, cap, hk, rfl, rfl, hO, br⟩ := hrel
    have hr := h.upd (Upd.of_below (bs := []) br) (by simp)
    have hlen := expB_len u ws k
    by_cases hlt : k < 8
    · have q1 : (k : Int) < 8 := by omega
      have c0 := hr.used ht k hlt
      have hn56 := hws k
      have hstep : expB u ws (k + 1) = if u.testBit k then expB u ws k ++ recB k (ws.getD k 0) else expB u ws k := rfl
      cases hb : u.testBit k with
      | false =>
        rw [hb, if_neg (by simp)] at hstep
        rw [hb] at c0
        have HS : Hid _ := hstep
        clear hstep
        go_wp2
        go_roundw
        case rel => exact ⟨k + 1, a, cap, by omega, by rw [HS.out], by go_num, by rw [HS.out]; exact hO, br⟩
        case measure => simp [intOf]; omega
      | true =>
        obtain ⟨o0, o1, o2, o3, o4⟩ := hr.hdr ht k hlt hb
        rw [hb, if_pos rfl] at hstep
        rw [hb] at c0
        have HS : Hid _ := hstep
        clear hstep
        have hpk := pack_un (ws.getD k 0) hn56
        generalize ws.getD k 0 = n at *
        generalize hxs : expB u ws k = xs at *
        have hPC := fun W => pack_any W (unK n) (unD n) (unL n) (unF n) (unS n)
        rw [hpk] at hPC
        go_wp2_with fail
        refine (hPC wr).mono ?_
        rintro e w2 ⟨rfl, d2⟩
        have hO2 := hO.later d2
        have br2 := br.trans (d2.mono br.size)
        have HOwn := hO2.own
        clear c0 o0 o1 o2 o3 o4 hO hpk hPC
        go_wp2_with (at_builtin; go_loud (refine wpList_append_lies _ rfl (.tmp 24) (.tmp 27) 61 rfl 0 5 i0 (B8 0) 1 1 Try.underlying61 hi hz0 hz1 hz2 rfl (by decide) (.slice a xs.length cap) _ _ rfl (World.ownsRow.alloc HOwn _) ⟨w2.heap.size, 0, none⟩ 1 1 [.int .u8 _] rfl rfl (cell_one_new _ _ _) (by intro u hu; simp at hu; subst hu; rfl) (by decide) (by unfold maxLen; omega) (by omega) (Nat.zero_le _) (w2.heap.size + 1) (World.size_alloc _ _) ?_); intro g1 cap1 w3 hown hgrow hat hlt3; go_loud (rw [own_slice] at hgrow hat))
        obtain ⟨O3, B3⟩ := hO2.push (c := k) br2.size (by omega) rfl hown hgrow hat
        have br3 := br2.trans B3
        have e0 : xs ++ [UInt8.ofNat k] = xs ++ (recB k n).take 1 := rfl
        rw [e0] at O3
        have hl1 : (xs ++ (recB k n).take 1).length = xs.length + 1 := by rw [List.length_append]; rfl
        clear hown hgrow hat hO2 B3 br2 HOwn e0 d2
        go_loopw [3, 6] (fun b i wr' => ∃ (j : Nat) (a' : Option Addr) (cap' : Nat), j ≤ 7 ∧ b = .slice a' (xs ++ (recB k n).take (1 + j)).length cap' ∧ i = I (6 - (j : Int)) ∧ OwnB w.heap.size wr' a' cap' (xs ++ (recB k n).take (1 + j)) ∧ Below w.heap.size w wr') (fun _ i _ => (intOf i + 1).toNat)
        case atStart => exact ⟨0, some ⟨g1, 0, none⟩, cap1, by omega, by rw [show 1 + 0 = 1 from rfl, hl1], rfl, O3, br3⟩
        case round =>
          clear O3 br3
          obtain ⟨j, a', cap', hj, rfl, rfl, hOj, brj⟩ := hrel
          have HOj := hOj
          have hjj : j = 0 ∨ j = 1 ∨ j = 2 ∨ j = 3 ∨ j = 4 ∨ j = 5 ∨ j = 6 ∨ j = 7 := by omega
          clear hj
          rcases hjj with rfl | rfl | rfl | rfl | rfl | rfl | rfl | rfl
          · obtain ⟨ys, hys⟩ : ∃ ys, ys = xs ++ (recB k n).take (1 + 0) := ⟨_, rfl⟩
            have hyl : ys.length ≤ 8 * k + 8 := by rw [hys, List.length_append]; have : ((recB k n).take (1 + 0)).length = 1 := rfl; omega
            have hy2 : ys ++ [UInt8.ofNat (n / 281474976710656 % 256)] = xs ++ (recB k n).take (1 + 1) := by rw [hys, List.append_assoc]; rfl
            rw [← hys] at hOj ⊢
            have HOwn := hOj.own
            have HY2 : Hid _ := hy2
            clear hys hy2 HOj
            go_wp2_with (at_builtin; go_loud (refine wpList_append_lies _ rfl (.tmp 33) (.tmp 40) 61 rfl 0 5 i0 (B8 0) 1 1 Try.underlying61 hi hz0 hz1 hz2 rfl (by decide) (.slice a' ys.length cap') _ _ rfl (World.ownsRow.alloc HOwn _) ⟨wr.heap.size, 0, none⟩ 1 1 [.int .u8 _] rfl rfl (cell_one_new _ _ _) (by intro u hu; simp at hu; subst hu; rfl) (by decide) (by unfold maxLen; omega) (by omega) (Nat.zero_le _) (wr.heap.size + 1) (World.size_alloc _ _) ?_); intro g1 cap1 w3 hown hgrow hat hlt3; go_loud (rw [own_slice] at hgrow hat))
            obtain ⟨O4, B4⟩ := hOj.push (c := n / 281474976710656 % 256) brj.size (by omega) (by omega) hown hgrow hat
            rw [HY2.out] at O4
            have hl4 : (xs ++ (recB k n).take (1 + 1)).length = ys.length + 1 := by rw [← HY2.out, List.length_append]; rfl
            go_roundw
            case rel => exact ⟨1, some ⟨g1, 0, none⟩, cap1, by omega, by rw [hl4], by go_num, O4, brj.trans B4⟩
            case measure => simp [intOf]
          · obtain ⟨ys, hys⟩ : ∃ ys, ys = xs ++ (recB k n).take (1 + 1) := ⟨_, rfl⟩
            have hyl : ys.length ≤ 8 * k + 8 := by rw [hys, List.length_append]; have : ((recB k n).take (1 + 1)).length = 2 := rfl; omega
            have hy2 : ys ++ [UInt8.ofNat (n / 1099511627776 % 256)] = xs ++ (recB k n).take (1 + 2) := by rw [hys, List.append_assoc]; rfl
            rw [← hys] at hOj ⊢
            have HOwn := hOj.own
            have HY2 : Hid _ := hy2
            clear hys hy2 HOj
            go_wp2_with (at_builtin; go_loud (refine wpList_append_lies _ rfl (.tmp 33) (.tmp 40) 61 rfl 0 5 i0 (B8 0) 1 1 Try.underlying61 hi hz0 hz1 hz2 rfl (by decide) (.slice a' ys.length cap') _ _ rfl (World.ownsRow.alloc HOwn _) ⟨wr.heap.size, 0, none⟩ 1 1 [.int .u8 _] rfl rfl (cell_one_new _ _ _) (by intro u hu; simp at hu; subst hu; rfl) (by decide) (by unfold maxLen; omega) (by omega) (Nat.zero_le _) (wr.heap.size + 1) (World.size_alloc _ _) ?_); intro g1 cap1 w3 hown hgrow hat hlt3; go_loud (rw [own_slice] at hgrow hat))
            obtain ⟨O4, B4⟩ := hOj.push (c := n / 1099511627776 % 256) brj.size (by omega) (by omega) hown hgrow hat
            rw [HY2.out] at O4
            have hl4 : (xs ++ (recB k n).take (1 + 2)).length = ys.length + 1 := by rw [← HY2.out, List.length_append]; rfl
            go_roundw
            case rel => exact ⟨2, some ⟨g1, 0, none⟩, cap1, by omega, by rw [hl4], by go_num, O4, brj.trans B4⟩
            case measure => simp [intOf]
          · obtain ⟨ys, hys⟩ : ∃ ys, ys = xs ++ (recB k n).take (1 + 2) := ⟨_, rfl⟩
            have hyl : ys.length ≤ 8 * k + 8 := by rw [hys, List.length_append]; have : ((recB k n).take (1 + 2)).length = 3 := rfl; omega
            have hy2 : ys ++ [UInt8.ofNat (n / 4294967296 % 256)] = xs ++ (recB k n).take (1 + 3) := by rw [hys, List.append_assoc]; rfl
            rw [← hys] at hOj ⊢
            have HOwn := hOj.own
            have HY2 : Hid _ := hy2
            clear hys hy2 HOj
            go_wp2_with (at_builtin; go_loud (refine wpList_append_lies _ rfl (.tmp 33) (.tmp 40) 61 rfl 0 5 i0 (B8 0) 1 1 Try.underlying61 hi hz0 hz1 hz2 rfl (by decide) (.slice a' ys.length cap') _ _ rfl (World.ownsRow.alloc HOwn _) ⟨wr.heap.size, 0, none⟩ 1 1 [.int .u8 _] rfl rfl (cell_one_new _ _ _) (by intro u hu; simp at hu; subst hu; rfl) (by decide) (by unfold maxLen; omega) (by omega) (Nat.zero_le _) (wr.heap.size + 1) (World.size_alloc _ _) ?_); intro g1 cap1 w3 hown hgrow hat hlt3; go_loud (rw [own_slice] at hgrow hat))
            obtain ⟨O4, B4⟩ := hOj.push (c := n / 4294967296 % 256) brj.size (by omega) (by omega) hown hgrow hat
            rw [HY2.out] at O4
            have hl4 : (xs ++ (recB k n).take (1 + 3)).length = ys.length + 1 := by rw [← HY2.out, List.length_append]; rfl
            go_roundw
            case rel => exact ⟨3, some ⟨g1, 0, none⟩, cap1, by omega, by rw [hl4], by go_num, O4, brj.trans B4⟩
            case measure => simp [intOf]
          · obtain ⟨ys, hys⟩ : ∃ ys, ys = xs ++ (recB k n).take (1 + 3) := ⟨_, rfl⟩
            have hyl : ys.length ≤ 8 * k + 8 := by rw [hys, List.length_append]; have : ((recB k n).take (1 + 3)).length = 4 := rfl; omega
            have hy2 : ys ++ [UInt8.ofNat (n / 16777216 % 256)] = xs ++ (recB k n).take (1 + 4) := by rw [hys, List.append_assoc]; rfl
            rw [← hys] at hOj ⊢
            have HOwn := hOj.own
            have HY2 : Hid _ := hy2
            clear hys hy2 HOj
            go_wp2_with (at_builtin; go_loud (refine wpList_append_lies _ rfl (.tmp 33) (.tmp 40) 61 rfl 0 5 i0 (B8 0) 1 1 Try.underlying61 hi hz0 hz1 hz2 rfl (by decide) (.slice a' ys.length cap') _ _ rfl (World.ownsRow.alloc HOwn _) ⟨wr.heap.size, 0, none⟩ 1 1 [.int .u8 _] rfl rfl (cell_one_new _ _ _) (by intro u hu; simp at hu; subst hu; rfl) (by decide) (by unfold maxLen; omega) (by omega) (Nat.zero_le _) (wr.heap.size + 1) (World.size_alloc _ _) ?_); intro g1 cap1 w3 hown hgrow hat hlt3; go_loud (rw [own_slice] at hgrow hat))
            obtain ⟨O4, B4⟩ := hOj.push (c := n / 16777216 % 256) brj.size (by omega) (by omega) hown hgrow hat
            rw [HY2.out] at O4
            have hl4 : (xs ++ (recB k n).take (1 + 4)).length = ys.length + 1 := by rw [← HY2.out, List.length_append]; rfl
            go_roundw
            case rel => exact ⟨4, some ⟨g1, 0, none⟩, cap1, by omega, by rw [hl4], by go_num, O4, brj.trans B4⟩
            case measure => simp [intOf]
          · obtain ⟨ys, hys⟩ : ∃ ys, ys = xs ++ (recB k n).take (1 + 4) := ⟨_, rfl⟩
            have hyl : ys.length ≤ 8 * k + 8 := by rw [hys, List.length_append]; have : ((recB k n).take (1 + 4)).length = 5 := rfl; omega
            have hy2 : ys ++ [UInt8.ofNat (n / 65536 % 256)] = xs ++ (recB k n).take (1 + 5) := by rw [hys, List.append_assoc]; rfl
            rw [← hys] at hOj ⊢
            have HOwn := hOj.own
            have HY2 : Hid _ := hy2
            clear hys hy2 HOj
            go_wp2_with (at_builtin; go_loud (refine wpList_append_lies _ rfl (.tmp 33) (.tmp 40) 61 rfl 0 5 i0 (B8 0) 1 1 Try.underlying61 hi hz0 hz1 hz2 rfl (by decide) (.slice a' ys.length cap') _ _ rfl (World.ownsRow.alloc HOwn _) ⟨wr.heap.size, 0, none⟩ 1 1 [.int .u8 _] rfl rfl (cell_one_new _ _ _) (by intro u hu; simp at hu; subst hu; rfl) (by decide) (by unfold maxLen; omega) (by omega) (Nat.zero_le _) (wr.heap.size + 1) (World.size_alloc _ _) ?_); intro g1 cap1 w3 hown hgrow hat hlt3; go_loud (rw [own_slice] at hgrow hat))
            obtain ⟨O4, B4⟩ := hOj.push (c := n / 65536 % 256) brj.size (by omega) (by omega) hown hgrow hat
            rw [HY2.out] at O4
            have hl4 : (xs ++ (recB k n).take (1 + 5)).length = ys.length + 1 := by rw [← HY2.out, List.length_append]; rfl
            go_roundw
            case rel => exact ⟨5, some ⟨g1, 0, none⟩, cap1, by omega, by rw [hl4], by go_num, O4, brj.trans B4⟩
            case measure => simp [intOf]
          · obtain ⟨ys, hys⟩ : ∃ ys, ys = xs ++ (recB k n).take (1 + 5) := ⟨_, rfl⟩
            have hyl : ys.length ≤ 8 * k + 8 := by rw [hys, List.length_append]; have : ((recB k n).take (1 + 5)).length = 6 := rfl; omega
            have hy2 : ys ++ [UInt8.ofNat (n / 256 % 256)] = xs ++ (recB k n).take (1 + 6) := by rw [hys, List.append_assoc]; rfl
            rw [← hys] at hOj ⊢
            have HOwn := hOj.own
            have HY2 : Hid _ := hy2
            clear hys hy2 HOj
            go_wp2_with (at_builtin; go_loud (refine wpList_append_lies _ rfl (.tmp 33) (.tmp 40) 61 rfl 0 5 i0 (B8 0) 1 1 Try.underlying61 hi hz0 hz1 hz2 rfl (by decide) (.slice a' ys.length cap') _ _ rfl (World.ownsRow.alloc HOwn _) ⟨wr.heap.size, 0, none⟩ 1 1 [.int .u8 _] rfl rfl (cell_one_new _ _ _) (by intro u hu; simp at hu; subst hu; rfl) (by decide) (by unfold maxLen; omega) (by omega) (Nat.zero_le _) (wr.heap.size + 1) (World.size_alloc _ _) ?_); intro g1 cap1 w3 hown hgrow hat hlt3; go_loud (rw [own_slice] at hgrow hat))
            obtain ⟨O4, B4⟩ := hOj.push (c := n / 256 % 256) brj.size (by omega) (by omega) hown hgrow hat
            rw [HY2.out] at O4
            have hl4 : (xs ++ (recB k n).take (1 + 6)).length = ys.length + 1 := by rw [← HY2.out, List.length_append]; rfl
            go_roundw
            case rel => exact ⟨6, some ⟨g1, 0, none⟩, cap1, by omega, by rw [hl4], by go_num, O4, brj.trans B4⟩
            case measure => simp [intOf]
          · obtain ⟨ys, hys⟩ : ∃ ys, ys = xs ++ (recB k n).take (1 + 6) := ⟨_, rfl⟩
            have hyl : ys.length ≤ 8 * k + 8 := by rw [hys, List.length_append]; have : ((recB k n).take (1 + 6)).length = 7 := rfl; omega
            have hy2 : ys ++ [UInt8.ofNat (n % 256)] = xs ++ (recB k n).take (1 + 7) := by rw [hys, List.append_assoc]; rfl
            rw [← hys] at hOj ⊢
            have HOwn := hOj.own
            have HY2 : Hid _ := hy2
            clear hys hy2 HOj
            go_wp2_with (at_builtin; go_loud (refine wpList_append_lies _ rfl (.tmp 33) (.tmp 40) 61 rfl 0 5 i0 (B8 0) 1 1 Try.underlying61 hi hz0 hz1 hz2 rfl (by decide) (.slice a' ys.length cap') _ _ rfl (World.ownsRow.alloc HOwn _) ⟨wr.heap.size, 0, none⟩ 1 1 [.int .u8 _] rfl rfl (cell_one_new _ _ _) (by intro u hu; simp at hu; subst hu; rfl) (by decide) (by unfold maxLen; omega) (by omega) (Nat.zero_le _) (wr.heap.size + 1) (World.size_alloc _ _) ?_); intro g1 cap1 w3 hown hgrow hat hlt3; go_loud (rw [own_slice] at hgrow hat))
            obtain ⟨O4, B4⟩ := hOj.push (c := n % 256) brj.size (by omega) (by omega) hown hgrow hat
            rw [HY2.out] at O4
            have hl4 : (xs ++ (recB k n).take (1 + 7)).length = ys.length + 1 := by rw [← HY2.out, List.length_append]; rfl
            go_roundw
            case rel => exact ⟨7, some ⟨g1, 0, none⟩, cap1, by omega, by rw [hl4], by go_num, O4, brj.trans B4⟩
            case measure => simp [intOf]
          · go_wp2
            go_roundw
            case rel =>
              have e8 : xs ++ (recB k n).take (1 + 7) = expB u ws (k + 1) := by rw [HS.out]; rfl
              exact ⟨k + 1, a', cap', by omega, by rw [e8], by go_num, by rw [← e8]; exact hOj, brj⟩
            case measure => simp [intOf]; omega
    · obtain rfl : k = 8 := by omega
      have hcv := hO.str
      go_wp2
      go_ret
      exact ⟨rfl, br⟩
end Go.Proofs.Qxb6500468a
