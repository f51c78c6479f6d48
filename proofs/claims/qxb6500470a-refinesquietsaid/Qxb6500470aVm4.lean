import Derived.Test.Qxb6500470aVm3
import Derived.Deep.RegionLaw
namespace Go.Proofs.Qxb6500470a
open Go.RowKit
set_option maxRecDepth 100000 in
set_option maxHeartbeats 4000000 in
theorem put_big (K : Nat → Prop) (w : World) (p d : Nat) (x : TV) (c0 c1 c2 c3 : Value) (hx : MR K w x c0 c1 c2 c3) (ks : ∀ k, K k → k < w.heap.size) (h30 : 30 < (text x).length) (hl : (text x).length ≤ 1000) :
    Calls Try.prog 114 #[ptr p, I d, .agg #[c0, c1, c2, c3]] w fun e w' => e = .returned (I 7) ∧ Below w.heap.size w w' := by
  have b1 := (Below.refl w.heap.size w).alloc (Nat.le_refl _) (.cells #[c0, c1, c2, c3] 137)
  have T := text_w K _ x c0 c1 c2 c3 (hx.kept (Kept.of_below b1 ks)) (fun k hk => Nat.lt_of_lt_of_le (ks k hk) b1.size) hl
  have hz := str_size (text x)
  have q1 : (30 : Int) < ((text x).length : Int) := by omega
  generalize text x = tx at *
  clear hx
  obtain ⟨TO0⟩ : Nonempty True := ⟨trivial⟩
  go_enter Try.func114, Try.ntmps114
  go_wp2_with fail
  refine T.mono ?_
  rintro e w1 ⟨rfl, b2⟩
  go_wp2
  go_ret
  exact ⟨rfl, b1.trans (b2.mono b1.size)⟩
set_option maxRecDepth 100000 in
set_option maxHeartbeats 4000000 in
theorem put_full (K : Nat → Prop) (w : World) (p n d : Nat) (xs : List TV) (h : MS K w p xs) (hnd : n + d = xs.length) (hn : 5 ≤ n) (x : TV) (c0 c1 c2 c3 : Value) (hx : MR K w x c0 c1 c2 c3) (h30 : (text x).length ≤ 30) :
    Calls Try.prog 114 #[ptr p, I d, .agg #[c0, c1, c2, c3]] w fun e w' => e = .returned (I 3) ∧ Below w.heap.size w w' := by
  obtain ⟨a, cap, cs, h⟩ := h
  have b1 := (Below.refl w.heap.size w).alloc (Nat.le_refl _) (.cells #[c0, c1, c2, c3] 137)
  have T := text_w K _ x c0 c1 c2 c3 (hx.kept (Kept.of_below b1 h.ks)) (fun k hk => Nat.lt_of_lt_of_le (h.ks k hk) b1.size) (by omega)
  have hz := str_size (text x)
  have q1 : ¬ (30 : Int) < ((text x).length : Int) := by omega
  have h5 := h.le
  have e1 : ((xs.length : Int) - (d : Int)) = (n : Int) := by omega
  have w1 := wr64 (n : Int) (by omega) (by omega)
  have q2 : (5 : Int) ≤ (n : Int) := by omega
  generalize text x = tx at *
  clear hx
  go_enter Try.func114, Try.ntmps114
  go_wp2_with fail
  refine T.mono ?_
  rintro e w1 ⟨rfl, b2⟩
  have h2 := (h.later b1).later b2
  obtain ⟨d0, d1, d2⟩ := h2.at0
  go_wp2
  go_ret
  exact ⟨rfl, b1.trans (b2.mono b1.size)⟩
set_option maxRecDepth 100000 in
set_option maxHeartbeats 16000000 in
theorem put_ok (K : Nat → Prop) (w : World) (p n d : Nat) (xs : List TV) (h : MS K w p xs) (hnd : n + d = xs.length) (hn : n < 5) (x : TV) (c0 c1 c2 c3 : Value) (hx : MR K w x c0 c1 c2 c3) (h30 : (text x).length ≤ 30) :
    Calls Try.prog 114 #[ptr p, I d, .agg #[c0, c1, c2, c3]] w fun e w' => e = .returned (I 0) ∧ MS K w' p (xs.take n ++ [x]) ∧ Kept K w w' := by
  obtain ⟨a, cap, cs, h⟩ := h
  have b1 := (Below.refl w.heap.size w).alloc (Nat.le_refl _) (.cells #[c0, c1, c2, c3] 137)
  have TO : Blk (w.alloc (.cells #[c0, c1, c2, c3] 137)) w.heap.size #[c0, c1, c2, c3] 137 := Blk.new rfl
  have hx1 := hx.kept (Kept.of_below b1 h.ks)
  have T := text_w K _ x c0 c1 c2 c3 hx1 (fun k hk => Nat.lt_of_lt_of_le (h.ks k hk) b1.size) (by omega)
  have hz := str_size (text x)
  have q1 : ¬ (30 : Int) < ((text x).length : Int) := by omega
  have h5 := h.le
  have e1 : ((xs.length : Int) - (d : Int)) = (n : Int) := by omega
  have w1 := wr64 (n : Int) (by omega) (by omega)
  have q2 : ¬ (5 : Int) ≤ (n : Int) := by omega
  have n0 : ¬ (n : Int) < 0 := by omega
  have n1 : (0 : Int) ≤ (n : Int) := by omega
  obtain ⟨i0, hi, hz0, hz1, hz2⟩ := info_parts mInfo
  have hone := (MRs.one hx).cells1
  have HA : Hid _ := h
  have HX : Hid (MR K w x c0 c1 c2 c3) := hx
  have hncap : (n : Int) ≤ (cap : Int) := by
    rcases h.own.2 with ⟨e, h0⟩ | ⟨g0, c, cur, hv, -, -, hle, -⟩
    · omega
    · simp only [Value.slice.injEq, true_and] at hv
      obtain ⟨-, rfl⟩ := hv
      omega
  generalize text x = tx at *
  clear hx hx1
  rcases h.own.2 with ⟨e, h0⟩ | ⟨g0, c, cur, hv, -, -, hle, hm, -, -⟩
  · simp only [Value.slice.injEq] at e
    obtain ⟨rfl, hv0, rfl⟩ := e
    obtain rfl : n = 0 := by omega
    obtain rfl : xs = [] := List.eq_nil_of_length_eq_zero hv0
    obtain rfl : d = 0 := by simpa using hnd
    clear h
    have h := HA.out
    have HF : blk? none ≠ some p := h.far
    go_enter Try.func114, Try.ntmps114
    go_wp2_with fail
    refine T.mono ?_
    rintro e w1 ⟨rfl, b2⟩
    have TO2 := TO.below b2 TO.lt
    have b3 := b1.trans (b2.mono b1.size)
    have h2 := (h.later b1).later b2
    have HO := own_pre4 h2.own (Nat.zero_le _)
    have HX2 := HX.out.kept (Kept.of_below b3 h.ks)
    have HH2 := h2.head
    obtain ⟨d0, d1, d2⟩ := h2.at0
    have t0 : w1.cell? ⟨w.heap.size, 0, none⟩ = some c0 := TO2.cell 0
    have t1 : w1.cell? ⟨w.heap.size, 1, none⟩ = some c1 := TO2.cell 1
    have t2 : w1.cell? ⟨w.heap.size, 2, none⟩ = some c2 := TO2.cell 2
    have t3 : w1.cell? ⟨w.heap.size, 3, none⟩ = some c3 := TO2.cell 3
    have lw := TO2.lt
    have hfw : blk? none ≠ some w.heap.size := fun e => by have := own_lt h.own _ e; omega
    clear h
    go_wp2_with fail
    go_region_law
      ((refine step_append_lies _ (by rfl) _ _ _ (by rfl) 0 137 i0 _ 4 56 Try.underlying124 hi hz0 hz1 hz2 rfl (by decide) (.slice none 0 0) 0 _ (by rfl) ((HO.alloc _).drew)
          ⟨w1.heap.size, 0, none⟩ 1 1 [c0, c1, c2, c3] (by rfl) (by rfl) (World.news_of_block (cs := #[c0, c1, c2, c3]) (t := 137) (fr := (0, 0)) (heap_alloc_new w1 _)) hone
          (by omega) (by unfold maxLen; omega) (by omega) (Nat.zero_le _) (w1.heap.size + 1) (by simp) ?_; intro g cap' w2 hown hgrow hat hlt; have P2 : Blk w2 p #[.slice none 0 0] 126 := (hgrow.block p (by simp; omega) (by rw [own_slice]; exact fun e => HF e.symm)).trans (HH2.old _); have e0 := P2.cell 0; have e2 := P2.frozen 0; have T3 : Blk w2 w.heap.size #[c0, c1, c2, c3] 137 := (hgrow.block w.heap.size (by simp; omega) (by rw [own_slice]; exact fun e => hfw e.symm)).trans (TO2.old _); have u0 := T3.cell 0; have u1 := T3.cell 1; have u2 := T3.cell 2; have u3 := T3.cell 3))
    all_goals
      have hgrow' : w1.grownBy w2 (blk? none) := ⟨hgrow.os, hgrow.tape, hgrow.output, by have := hgrow.size; simp at this; omega, fun k hk hne => (hgrow.block k (by simp; omega) (by rw [own_slice]; exact hne)).trans (Below.heap_alloc _ _ _ hk)⟩
      have hat' : blk? none = some g ∨ w1.heap.size ≤ g := hat.elim (fun e => .inl (by rw [own_slice] at e; exact e)) (fun e => .inr (by omega))
      have fin := put_post h2 HX2 hn (by omega) hown hgrow' hat'
      have ks := HA.out.ks
      clear hgrow hat hown
      go_wp2
      go_ret
      exact ⟨rfl, fin.1, (Kept.of_below b3 ks).trans fin.2⟩
  · simp only [Value.slice.injEq, true_and] at hv
    obtain ⟨rfl, rfl⟩ := hv
    clear h
    have h := HA.out
    have HF : blk? (some ⟨g0, 0, none⟩) ≠ some p := h.far
    go_enter Try.func114, Try.ntmps114
    go_wp2_with fail
    refine T.mono ?_
    rintro e w1 ⟨rfl, b2⟩
    have TO2 := TO.below b2 TO.lt
    have b3 := b1.trans (b2.mono b1.size)
    have h2 := (h.later b1).later b2
    have HO := own_pre4 h2.own (show n ≤ xs.length by omega)
    have HX2 := HX.out.kept (Kept.of_below b3 h.ks)
    have HH2 := h2.head
    obtain ⟨d0, d1, d2⟩ := h2.at0
    have t0 : w1.cell? ⟨w.heap.size, 0, none⟩ = some c0 := TO2.cell 0
    have t1 : w1.cell? ⟨w.heap.size, 1, none⟩ = some c1 := TO2.cell 1
    have t2 : w1.cell? ⟨w.heap.size, 2, none⟩ = some c2 := TO2.cell 2
    have t3 : w1.cell? ⟨w.heap.size, 3, none⟩ = some c3 := TO2.cell 3
    have lw := TO2.lt
    have hfw : blk? (some ⟨g0, 0, none⟩) ≠ some w.heap.size := fun e => by have := own_lt h.own _ e; omega
    clear h
    go_wp2_with fail
    go_region_law
      ((refine step_append_lies _ (by rfl) _ _ _ (by rfl) 0 137 i0 _ 4 56 Try.underlying124 hi hz0 hz1 hz2 rfl (by decide) (.slice (some ⟨g0, 0, none⟩) n cap) n _ (by rfl) ((HO.alloc _).drew)
          ⟨w1.heap.size, 0, none⟩ 1 1 [c0, c1, c2, c3] (by rfl) (by rfl) (World.news_of_block (cs := #[c0, c1, c2, c3]) (t := 137) (fr := (0, 0)) (heap_alloc_new w1 _)) hone
          (by omega) (by unfold maxLen; omega) (by omega) (Nat.zero_le _) (w1.heap.size + 1) (by simp) ?_; intro g cap' w2 hown hgrow hat hlt; have P2 : Blk w2 p #[.slice (some ⟨g0, 0, none⟩) xs.length cap] 126 := (hgrow.block p (by simp; omega) (by rw [own_slice]; exact fun e => HF e.symm)).trans (HH2.old _); have e0 := P2.cell 0; have e2 := P2.frozen 0; have T3 : Blk w2 w.heap.size #[c0, c1, c2, c3] 137 := (hgrow.block w.heap.size (by simp; omega) (by rw [own_slice]; exact fun e => hfw e.symm)).trans (TO2.old _); have u0 := T3.cell 0; have u1 := T3.cell 1; have u2 := T3.cell 2; have u3 := T3.cell 3))
    all_goals
      have hgrow' : w1.grownBy w2 (blk? (some ⟨g0, 0, none⟩)) := ⟨hgrow.os, hgrow.tape, hgrow.output, by have := hgrow.size; simp at this; omega, fun k hk hne => (hgrow.block k (by simp; omega) (by rw [own_slice]; exact hne)).trans (Below.heap_alloc _ _ _ hk)⟩
      have hat' : blk? (some ⟨g0, 0, none⟩) = some g ∨ w1.heap.size ≤ g := hat.elim (fun e => .inl (by rw [own_slice] at e; exact e)) (fun e => .inr (by omega))
      have fin := put_post h2 HX2 hn (by omega) hown hgrow' hat'
      have ks := HA.out.ks
      clear hgrow hat hown
      go_wp2
      go_ret
      exact ⟨rfl, fin.1, (Kept.of_below b3 ks).trans fin.2⟩
end Go.Proofs.Qxb6500470a
