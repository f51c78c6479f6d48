import Derived.Test.Qxb6500470aVmt
namespace Go.Proofs.Qxb6500470a
open Go.RowKit
set_option maxRecDepth 100000 in
set_option maxHeartbeats 16000000 in
theorem mEx3_full (K : Nat → Prop) (w : World) (p : Nat) (st : List TV) (h : MT K w p st) (hn : 5 < 2 * st.length) : Calls Try.prog 100 #[ptr p, I 3] w fun e w' => e = .returned (I 3) ∧ w' = w := by
  have h5 := h.len
  obtain ⟨a, cap, c0, -, lp⟩ := h.head
  have q : (5 : Int) < 2 * (st.length : Int) := by omega
  have w1 := wr64 (2 * (st.length : Int)) (by omega) (by omega)
  generalize st.length = n at *
  go_enter Try.func100, Try.ntmps100
  go_wp2
  go_ret
  exact ⟨rfl, rfl⟩
/-- The new row of echo: it owns the values ys. -/
structure EchoI (K : Nat → Prop) (w wr : World) (v : Value) (ys : List TV) : Prop where
  row : ∃ g cap cs, v = .slice (some ⟨g, 0, none⟩) ys.length cap ∧ w.heap.size ≤ g ∧ g < wr.heap.size ∧ wr.ownsRow w.heap.size 137 4 v ys.length cs ∧ MRs K wr ys cs
  b : Below w.heap.size w wr
theorem own_weak {W : World} {B n : Nat} {v : Value} {cs : List Value} (h : W.ownsRow B 137 4 v n cs) : W.ownsRow 0 137 4 v n cs := by
  refine ⟨h.1, ?_⟩
  rcases h.2 with h0 | ⟨g, c, cur, hv, h1, h2⟩
  · exact .inl h0
  · exact .inr ⟨g, c, cur, hv, Nat.zero_le _, h2⟩
/-- One more value. -/
theorem EchoI.next {K : Nat → Prop} {w wr w3 : World} {ys : List TV} {y : TV} {g cap g2 cap2 : Nat} {cs : List Value} {c0 c1 c2 c3 : Value} {o : Obj} (ks : ∀ k, K k → k < w.heap.size) (hb : Below w.heap.size w wr) (hg : w.heap.size ≤ g) (hm : MRs K wr ys cs) (hy : MR K wr y c0 c1 c2 c3)
    (hown : w3.ownsRow w.heap.size 137 4 (.slice (some ⟨g2, 0, none⟩) (ys.length + 1) cap2) (ys.length + 1) (cs ++ [c0, c1, c2, c3])) (hgrow : (wr.alloc o).grownBy w3 (Value.slice (some ⟨g, 0, none⟩) ys.length cap).ownBlock) (hat : (Value.slice (some ⟨g, 0, none⟩) ys.length cap).ownBlock = some g2 ∨ g2 = wr.heap.size + 1) (hlt : g2 < w3.heap.size) :
    EchoI K w w3 (.slice (some ⟨g2, 0, none⟩) (ys.length + 1) cap2) (ys ++ [y]) := by
  have hs := hb.size
  have kk : Kept K wr w3 := ⟨hgrow.os, hgrow.tape, hgrow.output, Nat.le_trans (by simp) hgrow.size, fun k hk => (hgrow.block k (by simp; have := ks k hk; omega) (by simp [Value.ownBlock]; have := ks k hk; omega)).trans (Below.heap_alloc _ _ _ (by have := ks k hk; omega))⟩
  have hl : (ys ++ [y]).length = ys.length + 1 := by simp
  have hg2 : w.heap.size ≤ g2 := by
    rcases hat with e | e
    · have : g = g2 := by simpa [Value.ownBlock] using e
      omega
    · omega
  refine ⟨⟨g2, cap2, cs ++ [c0, c1, c2, c3], by rw [hl], hg2, hlt, by rw [hl]; exact hown, (hm.append (.one hy)).kept kk⟩, hb.trans ⟨hgrow.os, hgrow.tape, hgrow.output, Nat.le_trans (by simp) hgrow.size, fun k hk => (hgrow.block k (by simp; omega) (by simp [Value.ownBlock]; omega)).trans (Below.heap_alloc _ _ _ (by omega))⟩⟩
theorem EchoI.done {K : Nat → Prop} {w wr : World} {p : Nat} {st ys : List TV} {v : Value} (h : MT K w p st) (e : EchoI K w wr v ys) (hl : ys.length ≤ 5) (hr : ys.reverse = ys) : TurnM K w p ys (wr.setCell ⟨p, 0, none⟩ v) := by
  obtain ⟨a, cap, cs0, hA⟩ := h
  obtain ⟨⟨g, cap2, cs, rfl, hg, hgl, hown, hm⟩, hb⟩ := e
  have lp := hA.head.lt
  have kk : Kept K w (wr.setCell ⟨p, 0, none⟩ (.slice (some ⟨g, 0, none⟩) ys.length cap2)) := (Kept.of_below hb hA.ks).setCell hA.kp _
  have kk2 : Kept K wr (wr.setCell ⟨p, 0, none⟩ (.slice (some ⟨g, 0, none⟩) ys.length cap2)) := (Kept.refl K wr).setCell hA.kp _
  refine ⟨K, fun _ h => h, fun _ h => .inl h, ?_, kk⟩
  unfold MT
  rw [hr]
  refine ⟨some ⟨g, 0, none⟩, cap2, cs, (hA.head.below hb lp).set (i := 0) _, own_set (own_weak hown) (by omega), hm.kept kk2, ?_, hA.kp, ?_, fun k hk => Nat.lt_of_lt_of_le (hA.ks k hk) kk.size, hl⟩
  · intro e
    have : g = p := by simpa [blk?] using e
    omega
  · intro g' e hk
    obtain rfl : g = g' := by simpa [blk?] using e
    have := hA.ks g hk
    omega
set_option maxRecDepth 100000 in
set_option maxHeartbeats 16000000 in
theorem mEx3_go (K : Nat → Prop) (w : World) (p : Nat) (st : List TV) (h : MT K w p st) (hn : 2 * st.length ≤ 5) : Calls Try.prog 100 #[ptr p, I 3] w (Wm K w p (st ++ st.reverse, 0)) := by
  have ks := h.ks
  have HI : Hid (MT K w p st) := h
  obtain ⟨a, cap, hp, fp, lp⟩ := h.head
  have q : ¬ (5 : Int) < 2 * (st.length : Int) := by omega
  have w1 := wr64 (2 * (st.length : Int)) (by omega) (by omega)
  have w2 := wr64 ((st.length : Int) - 1) (by omega) (by omega)
  obtain ⟨i0, hi, hz0, hz1, hz2⟩ := info_parts mInfo
  have hmk : ∀ W : World, (Instr.makeSlice 124 (.int .i64 0) (.int .i64 (2 * (st.length : Int)))).run Try.prog W = .ok (.slice (some ⟨W.heap.size, 0, none⟩) 0 (2 * st.length)) (W.alloc (.cells (madeCells Z4 (2 * st.length * 4)) 137)) := by
    intro W
    have := run_make (P := Try.prog) W 124 137 i0 (.agg Z4) Try.underlying124 hi hz0 .i64 .i64 0 (2 * (st.length : Int)) (by omega) (by omega) (by rw [hz2]; omega) (by omega)
    rw [hz1, show (2 * (st.length : Int)).toNat = 2 * st.length from by omega] at this
    exact this
  have E0 : EchoI K w (w.alloc (.cells (madeCells Z4 (2 * st.length * 4)) 137)) (.slice (some ⟨w.heap.size, 0, none⟩) 0 (2 * st.length)) [] := by
    refine ⟨⟨w.heap.size, 2 * st.length, [], rfl, Nat.le_refl _, by simp, ⟨rfl, .inr ⟨w.heap.size, 2 * st.length, madeCells Z4 (2 * st.length * 4), rfl, Nat.le_refl _, Blk.new rfl, Nat.zero_le _, by unfold maxLen; omega, ?_, rfl⟩⟩, rfl⟩, (Below.refl _ _).alloc (Nat.le_refl _) _⟩
    exact size_madeCells _ _
  clear h
  go_enter Try.func100, Try.ntmps100
  go_wp2
  go_loopw [8, 9] (fun v i wr => ∃ j : Nat, j ≤ st.length ∧ EchoI K w wr v (st.take j) ∧ i = I ((st.length : Int) - j - 1)) (fun _ i _ => (intOf i + 1).toNat)
  case atStart => exact ⟨0, Nat.zero_le _, E0, by go_num⟩
  case round =>
    clear E0 hp
    obtain ⟨j, hj, EI, rfl⟩ := hrel
    by_cases hlt : j < st.length
    · obtain ⟨ix, hix⟩ : ∃ ix : Nat, (ix : Int) = (st.length : Int) - j - 1 := ⟨st.length - j - 1, by omega⟩
      rw [← hix]
      have q1 : (0 : Int) ≤ (ix : Int) := by omega
      have q2 : (ix : Int) < (st.length : Int) := by omega
      have q3 := wr64 ((ix : Int) - 1) (by omega) (by omega)
      have HIX : Hid (ix + j + 1 = st.length) := by show ix + j + 1 = st.length; omega
      clear hix
      have ih := HI.out
      obtain ⟨⟨g, cap2, cs, rfl, hg, hgl, hown, hm⟩, hb⟩ := EI
      have hbs := hb.size
      obtain ⟨g0, cap0, c0, c1, c2, c3, hp, -, -, lg0, lp', hle, -, h0, h1, h2, h3, hmy⟩ := (ih.later hb).val ix j HIX.out
      have hone := (MRs.one hmy).cells1
      have HOW : Hid (wr.ownsRow w.heap.size 137 4 (.slice (some ⟨g, 0, none⟩) (st.take j).length cap2) (st.take j).length cs) := hown
      have HNX : Hid (∀ w3 g2 cap3, w3.ownsRow w.heap.size 137 4 (.slice (some ⟨g2, 0, none⟩) ((st.take j).length + 1) cap3) ((st.take j).length + 1) (cs ++ [c0, c1, c2, c3]) → (wr.alloc (.cells #[c0, c1, c2, c3] 137)).grownBy w3 (Value.slice (some ⟨g, 0, none⟩) (st.take j).length cap2).ownBlock → ((Value.slice (some ⟨g, 0, none⟩) (st.take j).length cap2).ownBlock = some g2 ∨ g2 = wr.heap.size + 1) → g2 < w3.heap.size → EchoI K w w3 (.slice (some ⟨g2, 0, none⟩) ((st.take j).length + 1) cap3) ((st.take j) ++ [st.getD j .nil])) := fun w3 g2 cap3 h1 h2 h3 h4 => EchoI.next ks hb hg hm hmy h1 h2 h3 h4
      have hLL : (st.take j).length ≤ 5 := by simp; omega
      generalize (st.take j).length = L at *
      clear hm hmy hown ih
      go_wp2_with (at_builtin; go_loud (refine wpList_append_lies _ rfl (.tmp 88) (.tmp 96) 124 rfl w.heap.size 137 i0 _ 4 56 Try.underlying124 hi hz0 hz1 hz2 rfl (by decide) (.slice (some ⟨g, 0, none⟩) L cap2) L cs rfl (World.ownsRow.alloc HOW.out _) ⟨wr.heap.size, 0, none⟩ 1 1 [c0, c1, c2, c3] rfl rfl (World.news_of_block (cs := #[c0, c1, c2, c3]) (t := 137) (fr := (0, 0)) (heap_alloc_new wr _)) hone (by decide) (by unfold maxLen; omega) (by omega) (by rw [World.size_alloc]; omega) (wr.heap.size + 1) (World.size_alloc _ _) ?_); intro g2 cap3 w3 hown hgrow hat hlt3)
      have E3 := HNX.out w3 g2 cap3 hown hgrow hat hlt3
      clear hown hgrow hat
      go_roundw
      case rel =>
        refine ⟨j + 1, by omega, ?_, congrArg (Value.int .i64) (by have := HIX.out; push_cast; omega)⟩
        rw [List.take_succ_eq_append_getElem hlt]
        have e : st.getD j .nil = st[j] := by rw [List.getD_eq_getElem?_getD, List.getElem?_eq_getElem hlt]; rfl
        rw [← e]
        exact E3
      case measure => simp [intOf]
    · obtain rfl : j = st.length := by omega
      have q1 : ¬ (0 : Int) ≤ (st.length : Int) - (st.length : Int) - 1 := by omega
      rw [List.take_of_length_le (Nat.le_refl _)] at EI
      go_wp2
      go_loopw [8, 10] (fun v i wr => ∃ j : Nat, j ≤ st.length ∧ EchoI K w wr v (st ++ st.reverse.take j) ∧ i = I (j : Int)) (fun _ i _ => (st.length - intOf i).toNat)
      case atStart => exact ⟨0, Nat.zero_le _, by simpa using EI, rfl⟩
      case round =>
        clear EI
        obtain ⟨j, hj, EI, rfl⟩ := hrel
        by_cases hlt : j < st.length
        · have q2 : (j : Int) < (st.length : Int) := by omega
          have q3 := wr64 ((j : Int) + 1) (by omega) (by omega)
          have ih := HI.out
          obtain ⟨⟨g, cap2, cs, rfl, hg, hgl, hown, hm⟩, hb⟩ := EI
          have hbs := hb.size
          obtain ⟨g0, cap0, c0, c1, c2, c3, hp, -, -, lg0, lp', hle, -, h0, h1, h2, h3, hmy⟩ := (ih.later hb).val j (st.length - 1 - j) (by omega)
          have hone := (MRs.one hmy).cells1
          have HOW : Hid (wr.ownsRow w.heap.size 137 4 (.slice (some ⟨g, 0, none⟩) (st ++ st.reverse.take j).length cap2) (st ++ st.reverse.take j).length cs) := hown
          have HNX : Hid (∀ w3 g2 cap3, w3.ownsRow w.heap.size 137 4 (.slice (some ⟨g2, 0, none⟩) ((st ++ st.reverse.take j).length + 1) cap3) ((st ++ st.reverse.take j).length + 1) (cs ++ [c0, c1, c2, c3]) → (wr.alloc (.cells #[c0, c1, c2, c3] 137)).grownBy w3 (Value.slice (some ⟨g, 0, none⟩) (st ++ st.reverse.take j).length cap2).ownBlock → ((Value.slice (some ⟨g, 0, none⟩) (st ++ st.reverse.take j).length cap2).ownBlock = some g2 ∨ g2 = wr.heap.size + 1) → g2 < w3.heap.size → EchoI K w w3 (.slice (some ⟨g2, 0, none⟩) ((st ++ st.reverse.take j).length + 1) cap3) ((st ++ st.reverse.take j) ++ [st.getD (st.length - 1 - j) .nil])) := fun w3 g2 cap3 h1 h2 h3 h4 => EchoI.next ks hb hg hm hmy h1 h2 h3 h4
          have hLL : (st ++ st.reverse.take j).length ≤ 5 := by simp; omega
          generalize (st ++ st.reverse.take j).length = L at *
          clear hm hmy hown ih
          go_wp2_with (at_builtin; go_loud (refine wpList_append_lies _ rfl (.tmp 103) (.tmp 111) 124 rfl w.heap.size 137 i0 _ 4 56 Try.underlying124 hi hz0 hz1 hz2 rfl (by decide) (.slice (some ⟨g, 0, none⟩) L cap2) L cs rfl (World.ownsRow.alloc HOW.out _) ⟨wr.heap.size, 0, none⟩ 1 1 [c0, c1, c2, c3] rfl rfl (World.news_of_block (cs := #[c0, c1, c2, c3]) (t := 137) (fr := (0, 0)) (heap_alloc_new wr _)) hone (by decide) (by unfold maxLen; omega) (by omega) (by rw [World.size_alloc]; omega) (wr.heap.size + 1) (World.size_alloc _ _) ?_); intro g2 cap3 w3 hown hgrow hat hlt3)
          have E3 := HNX.out w3 g2 cap3 hown hgrow hat hlt3
          clear hown hgrow hat
          go_roundw
          case rel =>
            refine ⟨j + 1, by omega, ?_, by go_num⟩
            have hl' : j < st.reverse.length := by simpa using hlt
            rw [List.take_succ_eq_append_getElem hl', ← List.append_assoc]
            have e : st.getD (st.length - 1 - j) .nil = st.reverse[j] := by rw [List.getElem_reverse, List.getD_eq_getElem?_getD, List.getElem?_eq_getElem (by omega : st.length - 1 - j < st.length)]; rfl
            rw [← e]
            exact E3
          case measure => simp [intOf]; omega
        · have q2 : ¬ (j : Int) < (st.length : Int) := by omega
          obtain rfl : j = st.length := by omega
          rw [List.take_of_length_le (by simp)] at EI
          have fin := EchoI.done HI.out EI (by simp; omega) (by simp)
          have hb := EI.b
          have hp2 := (hb.cell (p := ⟨p, 0, none⟩) lp)
          have fp2 := (hb.frozen (p := ⟨p, 0, none⟩) lp).trans fp
          have lp2 : p < wr.heap.size := Nat.lt_of_lt_of_le lp hb.size
          obtain ⟨g, cap2, cs, rfl, -⟩ := EI.row
          have e : (st ++ st.reverse).length = st.length + st.length := by simp
          rw [e] at fin ⊢
          have HF : Hid (TurnM K w p (st ++ st.reverse) (wr.setCell ⟨p, 0, none⟩ (.slice (some ⟨g, 0, none⟩) (st.length + st.length) cap2))) := fin
          obtain ⟨aa, cc, hpp, -⟩ := (HI.out.later hb).head
          clear hp2 EI fin
          go_wp2
          go_ret
          exact ⟨rfl, HF.out⟩
theorem mEx3_w (K : Nat → Prop) (w : World) (p : Nat) (st : List TV) (h : MT K w p st) : Calls Try.prog 100 #[ptr p, I 3] w (Wm K w p (extR st (echoT st))) := by
  unfold echoT
  by_cases hn : 5 < 2 * st.length
  · rw [if_pos hn]
    refine (mEx3_full K w p st h hn).mono ?_
    rintro e w' ⟨rfl, rfl⟩
    exact ⟨rfl, .refl h⟩
  · rw [if_neg hn]
    exact mEx3_go K w p st h (by omega)
theorem mExtra_w (K : Nat → Prop) (w : World) (p : Nat) (st : List TV) (h : MT K w p st) (hf : Fine st) (k : Int) : Calls Try.prog 100 #[ptr p, I k] w (Wm K w p (extraT k st)) := by
  unfold extraT
  by_cases h0 : k = 0
  · subst h0; exact mEx0_w K w p st h hf
  rw [if_neg h0]
  by_cases h2 : k = 2
  · subst h2; exact mEx2_w K w p st h hf
  rw [if_neg h2]
  by_cases h3 : k = 3
  · subst h3; exact mEx3_w K w p st h
  rw [if_neg h3]
  by_cases h4 : k = 4
  · subst h4; exact mEx4_w K w p st h
  rw [if_neg h4]
  refine (mEx_bad K w p st h k h0 h2 h3 h4).mono ?_
  rintro e w' ⟨rfl, rfl⟩
  exact ⟨rfl, .refl h⟩
end Go.Proofs.Qxb6500470a
