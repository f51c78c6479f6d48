import Derived.Test.Qxb6500470aIt14
namespace Go.Proofs.Qxb6500470a
open Go.RowKit
/-- The stack at p holds vs; none of its blocks is of K. -/
structure StU (K : Nat → Prop) (w : World) (p : Nat) (a : Option Addr) (cap : Nat) (vs : List Value) : Prop where
  head : Blk w p #[.slice a vs.length cap, .bool true] 62
  own : w.ownsRow 0 64 1 (.slice a vs.length cap) vs.length vs
  far : blk? a ≠ some p
  kp : ¬ K p
  ka : ∀ g, blk? a = some g → ¬ K g
  ks : ∀ k, K k → k < w.heap.size
  le : vs.length ≤ 5
def StQ (K : Nat → Prop) (w : World) (p : Nat) (vs : List Value) : Prop := ∃ a cap, StU K w p a cap vs
theorem StU.kept {K : Nat → Prop} {w w' : World} {p : Nat} {a : Option Addr} {cap : Nat} {vs : List Value} {L : Nat → Prop} (h : StU K w p a cap vs) (u : Kept L w w') (hp : L p) (ha : ∀ g, blk? a = some g → L g) : StU K w' p a cap vs := by
  refine ⟨h.head.kept u hp, ⟨h.own.1, ?_⟩, h.far, h.kp, h.ka, fun k hk => Nat.lt_of_lt_of_le (h.ks k hk) u.size, h.le⟩
  rcases h.own.2 with h0 | ⟨g, c, cur, hv, h1, hg, h2⟩
  · exact .inl h0
  · refine .inr ⟨g, c, cur, hv, h1, ?_, h2⟩
    have e : a = some ⟨g, 0, none⟩ := by simp only [Value.slice.injEq] at hv; exact hv.1
    exact Blk.kept (w := w) (t := 64) hg u (ha g (by rw [e]; rfl))
theorem StU.lt {K : Nat → Prop} {w : World} {p : Nat} {a : Option Addr} {cap : Nat} {vs : List Value} (h : StU K w p a cap vs) : p < w.heap.size ∧ ∀ g, blk? a = some g → g < w.heap.size := by
  refine ⟨h.head.lt, fun g' hg' => ?_⟩
  rcases h.own.2 with ⟨e, _⟩ | ⟨g, c, cur, hv, -, hg, -⟩
  · simp only [Value.slice.injEq] at e; rw [e.1] at hg'; cases hg'
  · simp only [Value.slice.injEq] at hv
    rw [hv.1] at hg'
    obtain rfl : g = g' := by simpa [blk?] using hg'
    exact Blk.lt (w := w) (c := cur) (t := 64) hg
theorem StQ.later {K : Nat → Prop} {w w' : World} {p : Nat} {vs : List Value} (h : StQ K w p vs) (b : Below w.heap.size w w') : StQ K w' p vs := by
  obtain ⟨a, cap, h⟩ := h
  obtain ⟨l1, l2⟩ := h.lt
  exact ⟨a, cap, h.kept (L := (· < w.heap.size)) ⟨b.os, b.tape, b.output, b.size, fun k hk => b.block k hk⟩ l1 l2⟩
theorem StU.at0 {K : Nat → Prop} {w : World} {p : Nat} {a : Option Addr} {cap : Nat} {vs : List Value} (h : StU K w p a cap vs) : w.cell? ⟨p, 0, none⟩ = some (.slice a vs.length cap) ∧ w.cell? ⟨p, 1, none⟩ = some (.bool true) ∧ w.frozen? ⟨p, 0, none⟩ = false ∧ w.frozen? ⟨p, 1, none⟩ = false ∧ p < w.heap.size :=
  ⟨h.head.cell 0, h.head.cell 1, h.head.frozen 0, h.head.frozen 1, h.head.lt⟩
theorem StU.form {K : Nat → Prop} {w : World} {p : Nat} {a : Option Addr} {cap : Nat} {vs : List Value} (h : StU K w p a cap vs) (hn : 0 < vs.length) :
    ∃ g, a = some ⟨g, 0, none⟩ ∧ (∀ i, i < vs.length → w.cell? ⟨g, i, none⟩ = some (vs.getD i .nilIface)) ∧ vs.length ≤ cap ∧ g ≠ p ∧ g < w.heap.size := by
  rcases h.own.2 with ⟨_, h0⟩ | ⟨g, c, cur, hv, -, hg, hle, -, hs, ht⟩
  · omega
  · simp only [Value.slice.injEq, true_and] at hv
    obtain ⟨rfl, rfl⟩ := hv
    refine ⟨g, rfl, ?_, hle, ?_, Blk.lt (w := w) (c := cur) (t := 64) hg⟩
    · intro i hi
      rw [Blk.cell (w := w) (c := cur) (t := 64) hg i, ← Array.getElem?_toList]
      have e : (cur.toList.take (vs.length * 1))[i]? = vs[i]? := by rw [ht]
      rw [List.getElem?_take, if_pos (by omega)] at e
      rw [e, List.getElem?_eq_getElem hi, List.getD_eq_getElem?_getD, List.getElem?_eq_getElem hi]
      rfl
    · intro e
      subst e
      exact h.far rfl
set_option maxHeartbeats 1000000 in
theorem peek_someQ (K : Nat → Prop) (w : World) (p : Nat) (vs : List Value) (h : StQ K w p vs) (i : Nat) (hi : i < vs.length) :
    Calls Try.prog 54 #[ptr p, I i] w fun e w' => e = .returned (vs.getD (vs.length - 1 - i) .nilIface) ∧ w' = w := by
  obtain ⟨a, cap, h⟩ := h
  obtain ⟨c0, c1, f0, f1, lp⟩ := h.at0
  have h5 := h.le
  obtain ⟨g, rfl, hg, hle, hne, hl⟩ := h.form (by omega)
  have cg := hg (vs.length - 1 - i) (by omega)
  have e1 : ((vs.length : Int) - 1 - (i : Int)) = ((vs.length - 1 - i : Nat) : Int) := by omega
  have i0 : ¬ (i : Int) < 0 := by omega
  have i1 : ¬ (vs.length : Int) ≤ (i : Int) := by omega
  have w1 := wr64 ((vs.length : Int) - 1) (by omega) (by omega)
  have w2 := wr64 ((vs.length - 1 - i : Nat) : Int) (by omega) (by omega)
  have i2 : ((vs.length - 1 - i : Nat) : Int) < (vs.length : Int) := by omega
  generalize vs.getD (vs.length - 1 - i) .nilIface = v at *
  go_enter Try.func54, Try.ntmps54
  go_wp2
  go_ret
  exact ⟨rfl, rfl⟩
/-- The stack's head turned to the slice that owns vs. -/
theorem vstoreQ {K : Nat → Prop} {w : World} {p g cap : Nat} {vs : List Value} {v0 : Value} (P1 : Blk w p #[v0, .bool true] 62) (O : w.ownsRow 0 64 1 (.slice (some ⟨g, 0, none⟩) vs.length cap) vs.length vs) (hne : g ≠ p) (hle : vs.length ≤ 5) (kp : ¬ K p) (kg : ¬ K g) (ks : ∀ k, K k → k < w.heap.size) :
    StU K (w.setCell ⟨p, 0, none⟩ (.slice (some ⟨g, 0, none⟩) vs.length cap)) p (some ⟨g, 0, none⟩) cap vs := by
  refine ⟨P1.set (i := 0) _, ⟨O.1, ?_⟩, fun e => hne (by simpa [blk?] using e), kp, fun g' e => by obtain rfl : g = g' := by simpa [blk?] using e
                                                                                                   exact kg, fun k hk => by simpa [World.setCell] using ks k hk, hle⟩
  rcases O.2 with h0 | ⟨g', c, cur, hv, h1, hg, h2⟩
  · exact .inl h0
  · refine .inr ⟨g', c, cur, hv, h1, ?_, h2⟩
    have e : g = g' := by simp only [Value.slice.injEq, Option.some.injEq, Addr.mk.injEq] at hv; exact hv.1.1
    subst e
    exact Blk.other (w := w) (t := 64) hg (a := ⟨p, 0, none⟩) hne _
theorem swap_postQ {K : Nat → Prop} {w w1 : World} {p : Nat} {a : Option Addr} {cap n : Nat} {vs : List Value} {g cap' : Nat} {o : Obj} {x : Value} (h : StU K w p a cap vs) (hn : n < 5) (hnv : n ≤ vs.length)
    (hown : w1.ownsRow 0 64 1 (.slice (some ⟨g, 0, none⟩) (n + 1) cap') (n + 1) (vs.take n ++ [x])) (hgrow : (w.alloc o).grownBy w1 (blk? a)) (hat : blk? a = some g ∨ g = w.heap.size + 1) :
    StQ K (w1.setCell ⟨p, 0, none⟩ (.slice (some ⟨g, 0, none⟩) (n + 1) cap')) p (vs.take n ++ [x]) ∧ Kept K w (w1.setCell ⟨p, 0, none⟩ (.slice (some ⟨g, 0, none⟩) (n + 1) cap')) := by
  have P1 : Blk w1 p #[.slice a vs.length cap, .bool true] 62 := (hgrow.block p (by show p < (w.alloc _).heap.size; rw [World.size_alloc]; have := h.head.lt; omega) (fun e => h.far e.symm)).trans (h.head.old _)
  have hl : (vs.take n ++ [x]).length = n + 1 := by simp; omega
  have lp := h.head.lt
  have hgp : g ≠ p := by
    rcases hat with e | e
    · intro e2; subst e2; exact h.far e
    · omega
  have hs : w.heap.size < w1.heap.size := Nat.lt_of_lt_of_le (by show w.heap.size < (w.alloc _).heap.size; rw [World.size_alloc]; omega) hgrow.size
  have kg : ¬ K g := by
    rcases hat with e | e
    · exact h.ka g e
    · intro hk; have := h.ks g hk; omega
  have hm := vstoreQ (K := K) (w := w1) (g := g) (cap := cap') (vs := vs.take n ++ [x]) P1 (by rw [hl]; exact hown) hgp (by rw [hl]; omega) h.kp kg (fun k hk => by have := h.ks k hk; omega)
  rw [hl] at hm
  refine ⟨⟨_, _, hm⟩, Kept.setCell (a := w) ⟨hgrow.os, hgrow.tape, hgrow.output, by omega, fun j hj => ?_⟩ h.kp _⟩
  have hj2 := h.ks j hj
  exact (hgrow.block j (by show j < (w.alloc _).heap.size; rw [World.size_alloc]; omega) (fun e => h.ka j e.symm hj)).trans (Below.heap_alloc _ _ _ hj2)
set_option maxHeartbeats 2000000 in
theorem swap_anyQ (K : Nat → Prop) (w : World) (p : Nat) (vs : List Value) (h : StQ K w p vs) (n d : Nat) (hnd : n + d = vs.length) (hn : n < 5) (t : TypeId) (v : Value) :
    Calls Try.prog 56 #[ptr p, I d, .iface t v] w fun e w' => e = .returned (.tuple #[]) ∧ StQ K w' p (vs.take n ++ [.iface t v]) ∧ Kept K w w' := by
  obtain ⟨a, cap, h⟩ := h
  obtain ⟨c0, c1, f0, f1, lp⟩ := h.at0
  have h5 := h.le
  have e1 : ((vs.length : Int) - (d : Int)) = (n : Int) := by omega
  have w1 := wr64 (n : Int) (by omega) (by omega)
  obtain ⟨i0, hi, hz0, hz1, hz2⟩ := info_parts vInfo
  have HO := own_pre h.own (show n ≤ vs.length by omega)
  have HF := h.far
  have HH := h.head
  have n0 : ¬ (n : Int) < 0 := by omega
  have HA : Hid _ := h
  rcases h.own.2 with ⟨e, h0⟩ | ⟨g0, c, cur, hv, -, -, hle, hm, -, -⟩
  · simp only [Value.slice.injEq] at e
    obtain ⟨rfl, hv0, rfl⟩ := e
    obtain rfl : n = 0 := by omega
    clear h
    go_enter Try.func56, Try.ntmps56
    go_wp2_with (at_builtin; go_loud (refine wpList_append_lies _ rfl (.tmp 20) (.tmp 22) 60 rfl 0 64 i0 .nilIface 1 16 Try.underlying60 hi hz0 hz1 hz2 rfl (by decide) (.slice none 0 0) _ _ rfl (World.ownsRow.alloc HO _) ⟨w.heap.size, 0, none⟩ 1 1 [.iface t v] rfl rfl (cell_one_new _ _ _) (by intro u hu; simp at hu; subst hu; rfl) (by decide) (by unfold maxLen; omega) (by omega) (Nat.zero_le _) (w.heap.size + 1) (World.size_alloc _ _) ?_); intro g cap' w1 hown hgrow hat hlt; go_loud (rw [own_slice] at hgrow hat); have P1 : Blk w1 p #[.slice none vs.length 0, .bool true] 62 := (hgrow.block p (by show p < (w.alloc _).heap.size; rw [World.size_alloc]; omega) (fun e => HF e.symm)).trans (HH.old _); have d0 := P1.cell 0; have d1 := P1.frozen 0)
    go_end0
    exact ⟨rfl, swap_postQ HA.out hn (by omega) hown hgrow hat⟩
  · simp only [Value.slice.injEq] at hv
    obtain ⟨rfl, -, rfl⟩ := hv
    have hcap : (n : Int) ≤ (cap : Int) := by omega
    clear h
    go_enter Try.func56, Try.ntmps56
    go_wp2_with (at_builtin; go_loud (refine wpList_append_lies _ rfl (.tmp 20) (.tmp 22) 60 rfl 0 64 i0 .nilIface 1 16 Try.underlying60 hi hz0 hz1 hz2 rfl (by decide) (.slice (some ⟨g0, 0, none⟩) n cap) _ _ rfl (World.ownsRow.alloc HO _) ⟨w.heap.size, 0, none⟩ 1 1 [.iface t v] rfl rfl (cell_one_new _ _ _) (by intro u hu; simp at hu; subst hu; rfl) (by decide) (by unfold maxLen; omega) (by omega) (Nat.zero_le _) (w.heap.size + 1) (World.size_alloc _ _) ?_); intro g cap' w1 hown hgrow hat hlt; go_loud (rw [own_slice] at hgrow hat); have P1 : Blk w1 p #[.slice (some ⟨g0, 0, none⟩) vs.length cap, .bool true] 62 := (hgrow.block p (by show p < (w.alloc _).heap.size; rw [World.size_alloc]; omega) (fun e => HF e.symm)).trans (HH.old _); have d0 := P1.cell 0; have d1 := P1.frozen 0)
    go_end0
    exact ⟨rfl, swap_postQ HA.out hn (by omega) hown hgrow hat⟩
theorem StQ.weak {K L : Nat → Prop} {w : World} {p : Nat} {vs : List Value} (h : StQ K w p vs) (hs : ∀ k, L k → K k) : StQ L w p vs := by
  obtain ⟨a, cap, h⟩ := h
  exact ⟨a, cap, h.head, h.own, h.far, fun e => h.kp (hs _ e), fun g hg e => h.ka g hg (hs _ e), fun k hk => h.ks k (hs k hk), h.le⟩
theorem StQ.ks {K : Nat → Prop} {w : World} {p : Nat} {vs : List Value} (h : StQ K w p vs) : ∀ k, K k → k < w.heap.size := by obtain ⟨a, c, h⟩ := h; exact h.ks
theorem StQ.le {K : Nat → Prop} {w : World} {p : Nat} {vs : List Value} (h : StQ K w p vs) : vs.length ≤ 5 := by obtain ⟨a, c, h⟩ := h; exact h.le
theorem StQ.grow {K : Nat → Prop} {w w' : World} {p : Nat} {vs : List Value} (h : StQ K w p vs) (b : Below w.heap.size w w') {q : Nat} (h1 : w.heap.size ≤ q) (h2 : q < w'.heap.size) : StQ (fun k => K k ∨ k = q) w' p vs := by
  obtain ⟨a, cap, h⟩ := h
  obtain ⟨lp, lg⟩ := h.lt
  have h' : StU K w' p a cap vs := h.kept (L := (· < w.heap.size)) ⟨b.os, b.tape, b.output, b.size, fun k hk => b.block k hk⟩ lp lg
  refine ⟨a, cap, h'.head, h'.own, h'.far, ?_, ?_, ?_, h'.le⟩
  · rintro (e | e)
    · exact h'.kp e
    · omega
  · rintro g hg (e | e)
    · exact h'.ka g hg e
    · have := lg g hg; omega
  · rintro k (e | e)
    · exact h'.ks k e
    · omega
theorem peek_noneQ (K : Nat → Prop) (w : World) (p : Nat) (vs : List Value) (h : StQ K w p vs) (i : Nat) (hi : vs.length ≤ i) (h5 : i ≤ 5) :
    Calls Try.prog 54 #[ptr p, I i] w fun e w' => e = .returned .nilIface ∧ w' = w := by
  obtain ⟨a, cap, h⟩ := h
  obtain ⟨c0, c1, f0, f1, lp⟩ := h.at0
  have i0 : ¬ (i : Int) < 0 := by omega
  have i1 : (vs.length : Int) ≤ (i : Int) := by omega
  clear h
  go_enter Try.func54, Try.ntmps54
  go_wp2
  go_ret
  exact ⟨rfl, rfl⟩
theorem StQ.growK {K K' : Nat → Prop} {w w' : World} {p : Nat} {vs : List Value} (h : StQ K w p vs) (b : Below w.heap.size w w') (n : ∀ k, K' k → K k ∨ (w.heap.size ≤ k ∧ k < w'.heap.size)) : StQ K' w' p vs := by
  obtain ⟨a, cap, h⟩ := h
  obtain ⟨lp, lg⟩ := h.lt
  have h' : StU K w' p a cap vs := h.kept (L := (· < w.heap.size)) ⟨b.os, b.tape, b.output, b.size, fun k hk => b.block k hk⟩ lp lg
  refine ⟨a, cap, h'.head, h'.own, h'.far, ?_, ?_, ?_, h'.le⟩
  · intro hk
    rcases n _ hk with e | e
    · exact h'.kp e
    · omega
  · intro g hg hk
    rcases n _ hk with e | e
    · exact h'.ka g hg e
    · have := lg g hg; omega
  · intro k hk
    rcases n _ hk with e | e
    · exact h'.ks k e
    · exact e.2
theorem StQ.set {K : Nat → Prop} {w : World} {p : Nat} {vs : List Value} (h : StQ K w p vs) {b i : Nat} (hb : K b) (u : Value) : StQ K (w.setCell ⟨b, i, none⟩ u) p vs := by
  obtain ⟨a, cap, h⟩ := h
  have kk : Kept (fun k => k ≠ b) w (w.setCell ⟨b, i, none⟩ u) := (Kept.refl _ w).setCell (by simp) u
  exact ⟨a, cap, h.kept kk (fun e => h.kp (e ▸ hb)) (fun g hg e => h.ka g hg (e ▸ hb))⟩
theorem StQ.put {K : Nat → Prop} {w : World} {p : Nat} {vs : List Value} {D : Nat} {o : Obj} (h : StQ (fun k => K k ∨ k = D) w p vs) : StQ K (w.putObj D o) p vs := by
  obtain ⟨a, cap, h⟩ := h
  have kk : Kept (fun k => k ≠ D) w (w.putObj D o) := ⟨rfl, rfl, rfl, by simp, fun k hk => World.putObj_heap_other hk⟩
  have hp : p ≠ D := fun e => h.kp (.inr e)
  have ha : ∀ g, blk? a = some g → g ≠ D := fun g hg e => h.ka g hg (.inr e)
  have h' := h.kept kk hp ha
  exact ⟨a, cap, h'.head, h'.own, h'.far, fun e => h'.kp (.inl e), fun g hg e => h'.ka g hg (.inl e), fun k hk => h'.ks k (.inl hk), h'.le⟩
end Go.Proofs.Qxb6500470a
