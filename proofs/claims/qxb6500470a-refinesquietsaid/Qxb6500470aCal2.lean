import Derived.Test.Qxb6500470aCal1
namespace Go.Proofs.Qxb6500470a
open Go.RowKit

theorem vInfo : (Try.prog.info? 64).map (fun i => (i.zero, i.size, i.bytes)) = some (some .nilIface, 1, 16) := by kernel_rfl
theorem info_parts {o : Option TypeInfo} {z : Option Value} {s b : Nat} (h : o.map (fun i => (i.zero, i.size, i.bytes)) = some (z, s, b)) : ∃ i, o = some i ∧ i.zero = z ∧ i.size = s ∧ i.bytes = b := by
  cases o with
  | none => cases h
  | some i => simp only [Option.map_some, Option.some.injEq, Prod.mk.injEq] at h; exact ⟨i, rfl, h.1, h.2.1, h.2.2⟩

/-- The stack's head turned to the slice that owns vs. -/
theorem vstore {K : Nat → Prop} {w : World} {p g cap : Nat} {vs : List Value} {v0 : Value} (P1 : Blk w p #[v0, .bool false] 62) (O : w.ownsRow 0 64 1 (.slice (some ⟨g, 0, none⟩) vs.length cap) vs.length vs) (hne : g ≠ p) (hle : vs.length ≤ 5) (kp : ¬ K p) (kg : ¬ K g) (ks : ∀ k, K k → k < w.heap.size) :
    StA K (w.setCell ⟨p, 0, none⟩ (.slice (some ⟨g, 0, none⟩) vs.length cap)) p (some ⟨g, 0, none⟩) cap vs := by
  refine ⟨P1.set (i := 0) _, ⟨O.1, ?_⟩, fun e => hne (by simpa [blk?] using e), kp, fun g' e => by obtain rfl : g = g' := by simpa [blk?] using e
                                                                                                   exact kg, fun k hk => by simpa [World.setCell] using ks k hk, hle⟩
  rcases O.2 with h0 | ⟨g', c, cur, hv, h1, hg, h2⟩
  · exact .inl h0
  · refine .inr ⟨g', c, cur, hv, h1, ?_, h2⟩
    have e : g = g' := by simp only [Value.slice.injEq, Option.some.injEq, Addr.mk.injEq] at hv; exact hv.1.1
    subst e
    exact Blk.other (w := w) (t := 64) hg (a := ⟨p, 0, none⟩) hne _

theorem swap_post {K : Nat → Prop} {w w1 : World} {p : Nat} {a : Option Addr} {cap n : Nat} {vs : List Value} {g cap' : Nat} {o : Obj} {x : Value} (h : StA K w p a cap vs) (hn : n < 5) (hnv : n ≤ vs.length)
    (hown : w1.ownsRow 0 64 1 (.slice (some ⟨g, 0, none⟩) (n + 1) cap') (n + 1) (vs.take n ++ [x])) (hgrow : (w.alloc o).grownBy w1 (blk? a)) (hat : blk? a = some g ∨ g = w.heap.size + 1) :
    StR K (w1.setCell ⟨p, 0, none⟩ (.slice (some ⟨g, 0, none⟩) (n + 1) cap')) p (vs.take n ++ [x]) ∧ Kept K w (w1.setCell ⟨p, 0, none⟩ (.slice (some ⟨g, 0, none⟩) (n + 1) cap')) := by
  have P1 : Blk w1 p #[.slice a vs.length cap, .bool false] 62 := (hgrow.block p (by show p < (w.alloc _).heap.size; rw [World.size_alloc]; have := h.head.lt; omega) (fun e => h.far e.symm)).trans (h.head.old _)
  have hl : (vs.take n ++ [x]).length = n + 1 := by simp; omega
  have lp := h.head.lt
  have hgp : g ≠ p := by
    rcases hat with e | e
    · intro e2; subst e2; exact h.far e
    · omega
  have hs : w.heap.size < w1.heap.size := Nat.lt_of_lt_of_le (by show w.heap.size < (w.alloc _).heap.size; rw [World.size_alloc]; omega) hgrow.size
  have kg : ¬ K g := by
    rcases hat with e | e
    · exact h.ka g e
    · intro hk; have := h.ks g hk; omega
  have hm := vstore (K := K) (w := w1) (g := g) (cap := cap') (vs := vs.take n ++ [x]) P1 (by rw [hl]; exact hown) hgp (by rw [hl]; omega) h.kp kg (fun k hk => by have := h.ks k hk; omega)
  rw [hl] at hm
  refine ⟨⟨_, _, hm⟩, Kept.setCell (a := w) ⟨hgrow.os, hgrow.tape, hgrow.output, by omega, fun j hj => ?_⟩ h.kp _⟩
  have hj2 := h.ks j hj
  exact (hgrow.block j (by show j < (w.alloc _).heap.size; rw [World.size_alloc]; omega) (fun e => h.ka j e.symm hj)).trans (Below.heap_alloc _ _ _ hj2)

set_option maxHeartbeats 2000000 in
theorem swap_any (K : Nat → Prop) (w : World) (p : Nat) (vs : List Value) (h : StR K w p vs) (n d : Nat) (hnd : n + d = vs.length) (hn : n < 5) (t : TypeId) (v : Value) :
    Calls Try.prog 56 #[ptr p, I d, .iface t v] w fun e w' => e = .returned (.tuple #[]) ∧ StR K w' p (vs.take n ++ [.iface t v]) ∧ Kept K w w' := by
  obtain ⟨a, cap, h⟩ := h
  obtain ⟨c0, c1, f0, f1, lp⟩ := h.at0
  have h5 := h.le
  have e1 : ((vs.length : Int) - (d : Int)) = (n : Int) := by omega
  have w1 := wr64 (n : Int) (by omega) (by omega)
  obtain ⟨i0, hi, hz0, hz1, hz2⟩ := info_parts vInfo
  have HO := own_pre h.own (show n ≤ vs.length by omega)
  have HF := h.far
  have HH := h.head
  have n0 : ¬ (n : Int) < 0 := by omega
  have HA : Hid _ := h
  rcases h.own.2 with ⟨e, h0⟩ | ⟨g0, c, cur, hv, -, -, hle, hm, -, -⟩
  · simp only [Value.slice.injEq] at e
    obtain ⟨rfl, hv0, rfl⟩ := e
    obtain rfl : n = 0 := by omega
    clear h
    go_enter Try.func56, Try.ntmps56
    go_wp2_with (at_builtin; go_loud (refine wpList_append_lies _ rfl (.tmp 20) (.tmp 22) 60 rfl 0 64 i0 .nilIface 1 16 Try.underlying60 hi hz0 hz1 hz2 rfl (by decide) (.slice none 0 0) _ _ rfl (World.ownsRow.alloc HO _) ⟨w.heap.size, 0, none⟩ 1 1 [.iface t v] rfl rfl (cell_one_new _ _ _) (by intro u hu; simp at hu; subst hu; rfl) (by decide) (by unfold maxLen; omega) (by omega) (Nat.zero_le _) (w.heap.size + 1) (World.size_alloc _ _) ?_); intro g cap' w1 hown hgrow hat hlt; go_loud (rw [own_slice] at hgrow hat); have P1 : Blk w1 p #[.slice none vs.length 0, .bool false] 62 := (hgrow.block p (by show p < (w.alloc _).heap.size; rw [World.size_alloc]; omega) (fun e => HF e.symm)).trans (HH.old _); have d0 := P1.cell 0; have d1 := P1.frozen 0)
    go_end0
    exact ⟨rfl, swap_post HA.out hn (by omega) hown hgrow hat⟩
  · simp only [Value.slice.injEq] at hv
    obtain ⟨rfl, -, rfl⟩ := hv
    have hcap : (n : Int) ≤ (cap : Int) := by omega
    clear h
    go_enter Try.func56, Try.ntmps56
    go_wp2_with (at_builtin; go_loud (refine wpList_append_lies _ rfl (.tmp 20) (.tmp 22) 60 rfl 0 64 i0 .nilIface 1 16 Try.underlying60 hi hz0 hz1 hz2 rfl (by decide) (.slice (some ⟨g0, 0, none⟩) n cap) _ _ rfl (World.ownsRow.alloc HO _) ⟨w.heap.size, 0, none⟩ 1 1 [.iface t v] rfl rfl (cell_one_new _ _ _) (by intro u hu; simp at hu; subst hu; rfl) (by decide) (by unfold maxLen; omega) (by omega) (Nat.zero_le _) (w.heap.size + 1) (World.size_alloc _ _) ?_); intro g cap' w1 hown hgrow hat hlt; go_loud (rw [own_slice] at hgrow hat); have P1 : Blk w1 p #[.slice (some ⟨g0, 0, none⟩) vs.length cap, .bool false] 62 := (hgrow.block p (by show p < (w.alloc _).heap.size; rw [World.size_alloc]; omega) (fun e => HF e.symm)).trans (HH.old _); have d0 := P1.cell 0; have d1 := P1.frozen 0)
    go_end0
    exact ⟨rfl, swap_post HA.out hn (by omega) hown hgrow hat⟩
end Go.Proofs.Qxb6500470a
