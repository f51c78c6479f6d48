import Derived.Test.Qxb6500470aXt4
namespace Go.Proofs.Qxb6500470a
open Go.RowKit
set_option maxHeartbeats 1000000 in
theorem under_full (K : Nat → Prop) (w : World) (p : Nat) (vs : List Value) (v : Value) (h : StQ K w p vs) (hn : vs.length = 5) :
    Calls Try.prog 96 #[ptr p, v] w fun e w' => e = .panicked [{ v := .iface 26 (I 3), recovered := false }] ∧ w' = w := by
  obtain ⟨a, cap, hA⟩ := h
  obtain ⟨c0, c1, f0, f1, lp⟩ := hA.at0
  rw [hn] at c0
  clear hA
  go_enter Try.func96, Try.ntmps96
  go_wp2
  exact ⟨rfl, rfl, rfl⟩
theorem own_base {w : World} {b : Nat} {v : Value} {n : Nat} {xs : List Value} (h : w.ownsRow b 64 1 v n xs) : w.ownsRow 0 64 1 v n xs := by
  refine ⟨h.1, ?_⟩
  rcases h.2 with e | ⟨g, c, cur, hv, -, r⟩
  · exact .inl e
  · exact .inr ⟨g, c, cur, hv, Nat.zero_le _, r⟩
theorem own_ge {w : World} {b g n cap : Nat} {xs : List Value} (h : w.ownsRow b 64 1 (.slice (some ⟨g, 0, none⟩) n cap) n xs) : b ≤ g := by
  rcases h.2 with ⟨e, -⟩ | ⟨g', c, cur, hv, hb, r⟩
  · cases e
  · simp only [Value.slice.injEq, Option.some.injEq, Addr.mk.injEq] at hv
    omega
theorem cells_of {w w' : World} {g : Nat} {vs : List Value} (h : w.heap[g]? = w'.heap[g]?) (hc : ∀ i, i < vs.length → w.cell? ⟨g, i, none⟩ = some (vs.getD i .nilIface)) : ∀ j u, vs[j]? = some u → w'.cell? ((⟨g, 0, none⟩ : Addr).add j) = some u := by
  intro j u hj
  have hl := (List.getElem?_eq_some_iff.1 hj).1
  have := hc j hl
  have e : w'.cell? ((⟨g, 0, none⟩ : Addr).add j) = w.cell? ⟨g, j, none⟩ := by by_cases e0 : j = 0 <;> simp [World.cell?, Addr.add, h, e0]
  rw [e, this, List.getD_eq_getElem?_getD, hj]
  rfl
theorem under_post {w w1 w2 : World} {p : Nat} {o1 o2 : Obj} {x0 : Value} {vs : List Value} {x : Value} {g1 g cap : Nat} (hH : Blk w p #[x0, .bool true] 62) (g1w : w.heap.size ≤ g1)
    (hg1 : ((w.alloc o1).alloc o2).grownBy w1 (some w.heap.size)) (hg2 : w1.grownBy w2 (some g1)) (hn : vs.length < 5) (hown : w2.ownsRow w.heap.size 64 1 (.slice (some ⟨g, 0, none⟩) (1 + vs.length) cap) (1 + vs.length) ([x] ++ vs)) :
    StQ (fun k => k < w.heap.size ∧ k ≠ p) (w2.setCell ⟨p, 0, none⟩ (.slice (some ⟨g, 0, none⟩) (1 + vs.length) cap)) p (x :: vs) ∧ Kept (fun k => k < w.heap.size ∧ k ≠ p) w (w2.setCell ⟨p, 0, none⟩ (.slice (some ⟨g, 0, none⟩) (1 + vs.length) cap)) := by
  have lp := hH.lt
  have z1 : w.heap.size + 2 ≤ w1.heap.size := by have := hg1.size; simp at this; omega
  have z2 : w1.heap.size ≤ w2.heap.size := hg2.size
  have old : ∀ k, k < w.heap.size → w2.heap[k]? = w.heap[k]? := by
    intro k hk
    rw [hg2.block k (by omega) (by intro e; simp at e; omega), hg1.block k (by simp; omega) (by intro e; simp at e; omega), Below.heap_alloc _ _ _ (by simp; omega), Below.heap_alloc _ _ _ hk]
  have P2 : Blk w2 p #[x0, .bool true] 62 := (old p lp).trans hH
  have gw := own_ge hown
  have hl : (x :: vs).length = 1 + vs.length := by simp; omega
  have hm := vstoreQ (K := fun k => k < w.heap.size ∧ k ≠ p) (w := w2) (g := g) (cap := cap) (vs := x :: vs) P2 (by rw [hl]; simpa using own_base hown) (by omega) (by rw [hl]; omega) (fun e => e.2 rfl) (fun e => by have := e.1; omega) (fun k hk => by have := hk.1; omega)
  rw [hl] at hm
  exact ⟨⟨_, _, hm⟩, Kept.setCell (a := w) ⟨hg2.os.trans hg1.os, hg2.tape.trans hg1.tape, hg2.output.trans hg1.output, by omega, fun k hk => old k hk.1⟩ (fun e => e.2 rfl) _⟩
set_option maxRecDepth 100000 in
set_option maxHeartbeats 4000000 in
theorem under_ok (K : Nat → Prop) (w : World) (p : Nat) (vs : List Value) (t : TypeId) (v : Value) (h : StQ K w p vs) (hn : vs.length < 5) (h0 : 0 < vs.length) (hone : ∀ u ∈ vs, u.oneCell' = true) :
    Calls Try.prog 96 #[ptr p, .iface t v] w fun e w' => e = .returned (.tuple #[]) ∧ StQ (fun k => k < w.heap.size ∧ k ≠ p) w' p (.iface t v :: vs) ∧ Kept (fun k => k < w.heap.size ∧ k ≠ p) w w' := by
  obtain ⟨a, cap, hA⟩ := h
  obtain ⟨c0, c1, f0, f1, lp⟩ := hA.at0
  obtain ⟨i0, hi, hz0, hz1, hz2⟩ := info_parts vInfo
  have h5 : ¬ (5 : Int) ≤ (vs.length : Int) := by omega
  have w1 := wr64 ((vs.length : Int) + 1) (by omega) (by omega)
  obtain ⟨g0, rfl, hcells, hle, hgp, hgl⟩ := hA.form h0
  have hH := hA.head
  clear hA
  have hmk : ∀ W : World, (Instr.makeSlice 60 (.int .i64 0) (.int .i64 ((vs.length : Int) + 1))).run Try.prog W = .ok (.slice (some ⟨W.heap.size, 0, none⟩) 0 (vs.length + 1)) (W.alloc (.cells (madeCells #[.nilIface] (vs.length + 1)) 64)) := by
    intro W
    have := run_make (P := Try.prog) W 60 64 i0 .nilIface Try.underlying60 hi hz0 .i64 .i64 0 ((vs.length : Int) + 1) (by omega) (by omega) (by rw [hz2]; omega) (by omega)
    rw [hz1, Nat.mul_one, show ((vs.length : Int) + 1).toNat = vs.length + 1 by omega] at this
    exact this
  go_enter Try.func96, Try.ntmps96
  have HO : (w.alloc (.cells (madeCells #[.nilIface] (vs.length + 1)) 64)).ownsRow w.heap.size 64 1 (.slice (some ⟨w.heap.size, 0, none⟩) 0 (vs.length + 1)) 0 [] := World.ownsRow_made w _ (vs.length + 1) (Nat.le_refl _) (by unfold maxLen; omega) (by rw [size_madeCells, Nat.mul_one])
  go_wp2_with (first
    | (at_builtin; refine wpList_append_lies _ rfl (.tmp 19) (.tmp 21) 60 rfl w.heap.size 64 i0 .nilIface 1 16 Try.underlying60 hi hz0 hz1 hz2 rfl (by decide) (.slice (some ⟨w.heap.size, 0, none⟩) 0 (vs.length + 1)) 0 [] rfl (World.ownsRow.alloc HO _) ⟨w.heap.size + 1, 0, none⟩ 1 1 [.iface t v] (by simp [Act.eval]) rfl (by simpa using cell_one_new (w.alloc (.cells (madeCells #[.nilIface] (vs.length + 1)) 64)) (.iface t v) 64) (by intro u hu; simp at hu; subst hu; rfl) (by decide) (by unfold maxLen; omega) (by omega) (by simp; omega) _ rfl ?_; intro g1 cap1 w2 hown1 hgrow1 hat1 hlt1; rw [own_slice] at hgrow1; have P2 : Blk w2 p #[.slice (some ⟨g0, 0, none⟩) vs.length cap, .bool true] 62 := (hgrow1.block p (by simp; omega) (by intro e; simp [blk?] at e; omega)).trans ((hH.old _).old _); have d0 := P2.cell 0; have d1 := P2.frozen 0; have gw1 := own_ge hown1; have HC : Hid (w.heap[g0]? = w2.heap[g0]?) := (Below.heap_alloc _ _ _ hgl).symm.trans ((Below.heap_alloc _ _ _ (by simp; omega)).symm.trans (hgrow1.block g0 (by simp; omega) (by intro e; simp [blk?] at e; omega)).symm); have HO1 : Hid _ := hown1; clear hown1)
    | (at_builtin; go_loud (refine wpList_append_lies _ rfl (.tmp 23) (.tmp 27) 60 rfl w.heap.size 64 i0 .nilIface 1 16 Try.underlying60 hi hz0 hz1 hz2 rfl (by decide) (.slice (some ⟨g1, 0, none⟩) 1 cap1) 1 [.iface t v] (by simp [Act.eval]) HO1.out ⟨g0, 0, none⟩ vs.length cap vs (by simp [Act.eval]) (by omega) (cells_of HC.out hcells) hone h0 (by unfold maxLen; omega) (by omega) (by have := hgrow1.size; simp at this; omega) _ rfl ?_); intro g2 cap2 w3 hown2 hgrow2 hat2 hlt2; go_loud (rw [own_slice] at hgrow2); have P3 : Blk w3 p #[.slice (some ⟨g0, 0, none⟩) vs.length cap, .bool true] 62 := (hgrow2.block p (by have := P2.lt; omega) (by intro e; simp [blk?] at e; omega)).trans P2; have e0 := P3.cell 0; have e1 := P3.frozen 0))
  go_end0
  exact ⟨rfl, under_post hH gw1 hgrow1 hgrow2 hn hown2⟩
end Go.Proofs.Qxb6500470a
