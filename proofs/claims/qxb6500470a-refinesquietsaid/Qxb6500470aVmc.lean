import Derived.Test.Qxb6500470aVmb
import Derived.Deep.RegionLaw
namespace Go.Proofs.Qxb6500470a
open Go.RowKit
theorem news_of {w W : World} {g : Nat} {cs : List Value} (hc : ∀ j u, cs[j]? = some u → w.cell? ⟨g, j, none⟩ = some u) (hg : g < w.heap.size) (B : Below w.heap.size w W) : ∀ j u, cs[j]? = some u → W.cell? ((⟨g, 0, none⟩ : Addr).add j) = some u := by
  intro j u h
  have e : (⟨g, 0, none⟩ : Addr).add j = ⟨g, j, none⟩ := by rw [Addr.add_lit]; simp
  rw [e]
  exact (B.cell (p := ⟨g, j, none⟩) hg).trans (hc j u h)
set_option maxRecDepth 100000 in
set_option maxHeartbeats 16000000 in
theorem mCons_cons (K : Nat → Prop) (w : World) (p : Nat) (y x : TV) (r : List TV) (h : MT K w p (y :: x :: r)) (hy : (text y).length ≤ 30) (hx : (text x).length ≤ 30) (hxl : x.isList = true) (hx0 : 0 < (kidsM x).length) : Calls Try.prog 104 #[ptr p] w (Wm K w p (wPutM 2 (.cons y x) (y :: x :: r))) := by
  have h5 := h.len
  obtain ⟨g, cap, c0, c1, c2, c3, hp, hg, kg, lg, lp, hle, fp, h0, h1, h2, h3, hmy⟩ := h.val (r.length + 1) 0 (by simp)
  obtain ⟨g', cap', d0, d1, d2, d3, hp', -, -, -, -, -, -, k0, k1, k2, k3, hmx⟩ := h.val r.length 1 (by simp)
  have e := hp.symm.trans hp'
  simp only [Option.some.injEq, Value.slice.injEq, Addr.mk.injEq, and_true, true_and] at e
  obtain ⟨rfl, rfl⟩ := e
  have hmy : MR K w y c0 c1 c2 c3 := hmy
  have hone1 := (MRs.one hmy).cells1
  have hmx : MR K w x d0 d1 d2 d3 := hmx
  obtain ⟨e0, e1, e2, -, -, cs, hks, hrow⟩ := hmx.open
  obtain ⟨gk, capk, e3, kgk, hlek, hc, lgk⟩ := hrow.form hx0
  have ht : tagM x = 3 := by cases x <;> first | rfl | cases hxl
  rw [ht] at e0
  subst e0 e1 e2 e3
  have hkl := kids_len x
  have hcl := hks.len
  have hone := hks.cells1
  obtain ⟨i0, hi, hz0, hz1, hz2⟩ := info_parts mInfo
  have B0 : Below w.heap.size w (w.alloc (.cells #[c0, c1, c2, c3] 137)) := (Below.refl _ _).alloc (Nat.le_refl _) _
  have B1 : Below w.heap.size w (((w.alloc (.cells #[c0, c1, c2, c3] 137)).alloc (.cells #[I 3, I 0, S [], .slice (some ⟨w.heap.size, 0, none⟩) 1 1] 137)).drew) := (B0.alloc B0.size _).drew
  have X0 : Blk (w.alloc (.cells #[c0, c1, c2, c3] 137)) w.heap.size #[c0, c1, c2, c3] 137 := Blk.new rfl
  have X1 : Blk (((w.alloc (.cells #[c0, c1, c2, c3] 137)).alloc (.cells #[I 3, I 0, S [], .slice (some ⟨w.heap.size, 0, none⟩) 1 1] 137)).drew) w.heap.size #[c0, c1, c2, c3] 137 := (X0.old _).drew
  have X2 : Blk (((w.alloc (.cells #[c0, c1, c2, c3] 137)).alloc (.cells #[I 3, I 0, S [], .slice (some ⟨w.heap.size, 0, none⟩) 1 1] 137)).drew) (w.heap.size + 1) #[I 3, I 0, S [], .slice (some ⟨w.heap.size, 0, none⟩) 1 1] 137 := (Blk.new (World.size_alloc _ _).symm).drew
  have HO : Hid _ := (RowK.new (K := fun _ => True) (n := 1) X1 rfl (by decide) trivial).1
  have HN : Hid _ := news_of hc lgk B1
  have PP : ∀ g cap' W, Below w.heap.size w W → w.heap.size ≤ g → g < W.heap.size → W.ownsRow 0 137 4 (.slice (some ⟨g, 0, none⟩) (1 + (kidsM x).length) cap') (1 + (kidsM x).length) ([c0, c1, c2, c3] ++ cs) → Calls Try.prog 114 #[ptr p, I 2, .agg #[I 3, I 0, S [], .slice (some ⟨g, 0, none⟩) (1 + (kidsM x).length) cap']] W (fun e w' => e = .returned (I (wPutM 2 (.cons y x) (y :: x :: r)).2) ∧ TurnM K w p (wPutM 2 (.cons y x) (y :: x :: r)).1 w') := by
    intro g cap' W B hg1 hg2 hown
    have kk := Kept.of_below B h.ks
    refine put_new K (fun k => K k ∨ k = g) w W p 2 _ h (by simp) (.cons y x) _ _ _ _ B (fun _ e => .inl e) (fun k e => e.imp id (fun e => by subst e; exact ⟨hg1, hg2⟩)) ?_ (cons_len y x hy hx)
    exact mCons hxl ((MRs.one ((hmy.kept kk).mono (fun _ e => .inl e))).append ((hks.kept kk).mono (fun _ e => .inl e))) (RowK.of_own hown (.inr rfl))
  have HPP : Hid _ := PP
  generalize wPutM 2 (.cons y x) (y :: x :: r) = R at *
  have hlw := B1.size
  have hl : (y :: x :: r).length = r.length + 2 := rfl
  rw [hl] at hp hle h5
  clear hp'
  clear PP h hmy hmx hks hrow hc ht
  generalize (kidsM x).length = M at *
  generalize numM x = nu at *
  generalize strM x = sx at *
  generalize r.length = m at *
  have w1 := wr64 (m : Int) (by omega) (by omega)
  have w2 := wr64 ((m : Int) + 1) (by omega) (by omega)
  have q1 : ¬ ((m : Int) + 2) < 2 := by omega
  have e1 : (m : Int) + 2 - 1 = (m : Int) + 1 := by omega
  have e2 : (m : Int) + 2 - 2 = (m : Int) := by omega
  have q3 : (m : Int) < (m : Int) + 2 := by omega
  have q4 : (m : Int) + 1 < (m : Int) + 2 := by omega
  have q5 : 0 ≤ (m : Int) + 1 := by omega
  go_enter Try.func104, Try.ntmps104
  go_wp2_with fail
  go_region_law
    ((refine step_append_lies _ (by rfl) _ _ _ (by rfl) 0 137 i0 _ 4 56 Try.underlying124 hi hz0 hz1 hz2 rfl (by decide) (.slice (some ⟨w.heap.size, 0, none⟩) 1 1) 1 _ (by rfl) HO.out
        ⟨gk, 0, none⟩ M capk cs (by rfl) hcl HN.out hone
        hx0 (by unfold maxLen; omega) (by omega) (Nat.zero_le _) (w.heap.size + 2) (by simp) ?_; intro g2 cap2 w3 hown hgrow hat hlt; have Z : Blk w3 (w.heap.size + 1) #[I 3, I 0, S [], .slice (some ⟨w.heap.size, 0, none⟩) 1 1] 137 := (hgrow.block (w.heap.size + 1) (by simp) (by simp [Value.ownBlock])).trans X2; have z0 := Z.cell 0; have z1 := Z.cell 1; have z2 := Z.cell 2; have z3 := Z.cell 3; have z4 := Z.frozen 3))
  all_goals
    have B3 : Below w.heap.size w w3 := B1.trans ⟨hgrow.os, hgrow.tape, hgrow.output, hgrow.size, fun k hk => hgrow.block k (by simp; omega) (by simp [Value.ownBlock]; omega)⟩
    have hg2 : w.heap.size ≤ g2 ∧ g2 ≠ w.heap.size + 1 := by
      rcases hat with e | e
      · have : w.heap.size = g2 := by simpa [Value.ownBlock] using e
        omega
      · omega
    have HO3 : Hid _ := own_set (b := w.heap.size + 1) (i := 3) (v := .slice (some ⟨g2, 0, none⟩) (1 + M) cap2) hown hg2.2
    have lt3 : Hid (g2 < (w3.setCell ⟨w.heap.size + 1, 3, none⟩ (.slice (some ⟨g2, 0, none⟩) (1 + M) cap2)).heap.size) := by
      show g2 < _
      simpa [World.setCell] using hlt
    clear hown hgrow hat
    go_wp2_with fail
    refine (HPP.out g2 cap2 _ (B3.setCell (Nat.le_succ _) _) hg2.1 lt3.out HO3.out).mono ?_
    rintro e w' ⟨rfl, tn⟩
    go_wp2
    go_ret
    exact ⟨rfl, tn⟩
end Go.Proofs.Qxb6500470a
