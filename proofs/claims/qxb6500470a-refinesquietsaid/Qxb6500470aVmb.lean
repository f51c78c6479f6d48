import Derived.Test.Qxb6500470aVm7
import Derived.Deep.RegionLaw
namespace Go.Proofs.Qxb6500470a
open Go.RowKit
theorem MT.ext {K K' : Nat → Prop} {w w' : World} {p : Nat} {st : List TV} (h : MT K w p st) (b : Below w.heap.size w w') (hs : ∀ k, K k → K' k) (hn : ∀ k, K' k → K k ∨ (w.heap.size ≤ k ∧ k < w'.heap.size)) : MT K' w' p st := by
  obtain ⟨a, cap, cs, h⟩ := h
  have hl := own_lt h.own
  have hp := h.head.lt
  have h' := h.later b
  refine ⟨a, cap, cs, h'.head, h'.own, h'.vals.mono hs, h'.far, fun e => ?_, fun g hg e => ?_, fun k e => ?_, h'.le⟩
  · rcases hn p e with e | e
    · exact h'.kp e
    · omega
  · rcases hn g e with e | e
    · exact h'.ka g hg e
    · have := hl g hg; omega
  · rcases hn k e with e | e
    · exact h'.ks k e
    · exact e.2
/-- put of a new value whose rows may be new. -/
theorem put_new (K K' : Nat → Prop) (w W : World) (p d : Nat) (st : List TV) (h : MT K w p st) (hd : d ≤ st.length) (z : TV) (c0 c1 c2 c3 : Value) (B : Below w.heap.size w W) (hs : ∀ k, K k → K' k) (hn : ∀ k, K' k → K k ∨ (w.heap.size ≤ k ∧ k < W.heap.size)) (hz : MR K' W z c0 c1 c2 c3) (hl : (text z).length ≤ 1000) :
    Calls Try.prog 114 #[ptr p, I d, .agg #[c0, c1, c2, c3]] W (fun e w' => e = .returned (I (wPutM d z st).2) ∧ TurnM K w p (wPutM d z st).1 w') := by
  refine (put_w K' W p d st (h.ext B hs hn) hd z c0 c1 c2 c3 hz hl).mono ?_
  rintro e w' ⟨rfl, tn⟩
  exact ⟨rfl, .trans hs (fun k e => (hn k e).imp id (fun e => e.1)) (Kept.of_below B h.ks) tn⟩
theorem kids_list {x : TV} (h : x.isList = true) : kidsM x = elems x := by cases x <;> first | rfl | cases h
theorem mCons {K : Nat → Prop} {W : World} {y x : TV} {c3 : Value} {cs : List Value} (hx : x.isList = true) (hk : MRs K W (y :: kidsM x) cs) (hr : RowK K W c3 (1 + (kidsM x).length) cs) : MR K W (.cons y x) (I 3) (I 0) (S []) c3 := by
  rw [kids_list hx] at hk hr
  obtain ⟨d0, d1, d2, d3, r, rfl, ha, ht⟩ := hk
  exact ⟨rfl, rfl, rfl, d0, d1, d2, d3, r, ha, (mv2 K W x r).2 ht, hr⟩
theorem cons_len (y x : TV) (hy : (text y).length ≤ 30) (hx : (text x).length ≤ 30) : (text (.cons y x)).length ≤ 1000 := by
  have := inner_len x
  rw [text_cons, inner_cons]
  split <;> simp <;> omega
theorem RowK.of_own {K : Nat → Prop} {W : World} {g n cap : Nat} {cs : List Value} (h : W.ownsRow 0 137 4 (.slice (some ⟨g, 0, none⟩) n cap) n cs) (kg : K g) : RowK K W (.slice (some ⟨g, 0, none⟩) n cap) n cs := by
  refine ⟨h, fun g' hg' => ?_⟩
  obtain rfl : g = g' := by simpa [Value.ownBlock] using hg'
  exact kg
theorem own_set {W : World} {g n cap b i : Nat} {cs : List Value} {v : Value} (h : W.ownsRow 0 137 4 (.slice (some ⟨g, 0, none⟩) n cap) n cs) (hne : g ≠ b) : (W.setCell ⟨b, i, none⟩ v).ownsRow 0 137 4 (.slice (some ⟨g, 0, none⟩) n cap) n cs :=
  own_kept (L := fun k => k ≠ b) h ⟨rfl, rfl, rfl, by simp [World.setCell], fun k hk => Below.heap_setCell _ _ _ _ hk⟩ (fun g' hg' => by
    obtain rfl : g = g' := by simpa [blk?] using hg'
    exact hne)
set_option maxRecDepth 100000 in
set_option maxHeartbeats 16000000 in
theorem mCons_kind (K : Nat → Prop) (w : World) (p : Nat) (y x : TV) (r : List TV) (h : MT K w p (y :: x :: r)) (hx : x.isList = false) : Calls Try.prog 104 #[ptr p] w fun e w' => e = .returned (I 2) ∧ w' = w := by
  have h5 := h.len
  obtain ⟨g, cap, c0, c1, c2, c3, hp, hg, kg, lg, lp, hle, fp, h0, h1, h2, h3, hmy⟩ := h.val (r.length + 1) 0 (by simp)
  obtain ⟨g', cap', d0, d1, d2, d3, hp', -, -, -, -, -, -, k0, k1, k2, k3, hmx⟩ := h.val r.length 1 (by simp)
  have e := hp.symm.trans hp'
  simp only [Option.some.injEq, Value.slice.injEq, Addr.mk.injEq, and_true, true_and] at e
  obtain ⟨rfl, rfl⟩ := e
  have hmy : MR K w y c0 c1 c2 c3 := hmy
  have hone1 := (MRs.one hmy).cells1
  have hmx : MR K w x d0 d1 d2 d3 := hmx
  obtain ⟨rfl, -⟩ := hmx.open
  have ht : ¬ tagM x = 3 := by cases x <;> first | (simp [tagM]; done) | cases hx
  have ht1 : (tagM x != 3) = true := by simpa using ht
  have ht2 : (tagM x == 3) = false := by simpa using ht
  have hl : (y :: x :: r).length = r.length + 2 := rfl
  rw [hl] at hp hle h5
  clear hp'
  generalize tagM x = tg at *
  clear h hmy hmx
  generalize r.length = m at *
  have w1 := wr64 (m : Int) (by omega) (by omega)
  have w2 := wr64 ((m : Int) + 1) (by omega) (by omega)
  have q1 : ¬ ((m : Int) + 2) < 2 := by omega
  have e1 : (m : Int) + 2 - 1 = (m : Int) + 1 := by omega
  have e2 : (m : Int) + 2 - 2 = (m : Int) := by omega
  have q3 : (m : Int) < (m : Int) + 2 := by omega
  have q4 : (m : Int) + 1 < (m : Int) + 2 := by omega
  have q5 : 0 ≤ (m : Int) + 1 := by omega
  go_enter Try.func104, Try.ntmps104
  go_wp2
  go_ret
  exact ⟨rfl, rfl⟩
set_option maxRecDepth 100000 in
set_option maxHeartbeats 16000000 in
theorem mCons_nil (K : Nat → Prop) (w : World) (p : Nat) (y : TV) (r : List TV) (h : MT K w p (y :: .nil :: r)) (hy : (text y).length ≤ 30) : Calls Try.prog 104 #[ptr p] w (Wm K w p (wPutM 2 (.cons y .nil) (y :: .nil :: r))) := by
  have h5 := h.len
  obtain ⟨g, cap, c0, c1, c2, c3, hp, hg, kg, lg, lp, hle, fp, h0, h1, h2, h3, hmy⟩ := h.val (r.length + 1) 0 (by simp)
  obtain ⟨g', cap', d0, d1, d2, d3, hp', -, -, -, -, -, -, k0, k1, k2, k3, hmx⟩ := h.val r.length 1 (by simp)
  have e := hp.symm.trans hp'
  simp only [Option.some.injEq, Value.slice.injEq, Addr.mk.injEq, and_true, true_and] at e
  obtain ⟨rfl, rfl⟩ := e
  have hmy : MR K w y c0 c1 c2 c3 := hmy
  have hone1 := (MRs.one hmy).cells1
  have hmx : MR K w .nil d0 d1 d2 d3 := hmx
  obtain ⟨rfl, rfl, rfl, rfl⟩ := hmx
  have B0 : Below w.heap.size w (w.alloc (.cells #[c0, c1, c2, c3] 137)) := (Below.refl _ _).alloc (Nat.le_refl _) _
  have X0 : Blk (w.alloc (.cells #[c0, c1, c2, c3] 137)) w.heap.size #[c0, c1, c2, c3] 137 := Blk.new rfl
  have PP : ∀ W, Below w.heap.size w W → Blk W w.heap.size #[c0, c1, c2, c3] 137 → Calls Try.prog 114 #[ptr p, I 2, .agg #[I 3, I 0, S [], .slice (some ⟨w.heap.size, 0, none⟩) 1 1]] W (fun e w' => e = .returned (I (wPutM 2 (.cons y .nil) (y :: .nil :: r)).2) ∧ TurnM K w p (wPutM 2 (.cons y .nil) (y :: .nil :: r)).1 w') := by
    intro W B X
    have kk := Kept.of_below B h.ks
    refine put_new K (fun k => K k ∨ k = w.heap.size) w W p 2 _ h (by simp) (.cons y .nil) _ _ _ _ B (fun _ e => .inl e) (fun k e => e.imp id (fun e => by subst e; exact ⟨Nat.le_refl _, X.lt⟩)) ?_ (cons_len y .nil hy (by decide))
    exact mCons (cs := [c0, c1, c2, c3]) rfl (.one ((hmy.kept kk).mono (fun _ e => .inl e))) (RowK.new (n := 1) X rfl (by decide) (.inr rfl))
  have HPP : Hid _ := PP
  generalize wPutM 2 (.cons y .nil) (y :: .nil :: r) = R at *
  have hl : (y :: .nil :: r).length = r.length + 2 := rfl
  rw [hl] at hp hle h5
  clear hp'
  clear PP h hmy
  generalize r.length = m at *
  have w1 := wr64 (m : Int) (by omega) (by omega)
  have w2 := wr64 ((m : Int) + 1) (by omega) (by omega)
  have q1 : ¬ ((m : Int) + 2) < 2 := by omega
  have e1 : (m : Int) + 2 - 1 = (m : Int) + 1 := by omega
  have e2 : (m : Int) + 2 - 2 = (m : Int) := by omega
  have q3 : (m : Int) < (m : Int) + 2 := by omega
  have q4 : (m : Int) + 1 < (m : Int) + 2 := by omega
  have q5 : 0 ≤ (m : Int) + 1 := by omega
  go_enter Try.func104, Try.ntmps104
  go_wp2_with fail
  go_region
  all_goals
    go_wp2_with fail
    refine (HPP.out _ (B0.alloc B0.size _).drew (X0.old _).drew).mono ?_
    rintro e w' ⟨rfl, tn⟩
    go_wp2
    go_ret
    exact ⟨rfl, tn⟩
end Go.Proofs.Qxb6500470a
