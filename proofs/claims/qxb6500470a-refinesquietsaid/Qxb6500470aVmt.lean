import Derived.Test.Qxb6500470aVmr
import Derived.Deep.RegionLaw
namespace Go.Proofs.Qxb6500470a
open Go.RowKit
theorem puts_post {K : Nat → Prop} {w w1 : World} {p : Nat} {a : Option Addr} {cap n : Nat} {xs ys : List TV} {cs ds : List Value} {g cap' : Nat} (h : MSA K w p a cap xs cs) (hy : MRs K w ys ds) (hn : n + ys.length ≤ 5) (hnv : n ≤ xs.length)
    (hown : w1.ownsRow 0 137 4 (.slice (some ⟨g, 0, none⟩) (n + ys.length) cap') (n + ys.length) (cs.take (n * 4) ++ ds)) (hgrow : w.grownBy w1 (blk? a)) (hat : blk? a = some g ∨ w.heap.size ≤ g) :
    MS K (w1.setCell ⟨p, 0, none⟩ (.slice (some ⟨g, 0, none⟩) (n + ys.length) cap')) p (xs.take n ++ ys) ∧ Kept K w (w1.setCell ⟨p, 0, none⟩ (.slice (some ⟨g, 0, none⟩) (n + ys.length) cap')) := by
  have lp := h.head.lt
  have P1 : Blk w1 p #[.slice a xs.length cap] 126 := (hgrow.block p lp (fun e => h.far e.symm)).trans h.head
  have hl : (xs.take n ++ ys).length = n + ys.length := by simp; omega
  have hgp : g ≠ p := by
    rcases hat with e | e
    · intro e2; subst e2; exact h.far e
    · omega
  have kg : ¬ K g := by
    rcases hat with e | e
    · exact h.ka g e
    · intro hk; have := h.ks g hk; omega
  have kg' : ∀ g', blk? (some ⟨g, 0, none⟩) = some g' → ¬ K g' := by
    intro g' e
    obtain rfl : g = g' := by simpa [blk?] using e
    exact kg
  have kk1 : Kept K w w1 := ⟨hgrow.os, hgrow.tape, hgrow.output, hgrow.size, fun j hj => hgrow.block j (h.ks j hj) (fun e => h.ka j e.symm hj)⟩
  have kk : Kept K w (w1.setCell ⟨p, 0, none⟩ (.slice (some ⟨g, 0, none⟩) (n + ys.length) cap')) := kk1.setCell h.kp _
  refine ⟨⟨some ⟨g, 0, none⟩, cap', cs.take (n * 4) ++ ds, ?_, ?_, ((h.vals.take n).append hy).kept kk, fun e => hgp (by simpa [blk?] using e), h.kp, kg', fun k hk => Nat.lt_of_lt_of_le (h.ks k hk) kk.size, by rw [hl]; exact hn⟩, kk⟩
  · rw [hl]
    exact P1.set (i := 0) _
  · rw [hl]
    refine ⟨hown.1, ?_⟩
    rcases hown.2 with h0 | ⟨g', c, cur, hv, h1, hg, h2⟩
    · exact .inl h0
    · refine .inr ⟨g', c, cur, hv, h1, ?_, h2⟩
      have e : g = g' := by simp only [Value.slice.injEq, Option.some.injEq, Addr.mk.injEq] at hv; exact hv.1.1
      subst e
      exact Blk.other (w := w1) (t := 137) hg (a := ⟨p, 0, none⟩) hgp _
set_option maxRecDepth 100000 in
set_option maxHeartbeats 16000000 in
theorem mEx2_go (K : Nat → Prop) (w : World) (p : Nat) (x : TV) (r : List TV) (h : MT K w p (x :: r)) (lx : (text x).length ≤ 30) (ht : tagM x = 3 ∨ tagM x = 4) (hn0 : 0 < (kidsM x).length) (hn : r.length + (kidsM x).length ≤ 5) : Calls Try.prog 100 #[ptr p, I 2] w (Wm K w p ((kidsM x).reverse ++ r, 0)) := by
  have h5 := h.len
  obtain ⟨g, cap, c0, c1, c2, c3, hp, hg, kg, lg, lp, hle, fp, h0, h1, h2, h3, hm⟩ := h.val r.length 0 (by simp)
  have hm : MR K w x c0 c1 c2 c3 := hm
  have HM : Hid (MR K w x c0 c1 c2 c3) := hm
  obtain ⟨e0, e1, e2, hb, hk0, cs, hks, hrow⟩ := hm.open
  obtain ⟨gk, capk, e3, kgk, hlek, hc, lgk⟩ := hrow.form hn0
  subst e0 e1 e2 e3
  have hl : (x :: r).length = r.length + 1 := rfl
  rw [hl] at hp hle h5
  have B0 := (Below.refl w.heap.size w).alloc (Nat.le_refl _) (.cells #[I (tagM x), I (numM x), S (strM x), .slice (some ⟨gk, 0, none⟩) (kidsM x).length capk] 137)
  have HH := has_w (tagM x) 4 (tag_in x) (by decide) (w.alloc (.cells #[I (tagM x), I (numM x), S (strM x), .slice (some ⟨gk, 0, none⟩) (kidsM x).length capk] 137))
  have e3 : hasT (tagM x) 4 = true := by rcases ht with e | e <;> simp [hasT, e]
  rw [e3] at HH
  have ks := h.ks
  have hkl := kids_len x
  obtain ⟨a, cap', cs', hA⟩ := h
  have hpa := hA.at0.1
  have hlr : (x :: r).reverse.length = r.length + 1 := by simp
  rw [hlr, hp] at hpa
  simp only [Option.some.injEq, Value.slice.injEq, true_and] at hpa
  obtain ⟨rfl, rfl⟩ := hpa
  obtain ⟨i0, hi, hz0, hz1, hz2⟩ := info_parts mInfo
  have hA1 := (hA.later B0).later (w' := (w.alloc (.cells #[I (tagM x), I (numM x), S (strM x), .slice (some ⟨gk, 0, none⟩) (kidsM x).length capk] 137)).drew) ((Below.refl _ _).drew)
  have HO : Hid _ := own_pre4 hA1.own (show r.length ≤ (x :: r).reverse.length by rw [hlr]; omega)
  have HN : Hid _ := news_of hc lgk B0.drew
  have hks1 := hks.kept (Kept.of_below B0.drew ks)
  have hone := hks.cells1
  have hcl := hks.len
  have FIN : Hid (∀ g2 cap2 w2, w2.ownsRow 0 137 4 (.slice (some ⟨g2, 0, none⟩) (r.length + (kidsM x).length) cap2) (r.length + (kidsM x).length) (cs'.take (r.length * 4) ++ cs) → (w.alloc (.cells #[I (tagM x), I (numM x), S (strM x), .slice (some ⟨gk, 0, none⟩) (kidsM x).length capk] 137)).drew.grownBy w2 (some g) → (some g = some g2 ∨ (w.alloc (.cells #[I (tagM x), I (numM x), S (strM x), .slice (some ⟨gk, 0, none⟩) (kidsM x).length capk] 137)).drew.heap.size ≤ g2) → Wm K w p ((kidsM x).reverse ++ r, 0) (.returned (I 0)) (w2.setCell ⟨p, 0, none⟩ (.slice (some ⟨g2, 0, none⟩) (r.length + (kidsM x).length) cap2))) := by
    intro g2 cap2 w2 hown hgrow hat
    have := puts_post hA1 hks1 hn (by rw [hlr]; omega) hown hgrow hat
    have e1 : (x :: r).reverse.take r.length ++ kidsM x = ((kidsM x).reverse ++ r).reverse := by simp
    rw [e1] at this
    exact ⟨rfl, K, fun _ h => h, fun _ h => .inl h, this.1, (Kept.of_below B0.drew ks).trans this.2⟩
  have HHD : Hid (Blk (w.alloc (.cells #[I (tagM x), I (numM x), S (strM x), .slice (some ⟨gk, 0, none⟩) (kidsM x).length capk] 137)).drew p #[.slice (some ⟨g, 0, none⟩) (r.length + 1) cap] 126) := by have := hA1.head; rw [hlr] at this; exact this
  have hXB : Hid (Blk (w.alloc (.cells #[I (tagM x), I (numM x), S (strM x), .slice (some ⟨gk, 0, none⟩) (kidsM x).length capk] 137)).drew w.heap.size #[I (tagM x), I (numM x), S (strM x), .slice (some ⟨gk, 0, none⟩) (kidsM x).length capk] 137) := Blk.drew (Blk.new rfl)
  have hszd : (w.alloc (.cells #[I (tagM x), I (numM x), S (strM x), .slice (some ⟨gk, 0, none⟩) (kidsM x).length capk] 137)).drew.heap.size = w.heap.size + 1 := World.size_alloc _ _
  have hne : w.heap.size ≠ p := by omega
  have hgw : g ≠ w.heap.size := by omega
  have qc0 : r.length + 1 ≤ cap := hle
  clear hks hrow hk0 hb HM hm e3 ht hA hA1 hks1 hc hlr
  generalize r.length = m at *
  have w1 := wr64 (m : Int) (by omega) (by omega)
  have q1 : ¬ ((m : Int) + 1) < 1 := by omega
  generalize tagM x = tg at *
  generalize numM x = nu at *
  generalize strM x = sx at *
  generalize (kidsM x).length = M at *
  have q6 : ¬ (5 : Int) < (m : Int) + (M : Int) := by omega
  have w6 := wr64 ((m : Int) + (M : Int)) (by omega) (by omega)
  have qc : (m : Int) ≤ (cap : Int) := by omega
  have qc2 : m ≤ cap := by omega
  go_enter Try.func100, Try.ntmps100
  go_wp2_with fail
  refine HH.mono ?_
  rintro e w' ⟨rfl, rfl⟩
  go_wp2_with fail
  go_region_law
    ((refine step_append_lies _ (by rfl) _ _ _ (by rfl) 0 137 i0 _ 4 56 Try.underlying124 hi hz0 hz1 hz2 rfl (by decide) (.slice (some ⟨g, 0, none⟩) m cap) m _ (by rfl) HO.out
        ⟨gk, 0, none⟩ M capk cs (by rfl) hcl HN.out hone
        hn0 (by unfold maxLen; omega) (by omega) (Nat.zero_le _) _ rfl ?_; intro g2 cap2 w2 hown hgrow hat hlt; have P2 : Blk w2 p #[.slice (some ⟨g, 0, none⟩) (m + 1) cap] 126 := (hgrow.block p (Nat.lt_of_lt_of_eq (Nat.lt_succ_of_lt lp) hszd.symm) (by simp [Value.ownBlock]; omega)).trans HHD.out; have e0 := P2.cell 0; have e2 := P2.frozen 0))
  all_goals
    have F := FIN.out g2 cap2 w2 hown (by simpa [Value.ownBlock] using hgrow) (hat.elim (fun e => .inl (by simpa [Value.ownBlock] using e)) (fun e => .inr (Nat.le_of_eq e.symm)))
    have HF : Hid _ := F
    clear hown hgrow hat F
    go_wp2
    go_ret
    exact ⟨rfl, HF.out.2⟩
theorem mEx2_w (K : Nat → Prop) (w : World) (p : Nat) (st : List TV) (h : MT K w p st) (hf : Fine st) : Calls Try.prog 100 #[ptr p, I 2] w (Wm K w p (extR st (spreadT st))) := by
  cases st with
  | nil => refine (mEx2_none K w p h).mono ?_; rintro e w' ⟨rfl, rfl⟩; exact ⟨rfl, .refl h⟩
  | cons x r =>
    have h5 := h.len
    have hsp : extR (x :: r) (spreadT (x :: r)) = if tagM x = 3 ∨ tagM x = 4 then (if 5 < r.length + (kidsM x).length then (x :: r, 3) else ((kidsM x).reverse ++ r, 0)) else (x :: r, 5) := by
      cases x with
      | int n => rfl
      | str n => rfl
      | nil =>
        have hh : ¬ 5 < r.length + (kidsM .nil).length := by show ¬ 5 < r.length + 0; simp at h5; omega
        rw [if_pos (.inl rfl), if_neg hh]
        rfl
      | cons a b =>
        show extR _ (if 5 < r.length + (elems (.cons a b)).length then .error 3 else .ok ((elems (.cons a b)).reverse ++ r)) = if 5 < r.length + (elems (.cons a b)).length then _ else _
        by_cases hh : 5 < r.length + (elems (.cons a b)).length
        · rw [if_pos hh, if_pos hh]; rfl
        · rw [if_neg hh, if_neg hh]; rfl
      | pair a b =>
        show extR _ (if 5 < r.length + 2 then .error 3 else .ok (b :: a :: r)) = if 5 < r.length + 2 then _ else _
        by_cases hh : 5 < r.length + 2
        · rw [if_pos hh, if_pos hh]; rfl
        · rw [if_neg hh, if_neg hh]; rfl
    rw [hsp]
    by_cases ht : tagM x = 3 ∨ tagM x = 4
    · rw [if_pos ht]
      by_cases hn : 5 < r.length + (kidsM x).length
      · rw [if_pos hn]
        refine (mEx2_full K w p x r h hf.head ht hn).mono ?_
        rintro e w' ⟨rfl, bb⟩
        exact ⟨rfl, .below h bb⟩
      · rw [if_neg hn]
        cases hk : kidsM x with
        | nil => exact mEx2_nil K w p x r h ht hk
        | cons e0 es =>
          rw [← hk]
          exact mEx2_go K w p x r h hf.head ht (by rw [hk]; simp) (by omega)
    · rw [if_neg ht]
      refine (mEx2_no K w p x r h (by have := tag_in x; omega)).mono ?_
      rintro e w' ⟨rfl, bb⟩
      exact ⟨rfl, .below h bb⟩
end Go.Proofs.Qxb6500470a
