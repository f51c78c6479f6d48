import Derived.Test.Qxb6500470aVmn
import Derived.Test.Qxb6500470aVmo
import Derived.Deep.RegionHeld3
import Derived.Deep.DeepCutAuto
import Derived.Deep.CutRange
namespace Go.Proofs.Qxb6500470a
open Go.RowKit
set_option maxRecDepth 100000 in
set_option maxHeartbeats 16000000 in
theorem mFold_no (K : Nat → Prop) (w : World) (p : Nat) (c : TV) (r : List TV) (h : MT K w p (c :: r)) (ht : tagM c = 1 ∨ tagM c = 2) : Calls Try.prog 110 #[ptr p] w fun e w' => e = .returned (I 5) ∧ Below w.heap.size w w' := by
  have h5 := h.len
  obtain ⟨g, cap, c0, c1, c2, c3, hp, hg, kg, lg, lp, hle, fp, h0, h1, h2, h3, hm⟩ := h.val r.length 0 (by simp)
  have hm : MR K w c c0 c1 c2 c3 := hm
  have HM : Hid (MR K w c c0 c1 c2 c3) := hm
  obtain ⟨e0, e1, e2, hb, hk0, cs, hks, hrow⟩ := hm.open
  obtain ⟨ak, capk, e3⟩ := hrow.slice
  subst e0 e1 e2 e3
  have hl : (c :: r).length = r.length + 1 := rfl
  rw [hl] at hp hle h5
  have hb1 := (Below.refl w.heap.size w).alloc (Nat.le_refl _) (.cells #[I (tagM c), I (numM c), S (strM c), .slice ak (kidsM c).length capk] 137)
  have HH := has_w (tagM c) 4 (tag_in c) (by decide) (w.alloc (.cells #[I (tagM c), I (numM c), S (strM c), .slice ak (kidsM c).length capk] 137))
  have e3 : hasT (tagM c) 4 = false := by rcases ht with e | e <;> simp [hasT, e]
  rw [e3] at HH
  clear hks hrow hk0 hb HM e3 ht hm h
  generalize r.length = m at *
  have w1 := wr64 (m : Int) (by omega) (by omega)
  have q1 : ¬ ((m : Int) + 1) < 1 := by omega
  generalize tagM c = tg at *
  generalize numM c = nu at *
  generalize strM c = sx at *
  generalize (kidsM c).length = kl at *
  go_enter Try.func110, Try.ntmps110
  go_wp2_with fail
  refine HH.mono ?_
  rintro e w' ⟨rfl, rfl⟩
  go_wp2
  go_ret
  exact ⟨rfl, hb1⟩
set_option maxRecDepth 100000 in
set_option maxHeartbeats 16000000 in
theorem mFold_none (K : Nat → Prop) (w : World) (p : Nat) (c : TV) (r : List TV) (h : MT K w p (c :: r)) (ht : tagM c = 3 ∨ tagM c = 4) (hk : kidsM c = []) : Calls Try.prog 110 #[ptr p] w fun e w' => e = .returned (I 8) ∧ Below w.heap.size w w' := by
  have h5 := h.len
  obtain ⟨g, cap, c0, c1, c2, c3, hp, hg, kg, lg, lp, hle, fp, h0, h1, h2, h3, hm⟩ := h.val r.length 0 (by simp)
  have hm : MR K w c c0 c1 c2 c3 := hm
  have HM : Hid (MR K w c c0 c1 c2 c3) := hm
  obtain ⟨e0, e1, e2, hb, hk0, cs, hks, hrow⟩ := hm.open
  obtain ⟨ak, capk, e3⟩ := hrow.slice
  subst e0 e1 e2 e3
  have hl : (c :: r).length = r.length + 1 := rfl
  rw [hl] at hp hle h5
  have hb1 := (Below.refl w.heap.size w).alloc (Nat.le_refl _) (.cells #[I (tagM c), I (numM c), S (strM c), .slice ak (kidsM c).length capk] 137)
  have HH := has_w (tagM c) 4 (tag_in c) (by decide) (w.alloc (.cells #[I (tagM c), I (numM c), S (strM c), .slice ak (kidsM c).length capk] 137))
  have e3 : hasT (tagM c) 4 = true := by rcases ht with e | e <;> simp [hasT, e]
  rw [e3] at HH
  have hq0 : (((kidsM c).length : Int) == 0) = true := by rw [hk]; rfl
  clear hks hrow hk0 hb HM e3 ht hm h hk
  generalize r.length = m at *
  have w1 := wr64 (m : Int) (by omega) (by omega)
  have q1 : ¬ ((m : Int) + 1) < 1 := by omega
  generalize tagM c = tg at *
  generalize numM c = nu at *
  generalize strM c = sx at *
  generalize (kidsM c).length = kl at *
  go_enter Try.func110, Try.ntmps110
  go_wp2_with fail
  refine HH.mono ?_
  rintro e w' ⟨rfl, rfl⟩
  go_wp2
  go_ret
  exact ⟨rfl, hb1⟩
/-- Fold's answer. -/
def foR (c : TV) (r : List TV) (F : Except Int TV) : List TV × Int := match F with
  | .ok x => (x :: r, 0)
  | .error k => (c :: r, k)
/-- The loop's state: the sum so far in its box, the list's box, the rows of the sum. -/
structure FoldI (K : Nat → Prop) (w wr : World) (Kr : Nat → Prop) (acc : TV) (c0 c1 c2 c3 x0 x1 x2 x3 : Value) : Prop where
  nw : NewK K Kr w wr
  m : MR Kr wr acc c0 c1 c2 c3
  v : Blk wr (w.heap.size + 1) #[c0, c1, c2, c3] 137
  c : Blk wr w.heap.size #[x0, x1, x2, x3] 137
  b : Below w.heap.size w wr
  n0 : ¬ Kr w.heap.size
  n1 : ¬ Kr (w.heap.size + 1)
  f : (text acc).length ≤ 30
theorem FoldI.ks {K : Nat → Prop} {w wr : World} {Kr : Nat → Prop} {acc : TV} {c0 c1 c2 c3 x0 x1 x2 x3 : Value} (h : FoldI K w wr Kr acc c0 c1 c2 c3 x0 x1 x2 x3) (ks : ∀ k, K k → k < w.heap.size) : ∀ k, Kr k → k < wr.heap.size := fun k hk => (h.nw.2 k hk).elim (fun e => Nat.lt_of_lt_of_le (ks k e) h.b.size) (fun e => e.2)
/-- A round: the sum z in the rows K', the box q of the round; then the sum's box takes z. -/
theorem FoldI.next {K : Nat → Prop} {w wr w' W : World} {Kr K' : Nat → Prop} {acc z : TV} {c0 c1 c2 c3 x0 x1 x2 x3 z0 z1 z2 z3 : Value} (h : FoldI K w wr Kr acc c0 c1 c2 c3 x0 x1 x2 x3)
    (nw : NewK Kr K' wr w') (m : MR K' w' z z0 z1 z2 z3) (f : (text z).length ≤ 30) (hK : Kept (fun k => K' k ∨ k < w.heap.size ∨ k = w.heap.size) w' W) (hb : Below wr.heap.size wr w') (hv : Blk W (w.heap.size + 1) #[z0, z1, z2, z3] 137) : FoldI K w W K' z z0 z1 z2 z3 x0 x1 x2 x3 := by
  have hv1 := h.v.lt
  refine ⟨⟨fun k hk => nw.1 k (h.nw.1 k hk), fun k hk => ?_⟩, m.kept (hK.weak (fun _ e => .inl e)), hv, (h.c.below hb h.c.lt).kept hK (.inr (.inr rfl)), h.b.trans ((hb.mono h.b.size).trans ⟨hK.os, hK.tape, hK.output, hK.size, fun k hk => hK.block k (.inr (.inl hk))⟩), fun e => ?_, fun e => ?_, f⟩
  · rcases nw.2 k hk with e | e
    · rcases h.nw.2 k e with e | e
      · exact .inl e
      · exact .inr ⟨e.1, Nat.lt_of_lt_of_le e.2 (Nat.le_trans hb.size hK.size)⟩
    · exact .inr ⟨Nat.le_trans h.b.size e.1, Nat.lt_of_lt_of_le e.2 hK.size⟩
  · rcases nw.2 _ e with e | e
    · exact h.n0 e
    · omega
  · rcases nw.2 _ e with e | e
    · exact h.n1 e
    · omega
/-- Behind the region of a round: the round's box q holds the sum z. -/
structure FoldJ (Kr : Nat → Prop) (w wr wx : World) (K' : Nat → Prop) (q : Nat) (z : TV) (za : Option Addr) (zc : Nat) (c0 c1 c2 c3 : Value) : Prop where
  nw : NewK Kr K' wr wx
  m : MR K' wx z (I (tagM z)) (I (numM z)) (S (strM z)) (.slice za (kidsM z).length zc)
  box : Blk wx q #[I (tagM z), I (numM z), S (strM z), .slice za (kidsM z).length zc] 137
  v : Blk wx (w.heap.size + 1) #[c0, c1, c2, c3] 137
  b : Below wr.heap.size wr wx
  q1 : q ≠ w.heap.size + 1
theorem FoldJ.a {Kr : Nat → Prop} {w wr w' : World} {K' : Nat → Prop} {z : TV} {za : Option Addr} {zc : Nat} {c0 c1 c2 c3 : Value} (nw : NewK Kr K' wr w') (kr : ∀ k, Kr k → k < wr.heap.size) (m : MR K' w' z (I (tagM z)) (I (numM z)) (S (strM z)) (.slice za (kidsM z).length zc)) (v : Blk w' (w.heap.size + 1) #[c0, c1, c2, c3] 137) (b : Below wr.heap.size wr w') :
    FoldJ Kr w wr (w'.alloc (.cells #[I (tagM z), I (numM z), S (strM z), .slice za (kidsM z).length zc] 137)) K' w'.heap.size z za zc c0 c1 c2 c3 := by
  have kz : ∀ k, K' k → k < w'.heap.size := fun k hk => (nw.2 k hk).elim (fun e => Nat.lt_of_lt_of_le (kr k e) b.size) (fun e => e.2)
  have kk := Kept.of_below ((Below.refl w'.heap.size w').alloc (Nat.le_refl _) (.cells #[I (tagM z), I (numM z), S (strM z), .slice za (kidsM z).length zc] 137)) kz
  exact ⟨⟨nw.1, fun k hk => (nw.2 k hk).imp id (fun e => ⟨e.1, Nat.lt_of_lt_of_le e.2 kk.size⟩)⟩, m.kept kk, Blk.new rfl, v.old _, b.alloc b.size _, fun e => by have := v.lt; omega⟩
theorem FoldJ.b_ {Kr : Nat → Prop} {w wr w' : World} {K' : Nat → Prop} {z : TV} {za : Option Addr} {zc : Nat} {c0 c1 c2 c3 : Value} (nw : NewK Kr K' wr w') (nk : ¬ K' wr.heap.size) (hv : w.heap.size + 1 < wr.heap.size) (m : MR K' w' z (I (tagM z)) (I (numM z)) (S (strM z)) (.slice za (kidsM z).length zc)) (v : Blk w' (w.heap.size + 1) #[c0, c1, c2, c3] 137) (b : Below wr.heap.size wr w') (bx : Blk w' wr.heap.size Z4 137) :
    FoldJ Kr w wr ((((w'.setCell ⟨wr.heap.size, 0, none⟩ (I (tagM z))).setCell ⟨wr.heap.size, 1, none⟩ (I (numM z))).setCell ⟨wr.heap.size, 2, none⟩ (S (strM z))).setCell ⟨wr.heap.size, 3, none⟩ (.slice za (kidsM z).length zc)) K' wr.heap.size z za zc c0 c1 c2 c3 := by
  have kk : Kept K' w' ((((w'.setCell ⟨wr.heap.size, 0, none⟩ (I (tagM z))).setCell ⟨wr.heap.size, 1, none⟩ (I (numM z))).setCell ⟨wr.heap.size, 2, none⟩ (S (strM z))).setCell ⟨wr.heap.size, 3, none⟩ (.slice za (kidsM z).length zc)) := ((((Kept.refl K' w').setCell (p := ⟨wr.heap.size, 0, none⟩) nk _).setCell (p := ⟨wr.heap.size, 1, none⟩) nk _).setCell (p := ⟨wr.heap.size, 2, none⟩) nk _).setCell (p := ⟨wr.heap.size, 3, none⟩) nk _
  have ne : w.heap.size + 1 ≠ wr.heap.size := by omega
  refine ⟨⟨nw.1, fun k hk => (nw.2 k hk).imp id (fun e => ⟨e.1, Nat.lt_of_lt_of_le e.2 kk.size⟩)⟩, m.kept kk, (((bx.set (i := 0) _).set (i := 1) _).set (i := 2) _).set (i := 3) _, (((v.other (a := ⟨wr.heap.size, 0, none⟩) ne _).other (a := ⟨wr.heap.size, 1, none⟩) ne _).other (a := ⟨wr.heap.size, 2, none⟩) ne _).other (a := ⟨wr.heap.size, 3, none⟩) ne _, (((b.setCell (p := ⟨wr.heap.size, 0, none⟩) (Nat.le_refl _) _).setCell (p := ⟨wr.heap.size, 1, none⟩) (Nat.le_refl _) _).setCell (p := ⟨wr.heap.size, 2, none⟩) (Nat.le_refl _) _).setCell (p := ⟨wr.heap.size, 3, none⟩) (Nat.le_refl _) _, fun e => by omega⟩
theorem FoldJ.next {K Kr : Nat → Prop} {w wr wx : World} {K' : Nat → Prop} {q : Nat} {acc z : TV} {za : Option Addr} {zc : Nat} {c0 c1 c2 c3 x0 x1 x2 x3 : Value} (j : FoldJ Kr w wr wx K' q z za zc c0 c1 c2 c3) (h : FoldI K w wr Kr acc c0 c1 c2 c3 x0 x1 x2 x3) (f : (text z).length ≤ 30) :
    FoldI K w ((((wx.setCell ⟨w.heap.size + 1, 0, none⟩ (I (tagM z))).setCell ⟨w.heap.size + 1, 1, none⟩ (I (numM z))).setCell ⟨w.heap.size + 1, 2, none⟩ (S (strM z))).setCell ⟨w.heap.size + 1, 3, none⟩ (.slice za (kidsM z).length zc)) K' z (I (tagM z)) (I (numM z)) (S (strM z)) (.slice za (kidsM z).length zc) x0 x1 x2 x3 := by
  have hv1 := h.v.lt
  have nV : ¬ (K' (w.heap.size + 1) ∨ w.heap.size + 1 < w.heap.size ∨ w.heap.size + 1 = w.heap.size) := by
    rintro (e | e | e)
    · exact (j.nw.2 _ e).elim h.n1 (fun e => by omega)
    · omega
    · omega
  exact h.next j.nw j.m f (((((Kept.refl _ wx).setCell (p := ⟨w.heap.size + 1, 0, none⟩) nV _).setCell (p := ⟨w.heap.size + 1, 1, none⟩) nV _).setCell (p := ⟨w.heap.size + 1, 2, none⟩) nV _).setCell (p := ⟨w.heap.size + 1, 3, none⟩) nV _) j.b ((((j.v.set (i := 0) _).set (i := 1) _).set (i := 2) _).set (i := 3) _)
set_option maxRecDepth 100000 in
set_option maxHeartbeats 16000000 in
theorem mFold_go (K : Nat → Prop) (w : World) (p : Nat) (c : TV) (r : List TV) (h : MT K w p (c :: r)) (lcc : (text c).length ≤ 30) (ht : tagM c = 3 ∨ tagM c = 4) (e0 : TV) (es0 : List TV) (hk : kidsM c = e0 :: es0) : Calls Try.prog 110 #[ptr p] w (Wm K w p (foR c r (foldT e0 es0))) := by
  have hlen := h.len
  have h5 := h.len
  obtain ⟨g, cap, c0, c1, c2, c3, hp, hg, kg, lg, lp, hle, fp, h0, h1, h2, h3, hm⟩ := h.val r.length 0 (by simp)
  have hm : MR K w c c0 c1 c2 c3 := hm
  have HM : Hid (MR K w c c0 c1 c2 c3) := hm
  obtain ⟨ee0, ee1, ee2, hb, hk0, cs, hks, hrow⟩ := hm.open
  obtain ⟨ak, capk, e3⟩ := hrow.slice
  subst ee0 ee1 ee2 e3
  have hl : (c :: r).length = r.length + 1 := rfl
  rw [hl] at hp hle h5
  have hb1 := (Below.refl w.heap.size w).alloc (Nat.le_refl _) (.cells #[I (tagM c), I (numM c), S (strM c), .slice ak (kidsM c).length capk] 137)
  have HH := has_w (tagM c) 4 (tag_in c) (by decide) (w.alloc (.cells #[I (tagM c), I (numM c), S (strM c), .slice ak (kidsM c).length capk] 137))
  have e3 : hasT (tagM c) 4 = true := by rcases ht with e | e <;> simp [hasT, e]
  rw [e3] at HH
  have ks := h.ks
  have hkl := kids_len c
  have HT : Hid (∀ y ∈ kidsM c, (text y).length ≤ 30) := fun y hy => by
    have h1 := text_kids c (by rcases ht with e | e <;> rw [e] <;> decide)
    have h2 := joinT_mem (kidsM c) y hy
    have h3 := congrArg List.length h1
    simp at h3
    omega
  have PP : Hid (∀ (W : World) (Kr : Nat → Prop) (z : TV) q0 q1 q2 q3, Below w.heap.size w W → NewK K Kr w W → MR Kr W z q0 q1 q2 q3 → (text z).length ≤ 30 → Calls Try.prog 114 #[ptr p, I 1, .agg #[q0, q1, q2, q3]] W (fun e w' => e = .returned (I 0) ∧ TurnM K w p (z :: r) w')) := by
    intro W Kr z q0 q1 q2 q3 B N hz hl
    have := put_new K Kr w W p 1 _ h (by simp) z q0 q1 q2 q3 B N.1 N.2 hz (by omega)
    rw [put1 c z r hlen hl] at this
    exact this
  have HERR : Hid (∀ (W : World), Below w.heap.size w W → TurnM K w p (c :: r) W) := fun W B => .below h B
  have HKS : Hid (MRs K w (kidsM c) cs) := hks
  have HRW : Hid (RowK K w (.slice ak (kidsM c).length capk) (kidsM c).length cs) := hrow
  have HFO : Hid (∃ F, F = foldT e0 es0) := ⟨_, rfl⟩
  obtain ⟨F, hF⟩ := HFO.out
  rw [← hF]
  have HF : Hid (F = foldT e0 ((kidsM c).drop 1)) := by rw [hk]; exact hF
  have hE0 : 0 < (kidsM c).length := by rw [hk]; simp
  have HE0 : Hid ((kidsM c)[0]'hE0 = e0) := by show _ = _; simp [hk]
  have hnz : ((kidsM c).length : Int) ≠ 0 := by omega
  have hnz2 : (((kidsM c).length : Int) == 0) = false := by simpa using hnz
  clear hks hrow hk0 hb HM e3 hm h HFO hF hk
  generalize r.length = m at *
  have w1 := wr64 (m : Int) (by omega) (by omega)
  have q1 : ¬ ((m : Int) + 1) < 1 := by omega
  generalize tagM c = tg at *
  generalize numM c = nu at *
  generalize strM c = sx at *
  generalize hES : kidsM c = es at *
  have hkl30 : es.length ≤ 30 := by omega
  obtain ⟨g2, cap2, d0, d1, d2, d3, e, kg2, hl2, hle2, y0, y1, y2, y3, hm0⟩ := HRW.out.elem HKS.out 0 hE0
  simp only [Value.slice.injEq, true_and] at e
  obtain ⟨rfl, rfl⟩ := e
  rw [HE0.out] at hm0
  have HT0 : (text e0).length ≤ 30 := by have := HT.out _ (List.getElem_mem hE0); rw [HE0.out] at this; exact this
  have hm1 := hm0
  obtain ⟨q0, q1, q2, -, -, qs, -, qr⟩ := hm1.open
  obtain ⟨qa, qc, q3⟩ := qr.slice
  subst q0 q1 q2 q3
  have hw1 : ((k0 : Nat) → True) := fun _ => trivial
  have BB := hb1.alloc hb1.size (.cells #[I (tagM e0), I (numM e0), S (strM e0), .slice qa (kidsM e0).length qc] 137)
  have FI : FoldI K w ((w.alloc (.cells #[I tg, I nu, S sx, .slice (some ⟨g2, 0, none⟩) es.length capk] 137)).alloc (.cells #[I (tagM e0), I (numM e0), S (strM e0), .slice qa (kidsM e0).length qc] 137)) K e0 (I (tagM e0)) (I (numM e0)) (S (strM e0)) (.slice qa (kidsM e0).length qc) (I tg) (I nu) (S sx) (.slice (some ⟨g2, 0, none⟩) es.length capk) :=
    ⟨⟨fun _ h => h, fun _ h => .inl h⟩, hm0.kept (Kept.of_below BB ks), Blk.new (World.size_alloc _ _).symm, (Blk.new rfl : Blk (w.alloc _) _ _ _).old _, BB, fun e => Nat.lt_irrefl _ (ks _ e), fun e => by have := ks _ e; omega, HT0⟩
  clear hm0 hm1 qr hES hkl hw1
  go_enter Try.func110, Try.ntmps110
  go_wp2_with fail
  refine HH.mono ?_
  rintro e w' ⟨rfl, rfl⟩
  go_wp2
  go_loopw [6, 7, 8] (fun i _ _ wr => ∃ (k : Nat) (Kr : Nat → Prop) (acc : TV) (b0 b1 b2 b3 : Value), 1 ≤ k ∧ k ≤ es.length ∧ i = I (k : Int) ∧ Hid (F = foldT acc (es.drop k)) ∧ FoldI K w wr Kr acc b0 b1 b2 b3 (I tg) (I nu) (S sx) (.slice (some ⟨g2, 0, none⟩) es.length capk)) (fun i _ _ _ => (es.length - intOf i).toNat)
  case atStart => exact ⟨1, K, e0, _, _, _, _, Nat.le_refl _, hE0, rfl, HF.out, FI⟩
  case round =>
    clear FI HF HE0 HT0 BB hb1 HH y0 y1 y2 y3 h0 h1 h2 h3 hp hnz hnz2
    obtain ⟨k, Kr, acc, b0, b1, b2, b3, hk1, hk2, rfl, HFK, FI⟩ := hrel
    obtain ⟨q0, q1, q2, -, -, qs, -, qr⟩ := FI.m.open
    obtain ⟨aa, ac, q3⟩ := qr.slice
    subst q0 q1 q2 q3
    clear qr
    have v0 := FI.v.cell 0
    have v1 := FI.v.cell 1
    have v2 := FI.v.cell 2
    have v3 := FI.v.cell 3
    have u0 := FI.v.frozen 0
    have u1 := FI.v.frozen 1
    have u2 := FI.v.frozen 2
    have u3 := FI.v.frozen 3
    have lv := FI.v.lt
    have t3 := FI.c.cell 3
    have lc := FI.c.lt
    by_cases hlt : k < es.length
    · have q7 : (k : Int) < (es.length : Int) := by omega
      have kw : Kept K w wr := Kept.of_below FI.b ks
      have ksr := FI.ks ks
      obtain ⟨g3, cap3, d0, d1, d2, d3, e, kg3, hl3, hle3, y0, y1, y2, y3, hm⟩ := (HRW.out.kept kw (fun _ h => h)).elem (HKS.out.kept kw) k hlt
      simp only [Value.slice.injEq, Option.some.injEq, Addr.mk.injEq, and_true, true_and] at e
      obtain ⟨rfl, rfl⟩ := e
      have hmr := hm.mono FI.nw.1
      have hl2 : g2 < wr.heap.size := hl3
      have D : ∀ W, Below wr.heap.size wr W → Calls Try.prog 115 #[.agg #[I (tagM acc), I (numM acc), S (strM acc), .slice aa (kidsM acc).length ac], .agg #[d0, d1, d2, d3]] W (PlusP Kr W acc es[k]) := fun W B => plus_w Kr W (fun k hk => Nat.lt_of_lt_of_le (ksr k hk) B.size) acc es[k] _ _ _ _ d0 d1 d2 d3 (FI.m.kept (Kept.of_below B ksr)) (hmr.kept (Kept.of_below B ksr)) FI.f (HT.out _ (List.getElem_mem hlt))
      have hone2 := (MRs.one hm).cells1
      have HFs : Hid (F = match plusT acc es[k] with | .ok x => foldT x (es.drop (k + 1)) | .error e => .error e) := by
        have := HFK.out
        rw [List.drop_eq_getElem_cons hlt] at this
        exact this
      have bv1 : Below wr.heap.size wr wr.drew := (Below.refl _ _).drew
      have bv2 : Below wr.heap.size wr (wr.alloc (.cells Z4 137)).drew := ((Below.refl _ _).alloc (Nat.le_refl _) _).drew
      have ZN : Blk (wr.alloc (.cells Z4 137)).drew wr.heap.size Z4 137 := (Blk.new rfl).drew
      have szN : (wr.alloc (.cells Z4 137)).drew.heap.size = wr.heap.size + 1 := World.size_alloc _ _
      have HFI : Hid (FoldI K w wr Kr acc (I (tagM acc)) (I (numM acc)) (S (strM acc)) (.slice aa (kidsM acc).length ac) (I tg) (I nu) (S sx) (.slice (some ⟨g2, 0, none⟩) es.length capk)) := FI
      have ng1 : wr.heap.size ≠ g2 := by omega
      have ng2 : wr.heap.size ≠ w.heap.size := by omega
      have ng3 : wr.heap.size ≠ w.heap.size + 1 := by omega
      have wk := wr64 ((k : Int) + 1) (by omega) (by omega)
      cases hpl : plusT acc es[k] with
      | error kk =>
        have hkk := plusT_err hpl
        have hkk1 : (kk != 0) = true := by simpa using hkk
        have hkk2 : (kk == 0) = false := by simpa using hkk
        have HFE : Hid (F = .error kk) := by have := HFs.out; rw [hpl] at this; exact this
        unfold PlusP at D
        rw [hpl] at D
        dsimp only at D
        have D2 : ∀ W, Below wr.heap.size wr W → Calls Try.prog 115 #[.agg #[I (tagM acc), I (numM acc), S (strM acc), .slice aa (kidsM acc).length ac], .agg #[d0, d1, d2, d3]] W fun e w' => e = .returned (.tuple #[.agg Z4, I kk]) ∧ Below wr.heap.size wr w' ∧ Below W.heap.size W w' := fun W B => (D W B).mono (fun e w' h => ⟨h.1, B.trans (h.2.mono B.size), h.2⟩)
        clear D hpl HFs HFK hm hmr FI hkk
        generalize tagM acc = at_ at *
        generalize numM acc = an at *
        generalize strM acc = as_ at *
        generalize (kidsM acc).length = al at *
        go_wp2_with fail
        go_region_held3 (fun W => W.cell? ⟨w.heap.size + 1, 0, none⟩ = some (I at_) ∧ W.cell? ⟨w.heap.size + 1, 1, none⟩ = some (I an) ∧ W.cell? ⟨w.heap.size + 1, 2, none⟩ = some (S as_) ∧ W.cell? ⟨w.heap.size + 1, 3, none⟩ = some (.slice aa al ac) ∧ W.cell? ⟨w.heap.size, 3, none⟩ = some (.slice (some ⟨g2, 0, none⟩) es.length capk) ∧ W.cell? ⟨g2, k * 4, none⟩ = some d0 ∧ W.cell? ⟨g2, k * 4 + 1, none⟩ = some d1 ∧ W.cell? ⟨g2, k * 4 + 2, none⟩ = some d2 ∧ W.cell? ⟨g2, k * 4 + 3, none⟩ = some d3) (go_keep) (first | (go_at_call 115; refine (D2 _ (by first | exact bv1 | exact bv2)).mono ?_; rintro e w' ⟨rfl, bb, bb2⟩; have n0 := (bb.cell (p := ⟨w.heap.size + 1, 0, none⟩) lv).trans v0; have n1 := (bb.cell (p := ⟨w.heap.size + 1, 1, none⟩) lv).trans v1; have n2 := (bb.cell (p := ⟨w.heap.size + 1, 2, none⟩) lv).trans v2; have n3 := (bb.cell (p := ⟨w.heap.size + 1, 3, none⟩) lv).trans v3; have n4 := (bb.cell (p := ⟨w.heap.size, 3, none⟩) lc).trans t3; have n5 := (bb.cell (p := ⟨g2, k * 4, none⟩) hl2).trans y0; have n6 := (bb.cell (p := ⟨g2, k * 4 + 1, none⟩) hl2).trans y1; have n7 := (bb.cell (p := ⟨g2, k * 4 + 2, none⟩) hl2).trans y2; have n8 := (bb.cell (p := ⟨g2, k * 4 + 3, none⟩) hl2).trans y3; have f0 := (bb.frozen (p := ⟨w.heap.size + 1, 0, none⟩) lv).trans u0; have f1 := (bb.frozen (p := ⟨w.heap.size + 1, 1, none⟩) lv).trans u1; have f2 := (bb.frozen (p := ⟨w.heap.size + 1, 2, none⟩) lv).trans u2; have f3 := (bb.frozen (p := ⟨w.heap.size + 1, 3, none⟩) lv).trans u3; (first | (have ZW : Blk w' wr.heap.size Z4 137 := Blk.below ZN bb2 (Nat.lt_of_lt_of_eq (Nat.lt_succ_self _) szN.symm); have s0 := ZW.frozen 0; have s1 := ZW.frozen 1; have s2 := ZW.frozen 2; have s3 := ZW.frozen 3; have r0 := ZW.cell 0; have r1 := ZW.cell 1; have r2 := ZW.cell 2; have r3 := ZW.cell 3) | skip)))
        all_goals
          have bw := HFI.out.b.trans (bb.mono HFI.out.b.size)
          have hsz := HFI.out.b.size
          have E := HERR.out
          go_wp2
          go_ret
          rw [HFE.out]
          first
            | exact ⟨rfl, E _ (bw.alloc bw.size _)⟩
            | exact ⟨rfl, E _ ((((bw.setCell (p := ⟨wr.heap.size, 0, none⟩) hsz _).setCell (p := ⟨wr.heap.size, 1, none⟩) hsz _).setCell (p := ⟨wr.heap.size, 2, none⟩) hsz _).setCell (p := ⟨wr.heap.size, 3, none⟩) hsz _)⟩
      | ok z =>
        have HFE : Hid (F = foldT z (es.drop (k + 1))) := by have := HFs.out; rw [hpl] at this; exact this
        have hzf := plusT_fine hpl
        unfold PlusP at D
        rw [hpl] at D
        dsimp only at D
        have D2 : ∀ W, Below wr.heap.size wr W → Calls Try.prog 115 #[.agg #[I (tagM acc), I (numM acc), S (strM acc), .slice aa (kidsM acc).length ac], .agg #[d0, d1, d2, d3]] W fun e w' => ∃ (K' : Nat → Prop) (e0 e1 e2 e3 : Value), e = .returned (.tuple #[.agg #[e0, e1, e2, e3], I 0]) ∧ NewK Kr K' wr w' ∧ (∀ k, K' k → Kr k ∨ W.heap.size ≤ k) ∧ MR K' w' z e0 e1 e2 e3 ∧ Below wr.heap.size wr w' ∧ Below W.heap.size W w' := fun W B => (D W B).mono (fun e w' ⟨K', e0, e1, e2, e3, he, N, hz, bb⟩ => ⟨K', e0, e1, e2, e3, he, ⟨N.1, fun k hk => (N.2 k hk).imp id (fun e => ⟨Nat.le_trans B.size e.1, e.2⟩)⟩, fun k hk => (N.2 k hk).imp id (fun e => e.1), hz, B.trans (bb.mono B.size), bb⟩)
        clear D hpl HFs HFK hm hmr FI
        generalize tagM acc = at_ at *
        generalize numM acc = an at *
        generalize strM acc = as_ at *
        generalize (kidsM acc).length = al at *
        have HV : Hid _ := HFI.out.v
        have HKR : Hid _ := ksr
        have hv2 : w.heap.size + 1 < wr.heap.size := lv
        go_upto_region 13 with fail
        go_cut [7, 8] from 36 to 56 (fun s7 s8 wx => ∃ q K' za zc, s7 = ptr q ∧ s8 = I 0 ∧ FoldJ Kr w wr wx K' q z za zc (I at_) (I an) (S as_) (.slice aa al ac))
        case first =>
          go_region_held3 (fun W => W.cell? ⟨w.heap.size + 1, 0, none⟩ = some (I at_) ∧ W.cell? ⟨w.heap.size + 1, 1, none⟩ = some (I an) ∧ W.cell? ⟨w.heap.size + 1, 2, none⟩ = some (S as_) ∧ W.cell? ⟨w.heap.size + 1, 3, none⟩ = some (.slice aa al ac) ∧ W.cell? ⟨w.heap.size, 3, none⟩ = some (.slice (some ⟨g2, 0, none⟩) es.length capk) ∧ W.cell? ⟨g2, k * 4, none⟩ = some d0 ∧ W.cell? ⟨g2, k * 4 + 1, none⟩ = some d1 ∧ W.cell? ⟨g2, k * 4 + 2, none⟩ = some d2 ∧ W.cell? ⟨g2, k * 4 + 3, none⟩ = some d3) (go_keep) (first | (go_at_call 115; refine (D2 _ (by first | exact bv1 | exact bv2)).mono ?_; rintro e w' ⟨K', z0, z1, z2, z3, rfl, Nw, N2, hz, bb, bb2⟩; obtain ⟨q0, q1, q2, -, -, qs, -, qr⟩ := hz.open; obtain ⟨za, zc, q3⟩ := qr.slice; subst q0 q1 q2 q3; clear qr; have FA : Hid _ := FoldJ.a (w := w) Nw HKR.out hz (Blk.below HV.out bb (Blk.lt HV.out)) bb; have n0 := (bb.cell (p := ⟨w.heap.size + 1, 0, none⟩) lv).trans v0; have n1 := (bb.cell (p := ⟨w.heap.size + 1, 1, none⟩) lv).trans v1; have n2 := (bb.cell (p := ⟨w.heap.size + 1, 2, none⟩) lv).trans v2; have n3 := (bb.cell (p := ⟨w.heap.size + 1, 3, none⟩) lv).trans v3; have n4 := (bb.cell (p := ⟨w.heap.size, 3, none⟩) lc).trans t3; have n5 := (bb.cell (p := ⟨g2, k * 4, none⟩) hl2).trans y0; have n6 := (bb.cell (p := ⟨g2, k * 4 + 1, none⟩) hl2).trans y1; have n7 := (bb.cell (p := ⟨g2, k * 4 + 2, none⟩) hl2).trans y2; have n8 := (bb.cell (p := ⟨g2, k * 4 + 3, none⟩) hl2).trans y3; have f0 := (bb.frozen (p := ⟨w.heap.size + 1, 0, none⟩) lv).trans u0; have f1 := (bb.frozen (p := ⟨w.heap.size + 1, 1, none⟩) lv).trans u1; have f2 := (bb.frozen (p := ⟨w.heap.size + 1, 2, none⟩) lv).trans u2; have f3 := (bb.frozen (p := ⟨w.heap.size + 1, 3, none⟩) lv).trans u3; (first | (have ZW : Blk w' wr.heap.size Z4 137 := Blk.below ZN bb2 (Nat.lt_of_lt_of_eq (Nat.lt_succ_self _) szN.symm); have s0 := ZW.frozen 0; have s1 := ZW.frozen 1; have s2 := ZW.frozen 2; have s3 := ZW.frozen 3; have r0 := ZW.cell 0; have r1 := ZW.cell 1; have r2 := ZW.cell 2; have r3 := ZW.cell 3; have nB : ¬ K' wr.heap.size := (fun e => (N2 _ e).elim (fun e => Nat.lt_irrefl _ (HKR.out _ e)) (fun e => Nat.not_succ_le_self _ (Nat.le_trans (Nat.le_of_eq szN.symm) e))); have FB : Hid _ := FoldJ.b_ (w := w) Nw nB hv2 hz (Blk.below HV.out bb (Blk.lt HV.out)) bb ZW) | skip)))
          all_goals
            go_wp2_with fail
            go_meet
            case rel =>
              first
                | with_reducible exact ⟨_, K', za, zc, rfl, rfl, FA.out⟩
                | with_reducible exact ⟨_, K', za, zc, rfl, rfl, FB.out⟩
        case rest =>
          obtain ⟨q, K', za, zc, rfl, rfl, FJ⟩ := hcut
          have fin := FJ.next HFI.out hzf
          have HFin : Hid _ := fin
          have i0 := FJ.box.cell 0
          have i1 := FJ.box.cell 1
          have i2 := FJ.box.cell 2
          have i3 := FJ.box.cell 3
          have j0 := FJ.v.frozen 0
          have j1 := FJ.v.frozen 1
          have j2 := FJ.v.frozen 2
          have j3 := FJ.v.frozen 3
          have k0 := FJ.v.cell 0
          have k1 := FJ.v.cell 1
          have k2 := FJ.v.cell 2
          have k3 := FJ.v.cell 3
          clear fin FJ D2
          go_wp2
          go_roundw
          case rel => exact ⟨k + 1, K', z, _, _, _, _, by omega, by omega, by go_num, HFE.out, HFin.out⟩
          case measure => simp [intOf]; omega
    · have q7 : ¬ (k : Int) < (es.length : Int) := by omega
      have HFE : Hid (F = .ok acc) := by
        have := HFK.out
        rw [List.drop_of_length_le (by omega)] at this
        exact this
      have P := PP.out _ Kr acc _ _ _ _ FI.b FI.nw FI.m FI.f
      clear FI HFK
      generalize tagM acc = at_ at *
      generalize numM acc = an at *
      generalize strM acc = as_ at *
      generalize (kidsM acc).length = al at *
      go_wp2_with fail
      refine P.mono ?_
      rintro e w' ⟨rfl, tn⟩
      go_wp2
      go_ret
      rw [HFE.out]
      exact ⟨rfl, tn⟩
theorem mFold_w (K : Nat → Prop) (w : World) (p : Nat) (st : List TV) (h : MT K w p st) (hf : Fine st) : Calls Try.prog 110 #[ptr p] w (Wm K w p (wFold st)) := by
  cases st with
  | nil => refine (mfold_under K w p h).mono ?_; rintro e w' ⟨rfl, rfl⟩; exact ⟨rfl, .refl h⟩
  | cons c r =>
    unfold wFold
    dsimp only
    rw [iter_tag]
    by_cases ht : tagM c = 3 ∨ tagM c = 4
    · rw [if_pos ht]
      cases hk : kidsM c with
      | nil =>
        refine (mFold_none K w p c r h ht hk).mono ?_
        rintro e w' ⟨rfl, bb⟩
        exact ⟨rfl, .below h bb⟩
      | cons e0 es => exact mFold_go K w p c r h hf.head ht e0 es hk
    · rw [if_neg ht]
      refine (mFold_no K w p c r h (by have := tag_in c; omega)).mono ?_
      rintro e w' ⟨rfl, bb⟩
      exact ⟨rfl, .below h bb⟩
end Go.Proofs.Qxb6500470a
