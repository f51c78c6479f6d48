import Derived.Test.Qxb6500470aVm6
namespace Go.Proofs.Qxb6500470a
open Go.RowKit
/-- put of a value whose rows stood before. -/
theorem put_new0 (K : Nat → Prop) (w W : World) (p d : Nat) (st : List TV) (h : MT K w p st) (hd : d ≤ st.length) (z : TV) (c0 c1 c2 c3 : Value) (B : Below w.heap.size w W) (hz : MR K W z c0 c1 c2 c3) (hl : (text z).length ≤ 1000) :
    Calls Try.prog 114 #[ptr p, I d, .agg #[c0, c1, c2, c3]] W (fun e w' => e = .returned (I (wPutM d z st).2) ∧ TurnM K w p (wPutM d z st).1 w') := by
  refine (put_w K W p d st (h.later B) hd z c0 c1 c2 c3 hz hl).mono ?_
  rintro e w' ⟨rfl, tn⟩
  exact ⟨rfl, .trans (fun _ h => h) (fun _ h => .inl h) (Kept.of_below B h.ks) tn⟩
theorem findI_step (t : List UInt8) (es : List TV) (k : Nat) (h : k < es.length) : findI t (es.drop k) k = if text es[k] = t then (k : Int) else findI t (es.drop (k + 1)) ((k : Int) + 1) := by
  rw [List.drop_eq_getElem_cons h]
  rfl
theorem iter_tag (c : TV) : iterT c = if tagM c = 3 ∨ tagM c = 4 then some (kidsM c) else none := by cases c <;> rfl
set_option maxRecDepth 100000 in
set_option maxHeartbeats 16000000 in
theorem mFind_no (K : Nat → Prop) (w : World) (p : Nat) (x c : TV) (r : List TV) (h : MT K w p (x :: c :: r)) (ht : tagM c = 1 ∨ tagM c = 2) : Calls Try.prog 106 #[ptr p] w fun e w' => e = .returned (I 5) ∧ Below w.heap.size w w' := by
  have h5 := h.len
  obtain ⟨g, cap, c0, c1, c2, c3, hp, hg, kg, lg, lp, hle, fp, h0, h1, h2, h3, hmx⟩ := h.val (r.length + 1) 0 (by simp)
  obtain ⟨g', cap', d0, d1, d2, d3, hp', -, -, -, -, -, -, k0, k1, k2, k3, hmc⟩ := h.val r.length 1 (by simp)
  have e := hp.symm.trans hp'
  simp only [Option.some.injEq, Value.slice.injEq, Addr.mk.injEq, and_true, true_and] at e
  obtain ⟨rfl, rfl⟩ := e
  have hmx : MR K w x c0 c1 c2 c3 := hmx
  have hmc : MR K w c d0 d1 d2 d3 := hmc
  have hone1 := (MRs.one hmx).cells1
  obtain ⟨e0, e1, e2, hb, hk0, cs, hks, hrow⟩ := hmc.open
  obtain ⟨ak, capk, e3⟩ := hrow.slice
  subst e0 e1 e2 e3
  have hl : (x :: c :: r).length = r.length + 2 := rfl
  rw [hl] at hp hle h5
  clear hp'
  have hb1 := (Below.refl w.heap.size w).alloc (Nat.le_refl _) (.cells #[I (tagM c), I (numM c), S (strM c), .slice ak (kidsM c).length capk] 137)
  have HH := has_w (tagM c) 4 (tag_in c) (by decide) (w.alloc (.cells #[I (tagM c), I (numM c), S (strM c), .slice ak (kidsM c).length capk] 137))
  have e3 : hasT (tagM c) 4 = false := by rcases ht with e | e <;> simp [hasT, e]
  rw [e3] at HH
  clear hks hrow hk0 hb hmx hmc h e3 ht
  generalize r.length = m at *
  have w1 := wr64 (m : Int) (by omega) (by omega)
  have w2 := wr64 ((m : Int) + 1) (by omega) (by omega)
  have q1 : ¬ ((m : Int) + 2) < 2 := by omega
  have e1 : (m : Int) + 2 - 1 = (m : Int) + 1 := by omega
  have e2 : (m : Int) + 2 - 2 = (m : Int) := by omega
  have q3 : (m : Int) < (m : Int) + 2 := by omega
  have q4 : (m : Int) + 1 < (m : Int) + 2 := by omega
  have q5 : 0 ≤ (m : Int) + 1 := by omega
  generalize tagM c = tg at *
  generalize numM c = nu at *
  generalize strM c = sx at *
  generalize (kidsM c).length = kl at *
  go_enter Try.func106, Try.ntmps106
  go_wp2_with fail
  refine HH.mono ?_
  rintro e w' ⟨rfl, rfl⟩
  go_wp2
  go_ret
  exact ⟨rfl, hb1⟩
set_option maxRecDepth 100000 in
set_option maxHeartbeats 16000000 in
theorem mFind_go (K : Nat → Prop) (w : World) (p : Nat) (x c : TV) (r : List TV) (h : MT K w p (x :: c :: r)) (lx : (text x).length ≤ 30) (lc : (text c).length ≤ 30) (ht : tagM c = 3 ∨ tagM c = 4) : Calls Try.prog 106 #[ptr p] w (Wm K w p (wPutM 2 (.int (findI (text x) (kidsM c) 0)) (x :: c :: r))) := by
  have h5 := h.len
  obtain ⟨g, cap, c0, c1, c2, c3, hp, hg, kg, lg, lp, hle, fp, h0, h1, h2, h3, hmx⟩ := h.val (r.length + 1) 0 (by simp)
  obtain ⟨g', cap', d0, d1, d2, d3, hp', -, -, -, -, -, -, k0, k1, k2, k3, hmc⟩ := h.val r.length 1 (by simp)
  have e := hp.symm.trans hp'
  simp only [Option.some.injEq, Value.slice.injEq, Addr.mk.injEq, and_true, true_and] at e
  obtain ⟨rfl, rfl⟩ := e
  have hmx : MR K w x c0 c1 c2 c3 := hmx
  have hmc : MR K w c d0 d1 d2 d3 := hmc
  have hone1 := (MRs.one hmx).cells1
  obtain ⟨e0, e1, e2, hb, hk0, cs, hks, hrow⟩ := hmc.open
  obtain ⟨ak, capk, e3⟩ := hrow.slice
  subst e0 e1 e2 e3
  have hl : (x :: c :: r).length = r.length + 2 := rfl
  rw [hl] at hp hle h5
  clear hp'
  have hb1 := (Below.refl w.heap.size w).alloc (Nat.le_refl _) (.cells #[I (tagM c), I (numM c), S (strM c), .slice ak (kidsM c).length capk] 137)
  have TO : Blk (w.alloc (.cells #[I (tagM c), I (numM c), S (strM c), .slice ak (kidsM c).length capk] 137)) w.heap.size #[I (tagM c), I (numM c), S (strM c), .slice ak (kidsM c).length capk] 137 := Blk.new rfl
  have HH := has_w (tagM c) 4 (tag_in c) (by decide) (w.alloc (.cells #[I (tagM c), I (numM c), S (strM c), .slice ak (kidsM c).length capk] 137))
  have e3 : hasT (tagM c) 4 = true := by rcases ht with e | e <;> simp [hasT, e]
  rw [e3] at HH
  have ks := h.ks
  have kk := Kept.of_below hb1 ks
  have TX := text_w K _ x _ _ _ _ (hmx.kept kk) (fun k hk => Nat.lt_of_lt_of_le (ks k hk) hb1.size) (by omega)
  have hkl := kids_len c
  have HT : Hid (∀ y ∈ kidsM c, (text y).length ≤ 1000) := fun y hy => by
    have h1 := text_kids c (by rcases ht with e | e <;> rw [e] <;> decide)
    have h2 := joinT_mem (kidsM c) y hy
    have h3 := congrArg List.length h1
    simp at h3
    omega
  have HF : Hid (∀ k : Nat, k ≤ (kidsM c).length → -1 ≤ findI (text x) ((kidsM c).drop k) k ∧ findI (text x) ((kidsM c).drop k) k ≤ 100) := fun k hk => by
    have := findI_le (text x) ((kidsM c).drop k) k (by omega)
    rw [List.length_drop] at this
    omega
  have PP : Hid (∀ (W : World), Below w.heap.size w W → ∀ n : Int, n = findI (text x) (kidsM c) 0 → Calls Try.prog 114 #[ptr p, I 2, .agg #[I 1, I n, S [], .slice none 0 0]] W (fun e w' => e = .returned (I (wPutM 2 (.int (findI (text x) (kidsM c) 0)) (x :: c :: r)).2) ∧ TurnM K w p (wPutM 2 (.int (findI (text x) (kidsM c) 0)) (x :: c :: r)).1 w')) := by
    intro W B n hn
    subst hn
    have hbd := HF.out 0 (Nat.zero_le _)
    have hbd' : -1 ≤ findI (text x) (kidsM c) 0 ∧ findI (text x) (kidsM c) 0 ≤ 100 := hbd
    exact put_new0 K w W p 2 _ h (by simp) _ _ _ _ _ B (mInt K W _ (by omega) (by omega)) (by have := int_len (findI (text x) (kidsM c) 0) (by omega) (by omega); omega)
  have HKS : Hid (MRs K w (kidsM c) cs) := hks
  have HRW : Hid (RowK K w (.slice ak (kidsM c).length capk) (kidsM c).length cs) := hrow
  generalize wPutM 2 (.int (findI (text x) (kidsM c) 0)) (x :: c :: r) = R at *
  clear hks hrow hk0 hb hmx hmc h e3 kk
  generalize r.length = m at *
  have w1 := wr64 (m : Int) (by omega) (by omega)
  have w2 := wr64 ((m : Int) + 1) (by omega) (by omega)
  have q1 : ¬ ((m : Int) + 2) < 2 := by omega
  have e1 : (m : Int) + 2 - 1 = (m : Int) + 1 := by omega
  have e2 : (m : Int) + 2 - 2 = (m : Int) := by omega
  have q3 : (m : Int) < (m : Int) + 2 := by omega
  have q4 : (m : Int) + 1 < (m : Int) + 2 := by omega
  have q5 : 0 ≤ (m : Int) + 1 := by omega
  generalize hES : kidsM c = es at *
  generalize tagM c = tg at *
  generalize numM c = nu at *
  generalize strM c = sx at *
  generalize hTXG : text x = tx at *
  have hkl30 : es.length ≤ 30 := by omega
  have hzx := str_size tx
  clear hES hTXG hkl
  have wl := wr64 ((es.length : Int) - 1) (by omega) (by omega)
  go_enter Try.func106, Try.ntmps106
  go_wp2_with fail
  refine HH.mono ?_
  rintro e w' ⟨rfl, rfl⟩
  go_wp2_with fail
  refine TX.mono ?_
  rintro e w1 ⟨rfl, b1⟩
  have TO1 := TO.below b1 TO.lt
  have BB := hb1.trans (b1.mono hb1.size)
  have t3 := TO1.cell 3
  go_wp2
  go_loopw [6, 7, 8] (fun at_ i _ wr => ∃ k : Nat, k ≤ es.length ∧ at_ = I (findI tx (es.drop k) k) ∧ i = I ((k : Int) - 1) ∧ Blk wr w.heap.size #[I tg, I nu, S sx, .slice ak es.length capk] 137 ∧ Below w.heap.size w wr) (fun _ i _ _ => (intOf i + 1).toNat)
  case atStart => exact ⟨es.length, Nat.le_refl _, by rw [List.drop_of_length_le (Nat.le_refl _)]; rfl, rfl, TO1, BB⟩
  case round =>
    clear TO1 BB b1 t3 TX TO hb1 HH
    obtain ⟨k, hk, rfl, rfl, TO1, BB⟩ := hrel
    have t3 := TO1.cell 3
    cases k with
    | zero =>
      have q6 : ¬ (0 : Int) ≤ ((0 : Nat) : Int) - 1 := by omega
      have P := PP.out _ BB (findI tx (es.drop 0) (0 : Nat)) rfl
      go_wp2_with fail
      refine P.mono ?_
      rintro e w' ⟨rfl, tn⟩
      go_wp2
      go_ret
      exact ⟨rfl, tn⟩
    | succ k =>
      have q6 : (0 : Int) ≤ (k : Int) := by omega
      have e6 : ((k + 1 : Nat) : Int) - 1 = (k : Int) := by omega
      rw [e6]
      have q7 : (k : Int) < (es.length : Int) := by omega
      have w7 := wr64 ((k : Int) - 1) (by omega) (by omega)
      have kw : Kept K w wr := Kept.of_below BB ks
      have ks' : ∀ k, K k → k < wr.heap.size := fun k hk => Nat.lt_of_lt_of_le (ks k hk) BB.size
      obtain ⟨g2, cap2, z0, z1, z2, z3, e, kg2, hl2, hle2, y0, y1, y2, y3, hm⟩ := (HRW.out.kept kw (fun _ h => h)).elem (HKS.out.kept kw) k (by omega)
      simp only [Value.slice.injEq, true_and] at e
      obtain ⟨rfl, rfl⟩ := e
      have TE := text_w K wr _ _ _ _ _ hm ks' (HT.out _ (List.getElem_mem (by omega)))
      have HS : Hid _ := findI_step tx es k (by omega)
      have hzt := str_size (text (es[k]'(by omega)))
      obtain ⟨f1, f2⟩ := HF.out (k + 1) hk
      generalize text (es[k]'(by omega)) = te at *
      clear hm
      go_wp2_with fail
      refine TE.mono ?_
      rintro e w2 ⟨rfl, b2⟩
      have TO2 := TO1.below b2 TO1.lt
      have BB2 := BB.trans (b2.mono BB.size)
      by_cases heq : te = tx
      · have hq : ((str te).toList == (str tx).toList) = true := by rw [heq]; simp
        have HE : Hid (findI tx (es.drop k) k = (k : Int)) := by have := HS.out; rw [if_pos heq] at this; exact this
        subst heq
        go_wp2
        go_roundw
        case rel => exact ⟨k, by omega, by rw [HE.out], by go_num, TO2, BB2⟩
        case measure => simp [intOf]
      · have hq : ((str te).toList == (str tx).toList) = false := by rw [str_toList, str_toList]; simpa using heq
        have hq2 : ¬ (str te).toList = (str tx).toList := by rw [str_toList, str_toList]; exact heq
        have HE : Hid (findI tx (es.drop k) k = findI tx (es.drop (k + 1)) ((k + 1 : Nat) : Int)) := by have := HS.out; rw [if_neg heq] at this; exact this
        generalize findI tx (es.drop (k + 1)) ((k + 1 : Nat) : Int) = fv at *
        go_wp2
        go_roundw
        case rel => exact ⟨k, by omega, by rw [HE.out], by go_num, TO2, BB2⟩
        case measure => simp [intOf]
theorem mFind_w (K : Nat → Prop) (w : World) (p : Nat) (st : List TV) (h : MT K w p st) (hf : Fine st) : Calls Try.prog 106 #[ptr p] w (Wm K w p (wFind st)) := by
  match st, h, hf with
  | [], h, _ => refine (mfind_under K w p _ (by decide) h).mono ?_; rintro e w' ⟨rfl, rfl⟩; exact ⟨rfl, .refl h⟩
  | [_], h, _ => refine (mfind_under K w p _ (by simp) h).mono ?_; rintro e w' ⟨rfl, rfl⟩; exact ⟨rfl, .refl h⟩
  | x :: c :: r, h, hf =>
    unfold wFind
    dsimp only
    rw [iter_tag]
    by_cases ht : tagM c = 3 ∨ tagM c = 4
    · rw [if_pos ht]
      have := mFind_go K w p x c r h hf.head hf.tail.head ht
      have h5 := h.len
      have hkl := kids_len c
      have hc := hf.tail.head
      have hb := findI_le (text x) (kidsM c) 0 (by omega)
      have e : wPutM 2 (.int (findI (text x) (kidsM c) 0)) (x :: c :: r) = (.int (findI (text x) (kidsM c) 0) :: r, 0) := by
        unfold wPutM
        have := int_len (findI (text x) (kidsM c) 0) (by omega) (by omega)
        rw [if_neg (by omega), if_neg (by simp at h5 ⊢; omega)]
        rfl
      rw [e] at this
      exact this
    · rw [if_neg ht]
      refine (mFind_no K w p x c r h (by have := tag_in c; omega)).mono ?_
      rintro e w' ⟨rfl, bb⟩
      exact ⟨rfl, .below h bb⟩
end Go.Proofs.Qxb6500470a
