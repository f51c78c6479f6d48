import Derived.Test.Qxb6500470aVm5
namespace Go.Proofs.Qxb6500470a
open Go.RowKit
theorem int_len (n : Int) (n1 : -9223372036854775808 ≤ n) (n2 : n ≤ 9223372036854775807) : (text (.int n)).length ≤ 30 := itoa_len30 n n1 n2
theorem mInt (K : Nat → Prop) (w : World) (n : Int) (n1 : -9223372036854775808 ≤ n) (n2 : n ≤ 9223372036854775807) : MR K w (.int n) (I 1) (I n) (S []) (.slice none 0 0) := ⟨rfl, rfl, rfl, rfl, n1, n2⟩
theorem mStr (K : Nat → Prop) (w : World) (s : List UInt8) : MR K w (.str s) (I 2) (I 0) (S s) (.slice none 0 0) := ⟨rfl, rfl, rfl, rfl⟩
theorem mNil (K : Nat → Prop) (w : World) : MR K w .nil (I 3) (I 0) (S []) (.slice none 0 0) := ⟨rfl, rfl, rfl, rfl⟩
theorem wPut_push (x : TV) (st : List TV) (hx : (text x).length ≤ 30) : wPutM 0 x st = wPush x st := by
  unfold wPutM wPush
  rw [if_neg (by omega), Nat.sub_zero, List.drop_zero]
  by_cases h : st.length < 5
  · rw [if_pos h, if_neg (by omega)]
  · rw [if_neg h, if_pos (by omega)]
set_option maxRecDepth 100000 in
set_option maxHeartbeats 4000000 in
theorem mPushI (K : Nat → Prop) (w : World) (p : Nat) (st : List TV) (h : MT K w p st) (n : Int) (n1 : -9223372036854775808 ≤ n) (n2 : n ≤ 9223372036854775807) : Calls Try.prog 102 #[ptr p, I 1, I n, S []] w (Wm K w p (wPush (.int n) st)) := by
  have hx : (text (.int n)).length ≤ 30 := int_len n n1 n2
  have P := put_w K w p 0 st h (Nat.zero_le _) (.int n) _ _ _ _ (mInt K w n n1 n2) (by omega)
  rw [wPut_push _ _ hx] at P
  generalize wPush (.int n) st = R at *
  clear hx
  go_enter Try.func102, Try.ntmps102
  go_wp2_with fail
  refine P.mono ?_
  rintro e w' ⟨rfl, tn⟩
  go_wp2
  go_ret
  exact ⟨rfl, tn⟩
set_option maxRecDepth 100000 in
set_option maxHeartbeats 4000000 in
theorem mPushS (K : Nat → Prop) (w : World) (p : Nat) (st : List TV) (h : MT K w p st) (z : List UInt8) (hz : z.length ≤ 6) : Calls Try.prog 102 #[ptr p, I 2, I 0, S z] w (Wm K w p (wPush (.str z) st)) := by
  have hx : (text (.str z)).length ≤ 30 := by rw [str_text]; have := itoa_len (z.length : Int) (by omega) (by omega); simp; omega
  have P := put_w K w p 0 st h (Nat.zero_le _) (.str z) _ _ _ _ (mStr K w z) (by omega)
  rw [wPut_push _ _ hx] at P
  generalize wPush (.str z) st = R at *
  have hzz := str_size z
  have q6 : ¬ (6 : Int) < (z.length : Int) := by omega
  clear hx
  go_enter Try.func102, Try.ntmps102
  go_wp2_with fail
  refine P.mono ?_
  rintro e w' ⟨rfl, tn⟩
  go_wp2
  go_ret
  exact ⟨rfl, tn⟩
set_option maxRecDepth 100000 in
set_option maxHeartbeats 4000000 in
theorem mPushL (K : Nat → Prop) (w : World) (p : Nat) (st : List TV) (h : MT K w p st) : Calls Try.prog 102 #[ptr p, I 3, I 0, S []] w (Wm K w p (wPush (.nil) st)) := by
  have hx : (text (.nil)).length ≤ 30 := by decide
  have P := put_w K w p 0 st h (Nat.zero_le _) (.nil) _ _ _ _ (mNil K w) (by omega)
  rw [wPut_push _ _ hx] at P
  generalize wPush (.nil) st = R at *
  clear hx
  go_enter Try.func102, Try.ntmps102
  go_wp2_with fail
  refine P.mono ?_
  rintro e w' ⟨rfl, tn⟩
  go_wp2
  go_ret
  exact ⟨rfl, tn⟩
set_option maxRecDepth 100000 in
set_option maxHeartbeats 4000000 in
theorem mdrop_under (K : Nat → Prop) (w : World) (p : Nat) (h : MT K w p []) : Calls Try.prog 111 #[ptr p] w fun e w' => e = .returned (I 4) ∧ w' = w := by
  obtain ⟨a, cap, c0, lp⟩ := h.empty
  go_enter Try.func111, Try.ntmps111
  go_wp2
  go_ret
  exact ⟨rfl, rfl⟩
set_option maxRecDepth 100000 in
set_option maxHeartbeats 4000000 in
theorem mdup_under (K : Nat → Prop) (w : World) (p : Nat) (h : MT K w p []) : Calls Try.prog 105 #[ptr p] w fun e w' => e = .returned (I 4) ∧ w' = w := by
  obtain ⟨a, cap, c0, lp⟩ := h.empty
  go_enter Try.func105, Try.ntmps105
  go_wp2
  go_ret
  exact ⟨rfl, rfl⟩
set_option maxRecDepth 100000 in
set_option maxHeartbeats 4000000 in
theorem mneg_under (K : Nat → Prop) (w : World) (p : Nat) (h : MT K w p []) : Calls Try.prog 108 #[ptr p] w fun e w' => e = .returned (I 4) ∧ w' = w := by
  obtain ⟨a, cap, c0, lp⟩ := h.empty
  go_enter Try.func108, Try.ntmps108
  go_wp2
  go_ret
  exact ⟨rfl, rfl⟩
set_option maxRecDepth 100000 in
set_option maxHeartbeats 4000000 in
theorem mlen_under (K : Nat → Prop) (w : World) (p : Nat) (h : MT K w p []) : Calls Try.prog 107 #[ptr p] w fun e w' => e = .returned (I 4) ∧ w' = w := by
  obtain ⟨a, cap, c0, lp⟩ := h.empty
  go_enter Try.func107, Try.ntmps107
  go_wp2
  go_ret
  exact ⟨rfl, rfl⟩
set_option maxRecDepth 100000 in
set_option maxHeartbeats 4000000 in
theorem mfold_under (K : Nat → Prop) (w : World) (p : Nat) (h : MT K w p []) : Calls Try.prog 110 #[ptr p] w fun e w' => e = .returned (I 4) ∧ w' = w := by
  obtain ⟨a, cap, c0, lp⟩ := h.empty
  go_enter Try.func110, Try.ntmps110
  go_wp2
  go_ret
  exact ⟨rfl, rfl⟩
set_option maxRecDepth 100000 in
set_option maxHeartbeats 4000000 in
theorem mcons_under (K : Nat → Prop) (w : World) (p : Nat) (st : List TV) (hst : st.length < 2) (h : MT K w p st) : Calls Try.prog 104 #[ptr p] w fun e w' => e = .returned (I 4) ∧ w' = w := by
  obtain ⟨a, cap, c0, -, lp⟩ := h.head
  have q : (st.length : Int) < 2 := by omega
  generalize st.length = n at *
  go_enter Try.func104, Try.ntmps104
  go_wp2
  go_ret
  exact ⟨rfl, rfl⟩
set_option maxRecDepth 100000 in
set_option maxHeartbeats 4000000 in
theorem mpair_under (K : Nat → Prop) (w : World) (p : Nat) (st : List TV) (hst : st.length < 2) (h : MT K w p st) : Calls Try.prog 109 #[ptr p] w fun e w' => e = .returned (I 4) ∧ w' = w := by
  obtain ⟨a, cap, c0, -, lp⟩ := h.head
  have q : (st.length : Int) < 2 := by omega
  generalize st.length = n at *
  go_enter Try.func109, Try.ntmps109
  go_wp2
  go_ret
  exact ⟨rfl, rfl⟩
set_option maxRecDepth 100000 in
set_option maxHeartbeats 4000000 in
theorem madd_under (K : Nat → Prop) (w : World) (p : Nat) (st : List TV) (hst : st.length < 2) (h : MT K w p st) : Calls Try.prog 103 #[ptr p] w fun e w' => e = .returned (I 4) ∧ w' = w := by
  obtain ⟨a, cap, c0, -, lp⟩ := h.head
  have q : (st.length : Int) < 2 := by omega
  generalize st.length = n at *
  go_enter Try.func103, Try.ntmps103
  go_wp2
  go_ret
  exact ⟨rfl, rfl⟩
set_option maxRecDepth 100000 in
set_option maxHeartbeats 4000000 in
theorem mfind_under (K : Nat → Prop) (w : World) (p : Nat) (st : List TV) (hst : st.length < 2) (h : MT K w p st) : Calls Try.prog 106 #[ptr p] w fun e w' => e = .returned (I 4) ∧ w' = w := by
  obtain ⟨a, cap, c0, -, lp⟩ := h.head
  have q : (st.length : Int) < 2 := by omega
  generalize st.length = n at *
  go_enter Try.func106, Try.ntmps106
  go_wp2
  go_ret
  exact ⟨rfl, rfl⟩
theorem drop_post {K : Nat → Prop} {w : World} {p : Nat} {a : Option Addr} {cap : Nat} {x : TV} {r : List TV} {cs : List Value} (h : MSA K w p a cap (x :: r).reverse cs) : MT K (w.setCell ⟨p, 0, none⟩ (.slice a r.length cap)) p r ∧ Kept K w (w.setCell ⟨p, 0, none⟩ (.slice a r.length cap)) := by
  have kk : Kept K w (w.setCell ⟨p, 0, none⟩ (.slice a r.length cap)) := (Kept.refl K w).setCell h.kp _
  have hl : (x :: r).reverse.length = r.length + 1 := by simp
  have e : (x :: r).reverse.take r.length = r.reverse := by simp
  have own := own_pre4 h.own (show r.length ≤ (x :: r).reverse.length by omega)
  have vals := h.vals.take r.length
  rw [e] at vals
  have ow : (w.setCell ⟨p, 0, none⟩ (.slice a r.length cap)).ownsRow 0 137 4 (.slice a r.length cap) r.length (cs.take (r.length * 4)) := own_kept (L := fun k => k ≠ p) own ⟨rfl, rfl, rfl, by simp [World.setCell], fun k hk => Below.heap_setCell _ _ _ _ hk⟩ (fun g hg e => h.far (by rw [← e]; exact hg))
  refine ⟨⟨a, cap, cs.take (r.length * 4), ?_, ?_, vals.kept kk, h.far, h.kp, h.ka, fun k hk => by simpa [World.setCell] using h.ks k hk, by have := h.le; simp at this ⊢; omega⟩, kk⟩
  · rw [List.length_reverse]
    exact h.head.set (i := 0) _
  · rw [List.length_reverse]
    exact ow
set_option maxRecDepth 100000 in
set_option maxHeartbeats 4000000 in
theorem mDrop_some (K : Nat → Prop) (w : World) (p : Nat) (x : TV) (r : List TV) (h : MT K w p (x :: r)) : Calls Try.prog 111 #[ptr p] w (Wm K w p (r, 0)) := by
  have h5 := h.len
  obtain ⟨a, cap, cs, h⟩ := h
  have fin := drop_post h
  obtain ⟨hp, fp, lp⟩ := h.at0
  have hcap : r.length + 1 ≤ cap := by
    obtain ⟨g, c0, c1, c2, c3, -, -, -, -, hle, -⟩ := h.elem 0 (by simp)
    simpa using hle
  have hl : (x :: r).reverse.length = r.length + 1 := by simp
  rw [hl] at hp
  have hl2 : (x :: r).length = r.length + 1 := rfl
  rw [hl2] at h5
  obtain ⟨g, ha⟩ : ∃ g, a = some ⟨g, 0, none⟩ := by
    obtain ⟨g, c0, c1, c2, c3, e, -⟩ := h.elem 0 (by simp)
    exact ⟨g, e⟩
  subst ha
  have HF : Hid _ := fin
  clear fin h
  generalize r.length = m at *
  have w1 := wr64 (m : Int) (by omega) (by omega)
  have q1 : ¬ ((m : Int) + 1) < 1 := by omega
  have q2 : (m : Int) ≤ (cap : Int) := by omega
  go_enter Try.func111, Try.ntmps111
  go_wp2
  go_ret
  exact ⟨rfl, K, fun _ h => h, fun _ h => .inl h, HF.out.1, HF.out.2⟩
theorem mDrop_w (K : Nat → Prop) (w : World) (p : Nat) (st : List TV) (h : MT K w p st) : Calls Try.prog 111 #[ptr p] w (Wm K w p (wDrop st)) := by
  cases st with
  | nil => refine (mdrop_under K w p h).mono ?_; rintro e w' ⟨rfl, rfl⟩; exact ⟨rfl, .refl h⟩
  | cons x r => exact mDrop_some K w p x r h
set_option maxRecDepth 100000 in
set_option maxHeartbeats 4000000 in
theorem mDup_some (K : Nat → Prop) (w : World) (p : Nat) (x : TV) (r : List TV) (h : MT K w p (x :: r)) (hf : (text x).length ≤ 30) : Calls Try.prog 105 #[ptr p] w (Wm K w p (wPutM 0 x (x :: r))) := by
  have h5 := h.len
  obtain ⟨g, cap, c0, c1, c2, c3, hp, hg, kg, lg, lp, hle, fp, h0, h1, h2, h3, hm⟩ := h.val r.length 0 (by simp)
  have hm : MR K w x c0 c1 c2 c3 := hm
  have HM : Hid (MR K w x c0 c1 c2 c3) := hm
  obtain ⟨e0, e1, e2, hb, hk0, cs, hks, hrow⟩ := hm.open
  obtain ⟨ak, capk, e3⟩ := hrow.slice
  subst e0 e1 e2 e3
  have hl : (x :: r).length = r.length + 1 := rfl
  rw [hl] at hp hle h5
  have P := put_w K w p 0 (x :: r) h (Nat.zero_le _) x _ _ _ _ HM.out (by omega)
  generalize wPutM 0 x (x :: r) = R at *
  clear hks hrow hk0 hb HM
  generalize r.length = m at *
  have w1 := wr64 (m : Int) (by omega) (by omega)
  have q1 : ¬ ((m : Int) + 1) < 1 := by omega
  generalize tagM x = tg at *
  generalize numM x = nu at *
  generalize strM x = sx at *
  generalize (kidsM x).length = kl at *
  go_enter Try.func105, Try.ntmps105
  go_wp2_with fail
  refine P.mono ?_
  rintro e w' ⟨rfl, tn⟩
  go_wp2
  go_ret
  exact ⟨rfl, tn⟩
theorem mDup_w (K : Nat → Prop) (w : World) (p : Nat) (st : List TV) (h : MT K w p st) (hf : Fine st) : Calls Try.prog 105 #[ptr p] w (Wm K w p (wDup st)) := by
  cases st with
  | nil => refine (mdup_under K w p h).mono ?_; rintro e w' ⟨rfl, rfl⟩; exact ⟨rfl, .refl h⟩
  | cons x r =>
    have e : wPutM 0 x (x :: r) = wDup (x :: r) := by
      have := hf.head
      unfold wPutM wDup
      rw [if_neg (by omega), Nat.sub_zero, List.drop_zero]
      dsimp only
      by_cases h4 : r.length < 4
      · rw [if_pos h4, if_neg (by simp; omega)]
      · rw [if_neg h4, if_pos (by simp; omega)]
    rw [← e]
    exact mDup_some K w p x r h hf.head
set_option maxRecDepth 100000 in
set_option maxHeartbeats 4000000 in
theorem mLen_some (K : Nat → Prop) (w : World) (p : Nat) (x : TV) (r : List TV) (h : MT K w p (x :: r)) (hf : (text x).length ≤ 30) (ht : tagM x ≠ 1) : Calls Try.prog 107 #[ptr p] w (Wm K w p (wPutM 1 (.int ((strM x).length + (kidsM x).length : Nat)) (x :: r))) := by
  have h5 := h.len
  obtain ⟨g, cap, c0, c1, c2, c3, hp, hg, kg, lg, lp, hle, fp, h0, h1, h2, h3, hm⟩ := h.val r.length 0 (by simp)
  have hm : MR K w x c0 c1 c2 c3 := hm
  have HM : Hid (MR K w x c0 c1 c2 c3) := hm
  obtain ⟨e0, e1, e2, hb, hk0, cs, hks, hrow⟩ := hm.open
  obtain ⟨ak, capk, e3⟩ := hrow.slice
  subst e0 e1 e2 e3
  have hl : (x :: r).length = r.length + 1 := rfl
  rw [hl] at hp hle h5
  have hkl := kids_len x
  have hsl : (strM x).length ≤ 30 := by
    cases x with
    | str s => have : (itoa s.length ++ [58] ++ s).length ≤ 30 := hf
               have e : strM (.str s) = s := rfl
               rw [e]; simp at this; omega
    | _ => exact Nat.zero_le _
  have hz := str_size (strM x)
  have hb1 := (Below.refl w.heap.size w).alloc (Nat.le_refl _) (.cells #[I (tagM x), I (numM x), S (strM x), .slice ak (kidsM x).length capk] 137)
  have P := put_w K _ p 1 (x :: r) (h.later hb1) (by simp) (.int ((strM x).length + (kidsM x).length : Nat)) _ _ _ _ (mInt K _ _ (by omega) (by omega)) (by have := int_len ((strM x).length + (kidsM x).length : Nat) (by omega) (by omega); omega)
  have HH := has_w (tagM x) 3 (tag_in x) (by decide) (w.alloc (.cells #[I (tagM x), I (numM x), S (strM x), .slice ak (kidsM x).length capk] 137))
  have e3 : hasT (tagM x) 3 = true := by simp [hasT, ht]
  rw [e3] at HH
  generalize wPutM 1 (.int ((strM x).length + (kidsM x).length : Nat)) (x :: r) = R at *
  have ks := h.ks
  clear hks hrow hk0 hb HM e3 ht hm
  generalize r.length = m at *
  have w1 := wr64 (m : Int) (by omega) (by omega)
  have q1 : ¬ ((m : Int) + 1) < 1 := by omega
  generalize tagM x = tg at *
  generalize numM x = nu at *
  have wq := wr64 (((strM x).length : Int) + ((kidsM x).length : Int)) (by omega) (by omega)
  rw [Int.natCast_add] at P
  generalize strM x = sx at *
  generalize (kidsM x).length = kl at *
  go_enter Try.func107, Try.ntmps107
  go_wp2_with fail
  refine HH.mono ?_
  rintro e w' ⟨rfl, rfl⟩
  go_wp2_with fail
  refine P.mono ?_
  rintro e w' ⟨rfl, tn⟩
  go_wp2
  go_ret
  exact ⟨rfl, .trans (fun _ h => h) (fun _ h => .inl h) (Kept.of_below hb1 ks) tn⟩
set_option maxRecDepth 100000 in
set_option maxHeartbeats 4000000 in
theorem mLen_int (K : Nat → Prop) (w : World) (p : Nat) (n : Int) (r : List TV) (h : MT K w p (.int n :: r)) : Calls Try.prog 107 #[ptr p] w fun e w' => e = .returned (I 5) ∧ Below w.heap.size w w' := by
  obtain ⟨x, hx⟩ : ∃ x, TV.int n = x := ⟨_, rfl⟩
  have ht : tagM x = 1 := by rw [← hx]; rfl
  rw [hx] at h
  have h5 := h.len
  obtain ⟨g, cap, c0, c1, c2, c3, hp, hg, kg, lg, lp, hle, fp, h0, h1, h2, h3, hm⟩ := h.val r.length 0 (by simp)
  have hm : MR K w x c0 c1 c2 c3 := hm
  have HM : Hid (MR K w x c0 c1 c2 c3) := hm
  obtain ⟨e0, e1, e2, hb, hk0, cs, hks, hrow⟩ := hm.open
  obtain ⟨ak, capk, e3⟩ := hrow.slice
  subst e0 e1 e2 e3
  have hl : (x :: r).length = r.length + 1 := rfl
  rw [hl] at hp hle h5
  have hb1 := (Below.refl w.heap.size w).alloc (Nat.le_refl _) (.cells #[I (tagM x), I (numM x), S (strM x), .slice ak (kidsM x).length capk] 137)
  have HH := has_w (tagM x) 3 (tag_in x) (by decide) (w.alloc (.cells #[I (tagM x), I (numM x), S (strM x), .slice ak (kidsM x).length capk] 137))
  have e3 : hasT (tagM x) 3 = false := by simp [hasT, ht]
  rw [e3] at HH
  clear hks hrow hk0 hb HM e3 ht hm
  generalize r.length = m at *
  have w1 := wr64 (m : Int) (by omega) (by omega)
  have q1 : ¬ ((m : Int) + 1) < 1 := by omega
  generalize tagM x = tg at *
  generalize numM x = nu at *
  generalize strM x = sx at *
  generalize (kidsM x).length = kl at *
  go_enter Try.func107, Try.ntmps107
  go_wp2_with fail
  refine HH.mono ?_
  rintro e w' ⟨rfl, rfl⟩
  go_wp2
  go_ret
  exact ⟨rfl, hb1⟩
theorem put1 (x y : TV) (r : List TV) (h5 : (x :: r).length ≤ 5) (hy : (text y).length ≤ 30) : wPutM 1 y (x :: r) = (y :: r, 0) := by
  unfold wPutM
  rw [if_neg (by omega), if_neg (by simp at h5 ⊢; omega)]
  rfl
theorem mLen_w (K : Nat → Prop) (w : World) (p : Nat) (st : List TV) (h : MT K w p st) (hf : Fine st) : Calls Try.prog 107 #[ptr p] w (Wm K w p (wLen st)) := by
  cases st with
  | nil => refine (mlen_under K w p h).mono ?_; rintro e w' ⟨rfl, rfl⟩; exact ⟨rfl, .refl h⟩
  | cons x r =>
    have h5 := h.len
    have key : tagM x ≠ 1 → Calls Try.prog 107 #[ptr p] w (Wm K w p (.int ((strM x).length + (kidsM x).length : Nat) :: r, 0)) := by
      intro ht
      have hkl := kids_len x
      have hfx := hf.head
      have := mLen_some K w p x r h hfx ht
      rw [put1 x _ r h5 (by
        refine int_len _ (by omega) ?_
        have hsl : (strM x).length ≤ (text x).length := by
          cases x with
          | str s => show s.length ≤ (itoa s.length ++ [58] ++ s).length; simp; omega
          | _ => exact Nat.zero_le _
        omega)] at this
      exact this
    cases x with
    | int n =>
      refine (mLen_int K w p n r h).mono ?_
      rintro e w' ⟨rfl, b⟩
      exact ⟨rfl, .below h b⟩
    | str s => exact key (by show (2 : Int) ≠ 1; decide)
    | nil => exact key (by decide)
    | cons a b =>
      have e : cnt (.cons a b) = 0 + (a :: elems b).length := by rw [cnt_elems, Nat.zero_add]; rfl
      show Calls _ _ _ _ (Wm K w p (.int (cnt (.cons a b)) :: r, 0))
      rw [e]
      exact key (by show (3 : Int) ≠ 1; decide)
    | pair a b => exact key (by show (4 : Int) ≠ 1; decide)
end Go.Proofs.Qxb6500470a
