import Derived.Test.Qxb6500470aVm7
import Derived.Deep.RegionWith
namespace Go.Proofs.Qxb6500470a
open Go.RowKit
set_option maxRecDepth 100000 in
set_option maxHeartbeats 16000000 in
theorem mNeg_no (K : Nat → Prop) (w : World) (p : Nat) (x : TV) (r : List TV) (h : MT K w p (x :: r)) (ht : tagM x = 2 ∨ tagM x = 3) : Calls Try.prog 108 #[ptr p] w fun e w' => e = .returned (I 5) ∧ Below w.heap.size w w' := by
  have h5 := h.len
  obtain ⟨g, cap, c0, c1, c2, c3, hp, hg, kg, lg, lp, hle, fp, h0, h1, h2, h3, hm⟩ := h.val r.length 0 (by simp)
  have hm : MR K w x c0 c1 c2 c3 := hm
  have HM : Hid (MR K w x c0 c1 c2 c3) := hm
  obtain ⟨e0, e1, e2, hb, hk0, cs, hks, hrow⟩ := hm.open
  obtain ⟨ak, capk, e3⟩ := hrow.slice
  subst e0 e1 e2 e3
  have hl : (x :: r).length = r.length + 1 := rfl
  rw [hl] at hp hle h5
  have hb1 := (Below.refl w.heap.size w).alloc (Nat.le_refl _) (.cells #[I (tagM x), I (numM x), S (strM x), .slice ak (kidsM x).length capk] 137)
  have HH := has_w (tagM x) 2 (tag_in x) (by decide) (w.alloc (.cells #[I (tagM x), I (numM x), S (strM x), .slice ak (kidsM x).length capk] 137))
  have e3 : hasT (tagM x) 2 = false := by rcases ht with e | e <;> simp [hasT, e]
  rw [e3] at HH
  clear hks hrow hk0 hb HM e3 ht hm
  generalize r.length = m at *
  have w1 := wr64 (m : Int) (by omega) (by omega)
  have q1 : ¬ ((m : Int) + 1) < 1 := by omega
  generalize tagM x = tg at *
  generalize numM x = nu at *
  generalize strM x = sx at *
  generalize (kidsM x).length = kl at *
  go_enter Try.func108, Try.ntmps108
  go_wp2_with fail
  refine HH.mono ?_
  rintro e w' ⟨rfl, rfl⟩
  go_wp2
  go_ret
  exact ⟨rfl, hb1⟩
set_option maxRecDepth 100000 in
set_option maxHeartbeats 16000000 in
theorem mNeg_int (K : Nat → Prop) (w : World) (p : Nat) (n : Int) (r : List TV) (h : MT K w p (.int n :: r)) : Calls Try.prog 108 #[ptr p] w (Wm K w p (wPutM 1 (.int (wrap64 (-n))) (.int n :: r))) := by
  obtain ⟨x, hx⟩ : ∃ x, TV.int n = x := ⟨_, rfl⟩
  have ht : tagM x = 1 := by rw [← hx]; rfl
  have hnu : numM x = n := by rw [← hx]; rfl
  rw [hx] at h ⊢
  have h5 := h.len
  obtain ⟨g, cap, c0, c1, c2, c3, hp, hg, kg, lg, lp, hle, fp, h0, h1, h2, h3, hm⟩ := h.val r.length 0 (by simp)
  have hm : MR K w x c0 c1 c2 c3 := hm
  have HM : Hid (MR K w x c0 c1 c2 c3) := hm
  obtain ⟨e0, e1, e2, hb, hk0, cs, hks, hrow⟩ := hm.open
  obtain ⟨ak, capk, e3⟩ := hrow.slice
  subst e0 e1 e2 e3
  have hl : (x :: r).length = r.length + 1 := rfl
  rw [hl] at hp hle h5
  obtain ⟨z1, z2⟩ := w64_bounds (-n)
  have hb1 := (Below.refl w.heap.size w).alloc (Nat.le_refl _) (.cells #[I (tagM x), I (numM x), S (strM x), .slice ak (kidsM x).length capk] 137)
  have P := put_w K _ p 1 (x :: r) (h.later hb1) (by simp) (.int (wrap64 (-n))) _ _ _ _ (mInt K (w.alloc (.cells #[I (tagM x), I (numM x), S (strM x), .slice ak (kidsM x).length capk] 137)) _ z1 z2) (by have := int_len (wrap64 (-n)) z1 z2; omega)
  have HH := has_w (tagM x) 2 (tag_in x) (by decide) (w.alloc (.cells #[I (tagM x), I (numM x), S (strM x), .slice ak (kidsM x).length capk] 137))
  have e3 : hasT (tagM x) 2 = true := by simp [hasT, ht]
  rw [e3] at HH
  generalize wPutM 1 (.int (wrap64 (-n))) (x :: r) = R at *
  have ks := h.ks
  rw [hnu] at *
  rw [ht] at *
  clear hks hrow hk0 hb HM e3 ht hm hnu hx
  generalize r.length = m at *
  have w1 := wr64 (m : Int) (by omega) (by omega)
  have q1 : ¬ ((m : Int) + 1) < 1 := by omega
  generalize strM x = sx at *
  generalize (kidsM x).length = kl at *
  go_enter Try.func108, Try.ntmps108
  go_wp2_with fail
  refine HH.mono ?_
  rintro e w' ⟨rfl, rfl⟩
  go_wp2_with fail
  refine P.mono ?_
  rintro e w' ⟨rfl, tn⟩
  go_wp2
  go_ret
  exact ⟨rfl, .trans (fun _ h => h) (fun _ h => .inl h) (Kept.of_below hb1 ks) tn⟩
end Go.Proofs.Qxb6500470a
