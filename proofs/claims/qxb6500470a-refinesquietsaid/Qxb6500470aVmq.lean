import Derived.Test.Qxb6500470aVmn
import Derived.Test.Qxb6500470aVmo
namespace Go.Proofs.Qxb6500470a
open Go.RowKit
set_option maxRecDepth 100000 in
set_option maxHeartbeats 16000000 in
theorem mEx_bad (K : Nat → Prop) (w : World) (p : Nat) (st : List TV) (h : MT K w p st) (k : Int) (h0 : k ≠ 0) (h2 : k ≠ 2) (h3 : k ≠ 3) (h4 : k ≠ 4) : Calls Try.prog 100 #[ptr p, I k] w fun e w' => e = .returned (I 9) ∧ w' = w := by
  obtain ⟨a, cap, c0, -, lp⟩ := h.head
  have q0 : (k != 0) = true := by simpa using h0
  have q2 : (k != 2) = true := by simpa using h2
  have q3 : (k != 3) = true := by simpa using h3
  have q4 : (k != 4) = true := by simpa using h4
  have r0 : (k == 0) = false := by simpa using h0
  have r2 : (k == 2) = false := by simpa using h2
  have r3 : (k == 3) = false := by simpa using h3
  have r4 : (k == 4) = false := by simpa using h4
  generalize st.length = n at *
  clear h0 h2 h3 h4
  go_enter Try.func100, Try.ntmps100
  go_wp2
  go_ret
  exact ⟨rfl, rfl⟩
set_option maxRecDepth 100000 in
set_option maxHeartbeats 16000000 in
theorem mEx0_none (K : Nat → Prop) (w : World) (p : Nat) (h : MT K w p []) : Calls Try.prog 100 #[ptr p, I 0] w fun e w' => e = .returned (I 5) ∧ w' = w := by
  obtain ⟨a, cap, c0, lp⟩ := h.empty
  go_enter Try.func100, Try.ntmps100
  go_wp2
  go_ret
  exact ⟨rfl, rfl⟩
set_option maxRecDepth 100000 in
set_option maxHeartbeats 16000000 in
theorem mEx2_none (K : Nat → Prop) (w : World) (p : Nat) (h : MT K w p []) : Calls Try.prog 100 #[ptr p, I 2] w fun e w' => e = .returned (I 5) ∧ w' = w := by
  obtain ⟨a, cap, c0, lp⟩ := h.empty
  go_enter Try.func100, Try.ntmps100
  go_wp2
  go_ret
  exact ⟨rfl, rfl⟩
set_option maxRecDepth 100000 in
set_option maxHeartbeats 16000000 in
theorem mEx4_under (K : Nat → Prop) (w : World) (p : Nat) (st : List TV) (hst : st.length < 2) (h : MT K w p st) : Calls Try.prog 100 #[ptr p, I 4] w fun e w' => e = .returned (I 5) ∧ w' = w := by
  obtain ⟨a, cap, c0, -, lp⟩ := h.head
  have q : (st.length : Int) < 2 := by omega
  generalize st.length = n at *
  go_enter Try.func100, Try.ntmps100
  go_wp2
  go_ret
  exact ⟨rfl, rfl⟩
set_option maxRecDepth 100000 in
set_option maxHeartbeats 16000000 in
theorem mEx4_a (K : Nat → Prop) (w : World) (p : Nat) (b a : TV) (r : List TV) (h : MT K w p (b :: a :: r)) (ha1 : tagM a ≠ 1) : Calls Try.prog 100 #[ptr p, I 4] w fun e w' => e = .returned (I 5) ∧ Below w.heap.size w w' := by
  have h5 := h.len
  obtain ⟨g, cap, c0, c1, c2, c3, hp, hg, kg, lg, lp, hle, fp, h0, h1, h2, h3, hmb⟩ := h.val (r.length + 1) 0 (by simp)
  obtain ⟨g', cap', d0, d1, d2, d3, hp', -, -, -, -, -, -, k0, k1, k2, k3, hma⟩ := h.val r.length 1 (by simp)
  have e := hp.symm.trans hp'
  simp only [Option.some.injEq, Value.slice.injEq, Addr.mk.injEq, and_true, true_and] at e
  obtain ⟨rfl, rfl⟩ := e
  have hmb : MR K w b c0 c1 c2 c3 := hmb
  have hma : MR K w a d0 d1 d2 d3 := hma
  obtain ⟨e0, e1, e2, hbb, -, cs, -, hrow⟩ := hmb.open
  obtain ⟨ab, capb, e3⟩ := hrow.slice
  obtain ⟨f0, f1, f2, hba, -, cs', -, hrow'⟩ := hma.open
  obtain ⟨aa, capa, f3⟩ := hrow'.slice
  subst e0 e1 e2 e3 f0 f1 f2 f3
  have hl : (b :: a :: r).length = r.length + 2 := rfl
  rw [hl] at hp hle h5
  clear hp' hmb hma hrow hrow'
  have B0 := (Below.refl w.heap.size w).alloc (Nat.le_refl _) (.cells #[I (tagM a), I (numM a), S (strM a), .slice aa (kidsM a).length capa] 137)
  have B1 := B0.alloc B0.size (.cells #[I (tagM b), I (numM b), S (strM b), .slice ab (kidsM b).length capb] 137)
  have qa : (tagM a != 1) = true := by simpa using ha1
  have ra : (tagM a == 1) = false := by simpa using ha1
  clear h hbb hba ha1
  generalize r.length = m at *
  have w1 := wr64 (m : Int) (by omega) (by omega)
  have w2 := wr64 ((m : Int) + 1) (by omega) (by omega)
  have q1 : ¬ ((m : Int) + 2) < 2 := by omega
  have e1 : (m : Int) + 2 - 1 = (m : Int) + 1 := by omega
  have e2 : (m : Int) + 2 - 2 = (m : Int) := by omega
  have q3 : (m : Int) < (m : Int) + 2 := by omega
  have q4 : (m : Int) + 1 < (m : Int) + 2 := by omega
  have q5 : 0 ≤ (m : Int) + 1 := by omega
  generalize tagM a = ta at *
  generalize numM a = na at *
  generalize strM a = sa at *
  generalize (kidsM a).length = la at *
  generalize tagM b = tb at *
  generalize numM b = nb at *
  generalize strM b = sb at *
  generalize (kidsM b).length = lb at *
  go_enter Try.func100, Try.ntmps100
  go_wp2
  go_ret
  exact ⟨rfl, B1⟩
set_option maxRecDepth 100000 in
set_option maxHeartbeats 16000000 in
theorem mEx4_b (K : Nat → Prop) (w : World) (p : Nat) (b a : TV) (r : List TV) (h : MT K w p (b :: a :: r)) (ha1 : tagM a = 1) (hb1 : tagM b ≠ 1) : Calls Try.prog 100 #[ptr p, I 4] w fun e w' => e = .returned (I 5) ∧ Below w.heap.size w w' := by
  have h5 := h.len
  obtain ⟨g, cap, c0, c1, c2, c3, hp, hg, kg, lg, lp, hle, fp, h0, h1, h2, h3, hmb⟩ := h.val (r.length + 1) 0 (by simp)
  obtain ⟨g', cap', d0, d1, d2, d3, hp', -, -, -, -, -, -, k0, k1, k2, k3, hma⟩ := h.val r.length 1 (by simp)
  have e := hp.symm.trans hp'
  simp only [Option.some.injEq, Value.slice.injEq, Addr.mk.injEq, and_true, true_and] at e
  obtain ⟨rfl, rfl⟩ := e
  have hmb : MR K w b c0 c1 c2 c3 := hmb
  have hma : MR K w a d0 d1 d2 d3 := hma
  obtain ⟨e0, e1, e2, hbb, -, cs, -, hrow⟩ := hmb.open
  obtain ⟨ab, capb, e3⟩ := hrow.slice
  obtain ⟨f0, f1, f2, hba, -, cs', -, hrow'⟩ := hma.open
  obtain ⟨aa, capa, f3⟩ := hrow'.slice
  subst e0 e1 e2 e3 f0 f1 f2 f3
  have hl : (b :: a :: r).length = r.length + 2 := rfl
  rw [hl] at hp hle h5
  clear hp' hmb hma hrow hrow'
  have B0 := (Below.refl w.heap.size w).alloc (Nat.le_refl _) (.cells #[I (tagM a), I (numM a), S (strM a), .slice aa (kidsM a).length capa] 137)
  have B1 := B0.alloc B0.size (.cells #[I (tagM b), I (numM b), S (strM b), .slice ab (kidsM b).length capb] 137)
  have qb : (tagM b != 1) = true := by simpa using hb1
  have rb : (tagM b == 1) = false := by simpa using hb1
  rw [ha1] at *
  clear h hbb hba hb1
  generalize r.length = m at *
  have w1 := wr64 (m : Int) (by omega) (by omega)
  have w2 := wr64 ((m : Int) + 1) (by omega) (by omega)
  have q1 : ¬ ((m : Int) + 2) < 2 := by omega
  have e1 : (m : Int) + 2 - 1 = (m : Int) + 1 := by omega
  have e2 : (m : Int) + 2 - 2 = (m : Int) := by omega
  have q3 : (m : Int) < (m : Int) + 2 := by omega
  have q4 : (m : Int) + 1 < (m : Int) + 2 := by omega
  have q5 : 0 ≤ (m : Int) + 1 := by omega
  generalize numM a = na at *
  generalize strM a = sa at *
  generalize (kidsM a).length = la at *
  generalize tagM b = tb at *
  generalize numM b = nb at *
  generalize strM b = sb at *
  generalize (kidsM b).length = lb at *
  go_enter Try.func100, Try.ntmps100
  go_wp2
  go_ret
  exact ⟨rfl, B1⟩
set_option maxRecDepth 100000 in
set_option maxHeartbeats 16000000 in
theorem mEx4_z (K : Nat → Prop) (w : World) (p : Nat) (b a : TV) (r : List TV) (h : MT K w p (b :: a :: r)) (ha1 : tagM a = 1) (hb1 : tagM b = 1) (hz : numM b = 0) : Calls Try.prog 100 #[ptr p, I 4] w fun e w' => e = .returned (I 5) ∧ Below w.heap.size w w' := by
  have h5 := h.len
  obtain ⟨g, cap, c0, c1, c2, c3, hp, hg, kg, lg, lp, hle, fp, h0, h1, h2, h3, hmb⟩ := h.val (r.length + 1) 0 (by simp)
  obtain ⟨g', cap', d0, d1, d2, d3, hp', -, -, -, -, -, -, k0, k1, k2, k3, hma⟩ := h.val r.length 1 (by simp)
  have e := hp.symm.trans hp'
  simp only [Option.some.injEq, Value.slice.injEq, Addr.mk.injEq, and_true, true_and] at e
  obtain ⟨rfl, rfl⟩ := e
  have hmb : MR K w b c0 c1 c2 c3 := hmb
  have hma : MR K w a d0 d1 d2 d3 := hma
  obtain ⟨e0, e1, e2, hbb, -, cs, -, hrow⟩ := hmb.open
  obtain ⟨ab, capb, e3⟩ := hrow.slice
  obtain ⟨f0, f1, f2, hba, -, cs', -, hrow'⟩ := hma.open
  obtain ⟨aa, capa, f3⟩ := hrow'.slice
  subst e0 e1 e2 e3 f0 f1 f2 f3
  have hl : (b :: a :: r).length = r.length + 2 := rfl
  rw [hl] at hp hle h5
  clear hp' hmb hma hrow hrow'
  have B0 := (Below.refl w.heap.size w).alloc (Nat.le_refl _) (.cells #[I (tagM a), I (numM a), S (strM a), .slice aa (kidsM a).length capa] 137)
  have B1 := B0.alloc B0.size (.cells #[I (tagM b), I (numM b), S (strM b), .slice ab (kidsM b).length capb] 137)
  rw [ha1] at *
  rw [hb1] at *
  rw [hz] at *
  clear h hbb hba
  generalize r.length = m at *
  have w1 := wr64 (m : Int) (by omega) (by omega)
  have w2 := wr64 ((m : Int) + 1) (by omega) (by omega)
  have q1 : ¬ ((m : Int) + 2) < 2 := by omega
  have e1 : (m : Int) + 2 - 1 = (m : Int) + 1 := by omega
  have e2 : (m : Int) + 2 - 2 = (m : Int) := by omega
  have q3 : (m : Int) < (m : Int) + 2 := by omega
  have q4 : (m : Int) + 1 < (m : Int) + 2 := by omega
  have q5 : 0 ≤ (m : Int) + 1 := by omega
  generalize numM a = na at *
  generalize strM a = sa at *
  generalize (kidsM a).length = la at *
  generalize strM b = sb at *
  generalize (kidsM b).length = lb at *
  go_enter Try.func100, Try.ntmps100
  go_wp2
  go_ret
  exact ⟨rfl, B1⟩
set_option maxRecDepth 100000 in
set_option maxHeartbeats 16000000 in
theorem mEx4_ok (K : Nat → Prop) (w : World) (p : Nat) (b a : TV) (r : List TV) (h : MT K w p (b :: a :: r)) (ha1 : tagM a = 1) (hb1 : tagM b = 1) (hz : numM b ≠ 0) : Calls Try.prog 100 #[ptr p, I 4] w (Wm K w p (wPutM 2 (.int (wrap64 ((numM a).tdiv (numM b)))) (b :: a :: r))) := by
  have h5 := h.len
  obtain ⟨g, cap, c0, c1, c2, c3, hp, hg, kg, lg, lp, hle, fp, h0, h1, h2, h3, hmb⟩ := h.val (r.length + 1) 0 (by simp)
  obtain ⟨g', cap', d0, d1, d2, d3, hp', -, -, -, -, -, -, k0, k1, k2, k3, hma⟩ := h.val r.length 1 (by simp)
  have e := hp.symm.trans hp'
  simp only [Option.some.injEq, Value.slice.injEq, Addr.mk.injEq, and_true, true_and] at e
  obtain ⟨rfl, rfl⟩ := e
  have hmb : MR K w b c0 c1 c2 c3 := hmb
  have hma : MR K w a d0 d1 d2 d3 := hma
  obtain ⟨e0, e1, e2, hbb, -, cs, -, hrow⟩ := hmb.open
  obtain ⟨ab, capb, e3⟩ := hrow.slice
  obtain ⟨f0, f1, f2, hba, -, cs', -, hrow'⟩ := hma.open
  obtain ⟨aa, capa, f3⟩ := hrow'.slice
  subst e0 e1 e2 e3 f0 f1 f2 f3
  have hl : (b :: a :: r).length = r.length + 2 := rfl
  rw [hl] at hp hle h5
  clear hp' hmb hma hrow hrow'
  have B0 := (Below.refl w.heap.size w).alloc (Nat.le_refl _) (.cells #[I (tagM a), I (numM a), S (strM a), .slice aa (kidsM a).length capa] 137)
  have B1 := B0.alloc B0.size (.cells #[I (tagM b), I (numM b), S (strM b), .slice ab (kidsM b).length capb] 137)
  obtain ⟨z1, z2⟩ := w64_bounds ((numM a).tdiv (numM b))
  have PP : Hid (∀ W, Below w.heap.size w W → Calls Try.prog 114 #[ptr p, I 2, .agg #[I 1, I (wrap64 ((numM a).tdiv (numM b))), S [], .slice none 0 0]] W (fun e w' => e = .returned (I (wPutM 2 (.int (wrap64 ((numM a).tdiv (numM b)))) (b :: a :: r)).2) ∧ TurnM K w p (wPutM 2 (.int (wrap64 ((numM a).tdiv (numM b)))) (b :: a :: r)).1 w')) := fun W B => put_new0 K w W p 2 _ h (by simp) _ _ _ _ _ B (mInt K W _ z1 z2) (by have := int_len _ z1 z2; omega)
  generalize wPutM 2 (.int (wrap64 ((numM a).tdiv (numM b)))) (b :: a :: r) = R at *
  have hz0 : ¬ numM b = 0 := hz
  have hz2 : (numM b == 0) = false := by simpa using hz
  rw [ha1] at *
  rw [hb1] at *
  clear h hz
  generalize r.length = m at *
  have w1 := wr64 (m : Int) (by omega) (by omega)
  have w2 := wr64 ((m : Int) + 1) (by omega) (by omega)
  have q1 : ¬ ((m : Int) + 2) < 2 := by omega
  have e1 : (m : Int) + 2 - 1 = (m : Int) + 1 := by omega
  have e2 : (m : Int) + 2 - 2 = (m : Int) := by omega
  have q3 : (m : Int) < (m : Int) + 2 := by omega
  have q4 : (m : Int) + 1 < (m : Int) + 2 := by omega
  have q5 : 0 ≤ (m : Int) + 1 := by omega
  generalize numM a = na at *
  generalize strM a = sa at *
  generalize (kidsM a).length = la at *
  generalize numM b = nb at *
  generalize strM b = sb at *
  generalize (kidsM b).length = lb at *
  go_enter Try.func100, Try.ntmps100
  go_wp2_with fail
  refine (PP.out _ B1).mono ?_
  rintro e w' ⟨rfl, tn⟩
  go_wp2
  go_ret
  exact ⟨rfl, tn⟩
theorem mEx4_w (K : Nat → Prop) (w : World) (p : Nat) (st : List TV) (h : MT K w p st) : Calls Try.prog 100 #[ptr p, I 4] w (Wm K w p (extR st (quotT st))) := by
  match st, h with
  | [], h => refine (mEx4_under K w p _ (by decide) h).mono ?_; rintro e w' ⟨rfl, rfl⟩; exact ⟨rfl, .refl h⟩
  | [x], h => refine (mEx4_under K w p _ (by simp) h).mono ?_; rintro e w' ⟨rfl, rfl⟩; cases x <;> exact ⟨rfl, .refl h⟩
  | b :: a :: r, h =>
    have bad : ∀ hq : quotT (b :: a :: r) = .error 5, (Calls Try.prog 100 #[ptr p, I 4] w fun e w' => e = .returned (I 5) ∧ Below w.heap.size w w') → Calls Try.prog 100 #[ptr p, I 4] w (Wm K w p (extR (b :: a :: r) (quotT (b :: a :: r)))) := by
      intro hq hc
      rw [hq]
      refine hc.mono ?_
      rintro e w' ⟨rfl, bb⟩
      exact ⟨rfl, .below h bb⟩
    by_cases ha : tagM a = 1
    · by_cases hb : tagM b = 1
      · cases a with
        | int na =>
          cases b with
          | int nb =>
            by_cases hz : nb = 0
            · exact bad (by simp [quotT, hz]) (mEx4_z K w p _ _ r h rfl rfl hz)
            · have := mEx4_ok K w p _ _ r h rfl rfl hz
              have h5 := h.len
              obtain ⟨z1, z2⟩ := w64_bounds (na.tdiv nb)
              have e : wPutM 2 (.int (wrap64 (na.tdiv nb))) (.int nb :: .int na :: r) = (.int (wrap64 (na.tdiv nb)) :: r, 0) := by
                unfold wPutM
                have := int_len _ z1 z2
                rw [if_neg (by omega), if_neg (by simp at h5 ⊢; omega)]
                rfl
              have e2 : extR (.int nb :: .int na :: r) (quotT (.int nb :: .int na :: r)) = (.int (wrap64 (na.tdiv nb)) :: r, 0) := by simp [quotT, hz, extR]
              rw [e2, ← e]
              exact this
          | _ => exact absurd hb (by simp [tagM])
        | _ => exact absurd ha (by simp [tagM])
      · exact bad (by cases b <;> cases a <;> first | rfl | (exact absurd rfl hb)) (mEx4_b K w p b a r h ha hb)
    · exact bad (by cases b <;> cases a <;> first | rfl | (exact absurd rfl ha)) (mEx4_a K w p b a r h ha)
end Go.Proofs.Qxb6500470a
