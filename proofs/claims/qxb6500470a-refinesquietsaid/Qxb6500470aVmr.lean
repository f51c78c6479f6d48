import Derived.Test.Qxb6500470aVmq
namespace Go.Proofs.Qxb6500470a
open Go.RowKit
set_option maxRecDepth 100000 in
set_option maxHeartbeats 16000000 in
theorem mEx0_err (K : Nat → Prop) (w : World) (p : Nat) (x : TV) (r : List TV) (h : MT K w p (x :: r)) (lx : (text x).length ≤ 30) (k : Int) (hpl : plusT x x = .error k) : Calls Try.prog 100 #[ptr p, I 0] w fun e w' => e = .returned (I k) ∧ Below w.heap.size w w' := by
  have h5 := h.len
  obtain ⟨g, cap, c0, c1, c2, c3, hp, hg, kg, lg, lp, hle, fp, h0, h1, h2, h3, hm⟩ := h.val r.length 0 (by simp)
  have hm : MR K w x c0 c1 c2 c3 := hm
  have HM : Hid (MR K w x c0 c1 c2 c3) := hm
  obtain ⟨e0, e1, e2, hb, hk0, cs, hks, hrow⟩ := hm.open
  obtain ⟨ak, capk, e3⟩ := hrow.slice
  subst e0 e1 e2 e3
  have hl : (x :: r).length = r.length + 1 := rfl
  rw [hl] at hp hle h5
  have B0 := (Below.refl w.heap.size w).alloc (Nat.le_refl _) (.cells #[I (tagM x), I (numM x), S (strM x), .slice ak (kidsM x).length capk] 137)
  have ks := h.ks
  have kk := Kept.of_below B0 ks
  have D := plus_w K (w.alloc (.cells #[I (tagM x), I (numM x), S (strM x), .slice ak (kidsM x).length capk] 137)) (fun k hk => Nat.lt_of_lt_of_le (ks k hk) B0.size) x x _ _ _ _ _ _ _ _ (HM.out.kept kk) (HM.out.kept kk) lx lx
  unfold PlusP at D
  rw [hpl] at D
  dsimp only at D
  have hk := plusT_err hpl
  have hk1 : (k != 0) = true := by simpa using hk
  have hk2 : (k == 0) = false := by simpa using hk
  clear hks hrow hk0 hb HM hm hpl hk h kk
  generalize r.length = m at *
  have w1 := wr64 (m : Int) (by omega) (by omega)
  have q1 : ¬ ((m : Int) + 1) < 1 := by omega
  generalize tagM x = tg at *
  generalize numM x = nu at *
  generalize strM x = sx at *
  generalize (kidsM x).length = kl at *
  go_enter Try.func100, Try.ntmps100
  go_wp2_with fail
  refine D.mono ?_
  rintro e w' ⟨rfl, bb⟩
  have bw := B0.trans (bb.mono B0.size)
  go_wp2
  go_ret
  exact ⟨rfl, bw.alloc bw.size _⟩
set_option maxRecDepth 100000 in
set_option maxHeartbeats 16000000 in
theorem mEx0_ok (K : Nat → Prop) (w : World) (p : Nat) (x : TV) (r : List TV) (h : MT K w p (x :: r)) (lx : (text x).length ≤ 30) (z : TV) (hpl : plusT x x = .ok z) : Calls Try.prog 100 #[ptr p, I 0] w (Wm K w p (z :: r, 0)) := by
  have hlen := h.len
  have h5 := h.len
  obtain ⟨g, cap, c0, c1, c2, c3, hp, hg, kg, lg, lp, hle, fp, h0, h1, h2, h3, hm⟩ := h.val r.length 0 (by simp)
  have hm : MR K w x c0 c1 c2 c3 := hm
  have HM : Hid (MR K w x c0 c1 c2 c3) := hm
  obtain ⟨e0, e1, e2, hb, hk0, cs, hks, hrow⟩ := hm.open
  obtain ⟨ak, capk, e3⟩ := hrow.slice
  subst e0 e1 e2 e3
  have hl : (x :: r).length = r.length + 1 := rfl
  rw [hl] at hp hle h5
  have B0 := (Below.refl w.heap.size w).alloc (Nat.le_refl _) (.cells #[I (tagM x), I (numM x), S (strM x), .slice ak (kidsM x).length capk] 137)
  have ks := h.ks
  have kk := Kept.of_below B0 ks
  have D := plus_w K (w.alloc (.cells #[I (tagM x), I (numM x), S (strM x), .slice ak (kidsM x).length capk] 137)) (fun k hk => Nat.lt_of_lt_of_le (ks k hk) B0.size) x x _ _ _ _ _ _ _ _ (HM.out.kept kk) (HM.out.kept kk) lx lx
  unfold PlusP at D
  rw [hpl] at D
  dsimp only at D
  have hzf := plusT_fine hpl
  have PP : Hid (∀ (W : World) (Kr : Nat → Prop) q0 q1 q2 q3, Below w.heap.size w W → NewK K Kr w W → MR Kr W z q0 q1 q2 q3 → Calls Try.prog 114 #[ptr p, I 1, .agg #[q0, q1, q2, q3]] W (fun e w' => e = .returned (I 0) ∧ TurnM K w p (z :: r) w')) := by
    intro W Kr q0 q1 q2 q3 B N hz
    have := put_new K Kr w W p 1 _ h (by simp) z q0 q1 q2 q3 B N.1 N.2 hz (by omega)
    rw [put1 x z r hlen hzf] at this
    exact this
  clear hks hrow hk0 hb HM hm hpl h kk hlen
  generalize r.length = m at *
  have w1 := wr64 (m : Int) (by omega) (by omega)
  have q1 : ¬ ((m : Int) + 1) < 1 := by omega
  generalize tagM x = tg at *
  generalize numM x = nu at *
  generalize strM x = sx at *
  generalize (kidsM x).length = kl at *
  go_enter Try.func100, Try.ntmps100
  go_wp2_with fail
  refine D.mono ?_
  rintro e w' ⟨K', z0, z1, z2, z3, rfl, N, hz, bb⟩
  obtain ⟨q0, q1, q2, -, -, qs, -, qr⟩ := hz.open
  obtain ⟨za, zc, q3⟩ := qr.slice
  subst q0 q1 q2 q3
  clear qr
  have bw := B0.trans (bb.mono B0.size)
  have ksz : ∀ k, K' k → k < w'.heap.size := fun k hk => (N.2 k hk).elim (fun e => Nat.lt_of_lt_of_le (ks k e) bw.size) (fun e => e.2)
  have kz : Kept K' w' (w'.alloc (.cells #[I (tagM z), I (numM z), S (strM z), .slice za (kidsM z).length zc] 137)) := Kept.of_below ((Below.refl _ _).alloc (Nat.le_refl _) _) ksz
  have P := PP.out _ K' _ _ _ _ (bw.alloc bw.size _) ⟨N.1, fun k hk => (N.2 k hk).imp id (fun e => ⟨Nat.le_trans B0.size e.1, Nat.lt_of_lt_of_le e.2 kz.size⟩)⟩ (hz.kept kz)
  have HP : Hid _ := P
  clear P kz hz
  go_wp2_with fail
  refine Calls.mono HP.out ?_
  rintro e w'' ⟨rfl, tn⟩
  go_wp2
  go_ret
  exact ⟨rfl, tn⟩
theorem mEx0_w (K : Nat → Prop) (w : World) (p : Nat) (st : List TV) (h : MT K w p st) (hf : Fine st) : Calls Try.prog 100 #[ptr p, I 0] w (Wm K w p (extR st (doubleT st))) := by
  cases st with
  | nil => refine (mEx0_none K w p h).mono ?_; rintro e w' ⟨rfl, rfl⟩; exact ⟨rfl, .refl h⟩
  | cons x r =>
    unfold doubleT
    dsimp only
    cases hpl : plusT x x with
    | error k =>
      refine (mEx0_err K w p x r h hf.head k hpl).mono ?_
      rintro e w' ⟨rfl, bb⟩
      exact ⟨rfl, .below h bb⟩
    | ok z => exact mEx0_ok K w p x r h hf.head z hpl
theorem MT.drew {K : Nat → Prop} {w : World} {p : Nat} {st : List TV} (h : MT K w p st) : MT K w.drew p st := h.later ((Below.refl _ _).drew)
/-! ### spread -/
set_option maxRecDepth 100000 in
set_option maxHeartbeats 16000000 in
theorem mEx2_no (K : Nat → Prop) (w : World) (p : Nat) (x : TV) (r : List TV) (h : MT K w p (x :: r)) (ht : tagM x = 1 ∨ tagM x = 2) : Calls Try.prog 100 #[ptr p, I 2] w fun e w' => e = .returned (I 5) ∧ Below w.heap.size w w' := by
  have h5 := h.len
  obtain ⟨g, cap, c0, c1, c2, c3, hp, hg, kg, lg, lp, hle, fp, h0, h1, h2, h3, hm⟩ := h.val r.length 0 (by simp)
  have hm : MR K w x c0 c1 c2 c3 := hm
  have HM : Hid (MR K w x c0 c1 c2 c3) := hm
  obtain ⟨e0, e1, e2, hb, hk0, cs, hks, hrow⟩ := hm.open
  obtain ⟨ak, capk, e3⟩ := hrow.slice
  subst e0 e1 e2 e3
  have hl : (x :: r).length = r.length + 1 := rfl
  rw [hl] at hp hle h5
  have B0 := (Below.refl w.heap.size w).alloc (Nat.le_refl _) (.cells #[I (tagM x), I (numM x), S (strM x), .slice ak (kidsM x).length capk] 137)
  have HH := has_w (tagM x) 4 (tag_in x) (by decide) (w.alloc (.cells #[I (tagM x), I (numM x), S (strM x), .slice ak (kidsM x).length capk] 137))
  have e3 : hasT (tagM x) 4 = false := by rcases ht with e | e <;> simp [hasT, e]
  rw [e3] at HH
  clear hks hrow hk0 hb HM hm h e3 ht
  generalize r.length = m at *
  have w1 := wr64 (m : Int) (by omega) (by omega)
  have q1 : ¬ ((m : Int) + 1) < 1 := by omega
  generalize tagM x = tg at *
  generalize numM x = nu at *
  generalize strM x = sx at *
  generalize (kidsM x).length = kl at *
  go_enter Try.func100, Try.ntmps100
  go_wp2_with fail
  refine HH.mono ?_
  rintro e w' ⟨rfl, rfl⟩
  go_wp2
  go_ret
  exact ⟨rfl, B0⟩
set_option maxRecDepth 100000 in
set_option maxHeartbeats 16000000 in
theorem mEx2_full (K : Nat → Prop) (w : World) (p : Nat) (x : TV) (r : List TV) (h : MT K w p (x :: r)) (lx : (text x).length ≤ 30) (ht : tagM x = 3 ∨ tagM x = 4) (hn : 5 < r.length + (kidsM x).length) : Calls Try.prog 100 #[ptr p, I 2] w fun e w' => e = .returned (I 3) ∧ Below w.heap.size w w' := by
  have h5 := h.len
  obtain ⟨g, cap, c0, c1, c2, c3, hp, hg, kg, lg, lp, hle, fp, h0, h1, h2, h3, hm⟩ := h.val r.length 0 (by simp)
  have hm : MR K w x c0 c1 c2 c3 := hm
  have HM : Hid (MR K w x c0 c1 c2 c3) := hm
  obtain ⟨e0, e1, e2, hb, hk0, cs, hks, hrow⟩ := hm.open
  obtain ⟨ak, capk, e3⟩ := hrow.slice
  subst e0 e1 e2 e3
  have hl : (x :: r).length = r.length + 1 := rfl
  rw [hl] at hp hle h5
  have B0 := (Below.refl w.heap.size w).alloc (Nat.le_refl _) (.cells #[I (tagM x), I (numM x), S (strM x), .slice ak (kidsM x).length capk] 137)
  have HH := has_w (tagM x) 4 (tag_in x) (by decide) (w.alloc (.cells #[I (tagM x), I (numM x), S (strM x), .slice ak (kidsM x).length capk] 137))
  have e3 : hasT (tagM x) 4 = true := by rcases ht with e | e <;> simp [hasT, e]
  rw [e3] at HH
  have hkl := kids_len x
  clear hks hrow hk0 hb HM hm h e3 ht
  generalize r.length = m at *
  have w1 := wr64 (m : Int) (by omega) (by omega)
  have q1 : ¬ ((m : Int) + 1) < 1 := by omega
  generalize tagM x = tg at *
  generalize numM x = nu at *
  generalize strM x = sx at *
  generalize (kidsM x).length = kl at *
  have q6 : (5 : Int) < (m : Int) + (kl : Int) := by omega
  have w6 := wr64 ((m : Int) + (kl : Int)) (by omega) (by omega)
  go_enter Try.func100, Try.ntmps100
  go_wp2_with fail
  refine HH.mono ?_
  rintro e w' ⟨rfl, rfl⟩
  go_wp2
  go_ret
  exact ⟨rfl, B0⟩
set_option maxRecDepth 100000 in
set_option maxHeartbeats 16000000 in
theorem mEx2_nil (K : Nat → Prop) (w : World) (p : Nat) (x : TV) (r : List TV) (h : MT K w p (x :: r)) (ht : tagM x = 3 ∨ tagM x = 4) (hk : kidsM x = []) : Calls Try.prog 100 #[ptr p, I 2] w (Wm K w p (r, 0)) := by
  have h5 := h.len
  obtain ⟨g, cap, c0, c1, c2, c3, hp, hg, kg, lg, lp, hle, fp, h0, h1, h2, h3, hm⟩ := h.val r.length 0 (by simp)
  have hm : MR K w x c0 c1 c2 c3 := hm
  have HM : Hid (MR K w x c0 c1 c2 c3) := hm
  obtain ⟨e0, e1, e2, hb, hk0, cs, hks, hrow⟩ := hm.open
  obtain ⟨ak, capk, e3⟩ := hrow.slice
  subst e0 e1 e2 e3
  have hl : (x :: r).length = r.length + 1 := rfl
  rw [hl] at hp hle h5
  have B0 := (Below.refl w.heap.size w).alloc (Nat.le_refl _) (.cells #[I (tagM x), I (numM x), S (strM x), .slice ak (kidsM x).length capk] 137)
  have HH := has_w (tagM x) 4 (tag_in x) (by decide) (w.alloc (.cells #[I (tagM x), I (numM x), S (strM x), .slice ak (kidsM x).length capk] 137))
  have e3 : hasT (tagM x) 4 = true := by rcases ht with e | e <;> simp [hasT, e]
  rw [e3] at HH
  have ks := h.ks
  obtain ⟨a, cap', cs', hA⟩ := h
  have fin := drop_post hA
  have hpa := hA.at0.1
  have hlr : (x :: r).reverse.length = r.length + 1 := by simp
  rw [hlr, hp] at hpa
  simp only [Option.some.injEq, Value.slice.injEq, true_and] at hpa
  obtain ⟨rfl, rfl⟩ := hpa
  have hkz : (kidsM x).length = 0 := by rw [hk]; rfl
  have e4 := hk0 hk
  simp only [Value.slice.injEq] at e4
  obtain ⟨rfl, -, rfl⟩ := e4
  rw [hkz] at HH B0 h3
  have HFIN : Hid _ := fin
  have hne : w.heap.size ≠ p := by omega
  clear hks hrow hk0 hb HM hm e3 ht hA fin hk
  generalize r.length = m at *
  have w1 := wr64 (m : Int) (by omega) (by omega)
  have q1 : ¬ ((m : Int) + 1) < 1 := by omega
  generalize tagM x = tg at *
  generalize numM x = nu at *
  generalize strM x = sx at *
  have q6 : ¬ (5 : Int) < (m : Int) := by omega
  have qc : (m : Int) ≤ (cap : Int) := by omega
  have qc2 : m ≤ cap := by omega
  go_enter Try.func100, Try.ntmps100
  go_wp2_with fail
  refine HH.mono ?_
  rintro e w' ⟨rfl, rfl⟩
  go_wp2_with fail
  go_region
  all_goals
    go_wp2
    go_ret
    exact ⟨rfl, .trans (fun _ h => h) (fun _ h => .inl h) HFIN.out.2 (.below HFIN.out.1 (((Below.refl _ _).alloc (Nat.le_refl _) _).drew))⟩
end Go.Proofs.Qxb6500470a
