import Derived.Test.Qxb6500470aVmm
import Derived.Deep.RegionHeld3
namespace Go.Proofs.Qxb6500470a
open Go.RowKit
theorem plusT_err {a b : TV} {k : Int} (h : plusT a b = .error k) : k ≠ 0 := by
  unfold plusT at h
  split at h
  · next j hj =>
    cases h
    cases a <;> cases b <;> simp [rawAdd, TV.isList] at hj <;> omega
  · split at h
    · cases h
    · cases h; decide
theorem plusT_fine {a b z : TV} (h : plusT a b = .ok z) : (text z).length ≤ 30 := by
  unfold plusT at h
  split at h
  · cases h
  · split at h
    · cases h; assumption
    · cases h
set_option maxRecDepth 100000 in
set_option maxHeartbeats 16000000 in
theorem mAdd_err (K : Nat → Prop) (w : World) (p : Nat) (b a : TV) (r : List TV) (h : MT K w p (b :: a :: r)) (lb : (text b).length ≤ 30) (la : (text a).length ≤ 30) (k : Int) (hpl : plusT a b = .error k) : Calls Try.prog 103 #[ptr p] w fun e w' => e = .returned (I k) ∧ Below w.heap.size w w' := by
  have h5 := h.len
  obtain ⟨g, cap, c0, c1, c2, c3, hp, hg, kg, lg, lp, hle, fp, h0, h1, h2, h3, hmb⟩ := h.val (r.length + 1) 0 (by simp)
  obtain ⟨g', cap', d0, d1, d2, d3, hp', -, -, -, -, -, -, k0, k1, k2, k3, hmx⟩ := h.val r.length 1 (by simp)
  have e := hp.symm.trans hp'
  simp only [Option.some.injEq, Value.slice.injEq, Addr.mk.injEq, and_true, true_and] at e
  obtain ⟨rfl, rfl⟩ := e
  have hmb : MR K w b c0 c1 c2 c3 := hmb
  have hone1 := (MRs.one hmb).cells1
  have hma : MR K w a d0 d1 d2 d3 := hmx
  have hone2 := (MRs.one hma).cells1
  have D : ∀ W, Below w.heap.size w W → Calls Try.prog 115 #[.agg #[d0, d1, d2, d3], .agg #[c0, c1, c2, c3]] W (PlusP K W a b) := fun W B => plus_w K W (fun k hk => Nat.lt_of_lt_of_le (h.ks k hk) B.size) a b d0 d1 d2 d3 c0 c1 c2 c3 (hma.kept (Kept.of_below B h.ks)) (hmb.kept (Kept.of_below B h.ks)) la lb
  unfold PlusP at D
  rw [hpl] at D
  dsimp only at D
  have D : ∀ W, Below w.heap.size w W → Calls Try.prog 115 #[.agg #[d0, d1, d2, d3], .agg #[c0, c1, c2, c3]] W fun e w' => e = .returned (.tuple #[.agg Z4, I k]) ∧ Below w.heap.size w w' ∧ Below W.heap.size W w' := fun W B => (D W B).mono (fun e w' h => ⟨h.1, B.trans (h.2.mono B.size), h.2⟩)
  have bv1 : Below w.heap.size w w.drew := (Below.refl _ _).drew
  have bv2 : Below w.heap.size w (w.alloc (.cells Z4 137)).drew := ((Below.refl _ _).alloc (Nat.le_refl _) _).drew
  have ZN : Blk (w.alloc (.cells Z4 137)).drew w.heap.size Z4 137 := (Blk.new rfl).drew
  have szN : (w.alloc (.cells Z4 137)).drew.heap.size = w.heap.size + 1 := World.size_alloc _ _
  have hl : (b :: a :: r).length = r.length + 2 := rfl
  rw [hl] at hp hle h5
  clear hp' hma hmx
  have hk := plusT_err hpl
  have hk1 : (k != 0) = true := by simpa using hk
  have hk2 : (k == 0) = false := by simpa using hk
  clear h hmb hk hpl
  generalize r.length = m at *
  have w1 := wr64 (m : Int) (by omega) (by omega)
  have w2 := wr64 ((m : Int) + 1) (by omega) (by omega)
  have q1 : ¬ ((m : Int) + 2) < 2 := by omega
  have e1 : (m : Int) + 2 - 1 = (m : Int) + 1 := by omega
  have e2 : (m : Int) + 2 - 2 = (m : Int) := by omega
  have q3 : (m : Int) < (m : Int) + 2 := by omega
  have q4 : (m : Int) + 1 < (m : Int) + 2 := by omega
  have q5 : 0 ≤ (m : Int) + 1 := by omega
  go_enter Try.func103, Try.ntmps103
  go_wp2_with fail
  go_region_held3 (fun W => W.cell? ⟨p, 0, none⟩ = some (.slice (some ⟨g, 0, none⟩) (m + 2) cap) ∧ W.cell? ⟨g, (m + 1) * 4, none⟩ = some c0 ∧ W.cell? ⟨g, (m + 1) * 4 + 1, none⟩ = some c1 ∧ W.cell? ⟨g, (m + 1) * 4 + 2, none⟩ = some c2 ∧ W.cell? ⟨g, (m + 1) * 4 + 3, none⟩ = some c3 ∧ W.cell? ⟨g, m * 4, none⟩ = some d0 ∧ W.cell? ⟨g, m * 4 + 1, none⟩ = some d1 ∧ W.cell? ⟨g, m * 4 + 2, none⟩ = some d2 ∧ W.cell? ⟨g, m * 4 + 3, none⟩ = some d3) (go_keep) (first | (go_at_call 115; refine (D _ (by first | exact bv1 | exact bv2)).mono ?_; rintro e w' ⟨rfl, bw, bb⟩; have n0 := (bw.cell (p := ⟨p, 0, none⟩) lp).trans hp; have n1 := (bw.cell (p := ⟨g, (m + 1) * 4, none⟩) lg).trans h0; have n2 := (bw.cell (p := ⟨g, (m + 1) * 4 + 1, none⟩) lg).trans h1; have n3 := (bw.cell (p := ⟨g, (m + 1) * 4 + 2, none⟩) lg).trans h2; have n4 := (bw.cell (p := ⟨g, (m + 1) * 4 + 3, none⟩) lg).trans h3; have n5 := (bw.cell (p := ⟨g, m * 4, none⟩) lg).trans k0; have n6 := (bw.cell (p := ⟨g, m * 4 + 1, none⟩) lg).trans k1; have n7 := (bw.cell (p := ⟨g, m * 4 + 2, none⟩) lg).trans k2; have n8 := (bw.cell (p := ⟨g, m * 4 + 3, none⟩) lg).trans k3; (first | (have ZW : Blk w' w.heap.size Z4 137 := Blk.below ZN bb (Nat.lt_of_lt_of_eq (Nat.lt_succ_self _) szN.symm); have s0 := ZW.frozen 0; have s1 := ZW.frozen 1; have s2 := ZW.frozen 2; have s3 := ZW.frozen 3; have r0 := ZW.cell 0; have r1 := ZW.cell 1; have r2 := ZW.cell 2; have r3 := ZW.cell 3; have ng : w.heap.size ≠ g := (by omega); have np : w.heap.size ≠ p := (by omega)) | skip)))
  all_goals
    go_wp2
    go_ret
    first
      | exact ⟨rfl, bw.alloc bw.size _⟩
      | exact ⟨rfl, (((bw.setCell (p := ⟨w.heap.size, 0, none⟩) (Nat.le_refl _) _).setCell (p := ⟨w.heap.size, 1, none⟩) (Nat.le_refl _) _).setCell (p := ⟨w.heap.size, 2, none⟩) (Nat.le_refl _) _).setCell (p := ⟨w.heap.size, 3, none⟩) (Nat.le_refl _) _⟩
set_option maxRecDepth 100000 in
set_option maxHeartbeats 16000000 in
theorem mAdd_ok (K : Nat → Prop) (w : World) (p : Nat) (b a : TV) (r : List TV) (h : MT K w p (b :: a :: r)) (lb : (text b).length ≤ 30) (la : (text a).length ≤ 30) (z : TV) (hpl : plusT a b = .ok z) : Calls Try.prog 103 #[ptr p] w (Wm K w p (wPutM 2 z (b :: a :: r))) := by
  have h5 := h.len
  obtain ⟨g, cap, c0, c1, c2, c3, hp, hg, kg, lg, lp, hle, fp, h0, h1, h2, h3, hmb⟩ := h.val (r.length + 1) 0 (by simp)
  obtain ⟨g', cap', d0, d1, d2, d3, hp', -, -, -, -, -, -, k0, k1, k2, k3, hmx⟩ := h.val r.length 1 (by simp)
  have e := hp.symm.trans hp'
  simp only [Option.some.injEq, Value.slice.injEq, Addr.mk.injEq, and_true, true_and] at e
  obtain ⟨rfl, rfl⟩ := e
  have hmb : MR K w b c0 c1 c2 c3 := hmb
  have hone1 := (MRs.one hmb).cells1
  have hma : MR K w a d0 d1 d2 d3 := hmx
  have hone2 := (MRs.one hma).cells1
  have D : ∀ W, Below w.heap.size w W → Calls Try.prog 115 #[.agg #[d0, d1, d2, d3], .agg #[c0, c1, c2, c3]] W (PlusP K W a b) := fun W B => plus_w K W (fun k hk => Nat.lt_of_lt_of_le (h.ks k hk) B.size) a b d0 d1 d2 d3 c0 c1 c2 c3 (hma.kept (Kept.of_below B h.ks)) (hmb.kept (Kept.of_below B h.ks)) la lb
  unfold PlusP at D
  rw [hpl] at D
  dsimp only at D
  have D : ∀ W, Below w.heap.size w W → Calls Try.prog 115 #[.agg #[d0, d1, d2, d3], .agg #[c0, c1, c2, c3]] W fun e w' => ∃ (K' : Nat → Prop) (e0 e1 e2 e3 : Value), e = .returned (.tuple #[.agg #[e0, e1, e2, e3], I 0]) ∧ NewK K K' w w' ∧ (∀ k, K' k → K k ∨ W.heap.size ≤ k) ∧ MR K' w' z e0 e1 e2 e3 ∧ Below w.heap.size w w' ∧ Below W.heap.size W w' := fun W B => (D W B).mono (fun e w' ⟨K', e0, e1, e2, e3, he, N, hz, bb⟩ => ⟨K', e0, e1, e2, e3, he, ⟨N.1, fun k hk => (N.2 k hk).imp id (fun e => ⟨Nat.le_trans B.size e.1, e.2⟩)⟩, fun k hk => (N.2 k hk).imp id (fun e => e.1), hz, B.trans (bb.mono B.size), bb⟩)
  have bv1 : Below w.heap.size w w.drew := (Below.refl _ _).drew
  have bv2 : Below w.heap.size w (w.alloc (.cells Z4 137)).drew := ((Below.refl _ _).alloc (Nat.le_refl _) _).drew
  have ZN : Blk (w.alloc (.cells Z4 137)).drew w.heap.size Z4 137 := (Blk.new rfl).drew
  have szN : (w.alloc (.cells Z4 137)).drew.heap.size = w.heap.size + 1 := World.size_alloc _ _
  have hl : (b :: a :: r).length = r.length + 2 := rfl
  rw [hl] at hp hle h5
  clear hp' hma hmx
  have hzl := plusT_fine hpl
  have PP : Hid (∀ (W : World) (K' : Nat → Prop) e0 e1 e2 e3, Below w.heap.size w W → NewK K K' w W → MR K' W z e0 e1 e2 e3 → Calls Try.prog 114 #[ptr p, I 2, .agg #[e0, e1, e2, e3]] W (fun e w' => e = .returned (I (wPutM 2 z (b :: a :: r)).2) ∧ TurnM K w p (wPutM 2 z (b :: a :: r)).1 w')) := fun W K' e0 e1 e2 e3 B N hz => put_new K K' w W p 2 _ h (by simp) z e0 e1 e2 e3 B N.1 N.2 hz (by omega)
  generalize wPutM 2 z (b :: a :: r) = R at *
  have ks := h.ks
  clear h hmb hpl
  generalize r.length = m at *
  have w1 := wr64 (m : Int) (by omega) (by omega)
  have w2 := wr64 ((m : Int) + 1) (by omega) (by omega)
  have q1 : ¬ ((m : Int) + 2) < 2 := by omega
  have e1 : (m : Int) + 2 - 1 = (m : Int) + 1 := by omega
  have e2 : (m : Int) + 2 - 2 = (m : Int) := by omega
  have q3 : (m : Int) < (m : Int) + 2 := by omega
  have q4 : (m : Int) + 1 < (m : Int) + 2 := by omega
  have q5 : 0 ≤ (m : Int) + 1 := by omega
  go_enter Try.func103, Try.ntmps103
  go_wp2_with fail
  go_region_held3 (fun W => W.cell? ⟨p, 0, none⟩ = some (.slice (some ⟨g, 0, none⟩) (m + 2) cap) ∧ W.cell? ⟨g, (m + 1) * 4, none⟩ = some c0 ∧ W.cell? ⟨g, (m + 1) * 4 + 1, none⟩ = some c1 ∧ W.cell? ⟨g, (m + 1) * 4 + 2, none⟩ = some c2 ∧ W.cell? ⟨g, (m + 1) * 4 + 3, none⟩ = some c3 ∧ W.cell? ⟨g, m * 4, none⟩ = some d0 ∧ W.cell? ⟨g, m * 4 + 1, none⟩ = some d1 ∧ W.cell? ⟨g, m * 4 + 2, none⟩ = some d2 ∧ W.cell? ⟨g, m * 4 + 3, none⟩ = some d3) (go_keep) (first | (go_at_call 115; refine (D _ (by first | exact bv1 | exact bv2)).mono ?_; rintro e w' ⟨K', z0, z1, z2, z3, rfl, Nw, N2, hz, bw, bb⟩; obtain ⟨q0, q1, q2, -, -, qs, -, qr⟩ := hz.open; obtain ⟨qa, qc, q3⟩ := qr.slice; subst q0 q1 q2 q3; clear qr; have n0 := (bw.cell (p := ⟨p, 0, none⟩) lp).trans hp; have n1 := (bw.cell (p := ⟨g, (m + 1) * 4, none⟩) lg).trans h0; have n2 := (bw.cell (p := ⟨g, (m + 1) * 4 + 1, none⟩) lg).trans h1; have n3 := (bw.cell (p := ⟨g, (m + 1) * 4 + 2, none⟩) lg).trans h2; have n4 := (bw.cell (p := ⟨g, (m + 1) * 4 + 3, none⟩) lg).trans h3; have n5 := (bw.cell (p := ⟨g, m * 4, none⟩) lg).trans k0; have n6 := (bw.cell (p := ⟨g, m * 4 + 1, none⟩) lg).trans k1; have n7 := (bw.cell (p := ⟨g, m * 4 + 2, none⟩) lg).trans k2; have n8 := (bw.cell (p := ⟨g, m * 4 + 3, none⟩) lg).trans k3; (first | (have ZW : Blk w' w.heap.size Z4 137 := Blk.below ZN bb (Nat.lt_of_lt_of_eq (Nat.lt_succ_self _) szN.symm); have s0 := ZW.frozen 0; have s1 := ZW.frozen 1; have s2 := ZW.frozen 2; have s3 := ZW.frozen 3; have r0 := ZW.cell 0; have r1 := ZW.cell 1; have r2 := ZW.cell 2; have r3 := ZW.cell 3; have nk : ¬ K' w.heap.size := (fun hk => (N2 _ hk).elim (fun e => Nat.lt_irrefl _ (ks _ e)) (fun e => Nat.not_succ_le_self _ (Nat.le_trans (Nat.le_of_eq szN.symm) e))); have ng : w.heap.size ≠ g := (by omega); have np : w.heap.size ≠ p := (by omega)) | skip)))
  all_goals
    have ksz : ∀ k, K' k → k < w'.heap.size := fun k hk => (Nw.2 k hk).elim (fun e => Nat.lt_of_lt_of_le (ks k e) bw.size) (fun e => e.2)
    have HFin : Hid (∀ W, Kept K' w' W → Below w.heap.size w W → Calls Try.prog 114 #[ptr p, I 2, .agg #[I (tagM z), I (numM z), S (strM z), .slice qa (kidsM z).length qc]] W (fun e w' => e = .returned (I R.2) ∧ TurnM K w p R.1 w')) := fun W kW bW => PP.out W K' _ _ _ _ bW ⟨Nw.1, fun k hk => (Nw.2 k hk).imp id (fun e => ⟨e.1, Nat.lt_of_lt_of_le e.2 kW.size⟩)⟩ (hz.kept kW)
    go_wp2_with fail
    first
      | refine (HFin.out _ (Kept.of_below ((Below.refl _ _).alloc (Nat.le_refl _) _) ksz) (bw.alloc bw.size _)).mono ?_
      | refine (HFin.out _ (((((Kept.refl K' w').setCell (p := ⟨w.heap.size, 0, none⟩) nk (I (tagM z))).setCell (p := ⟨w.heap.size, 1, none⟩) nk (I (numM z))).setCell (p := ⟨w.heap.size, 2, none⟩) nk (S (strM z))).setCell (p := ⟨w.heap.size, 3, none⟩) nk (.slice qa (kidsM z).length qc)) ((((bw.setCell (p := ⟨w.heap.size, 0, none⟩) (Nat.le_refl _) (I (tagM z))).setCell (p := ⟨w.heap.size, 1, none⟩) (Nat.le_refl _) (I (numM z))).setCell (p := ⟨w.heap.size, 2, none⟩) (Nat.le_refl _) (S (strM z))).setCell (p := ⟨w.heap.size, 3, none⟩) (Nat.le_refl _) (.slice qa (kidsM z).length qc))).mono ?_
    rintro e w'' ⟨rfl, tn⟩
    go_wp2
    go_ret
    exact ⟨rfl, tn⟩
theorem mAdd_w (K : Nat → Prop) (w : World) (p : Nat) (st : List TV) (h : MT K w p st) (hf : Fine st) : Calls Try.prog 103 #[ptr p] w (Wm K w p (wAdd st)) := by
  match st, h, hf with
  | [], h, _ => refine (madd_under K w p _ (by decide) h).mono ?_; rintro e w' ⟨rfl, rfl⟩; exact ⟨rfl, .refl h⟩
  | [_], h, _ => refine (madd_under K w p _ (by simp) h).mono ?_; rintro e w' ⟨rfl, rfl⟩; exact ⟨rfl, .refl h⟩
  | b :: a :: r, h, hf =>
    unfold wAdd
    dsimp only
    cases hpl : plusT a b with
    | error k =>
      dsimp only
      refine (mAdd_err K w p b a r h hf.head hf.tail.head k hpl).mono ?_
      rintro e w' ⟨rfl, bb⟩
      exact ⟨rfl, .below h bb⟩
    | ok z =>
      dsimp only
      have := mAdd_ok K w p b a r h hf.head hf.tail.head z hpl
      have h5 := h.len
      have hz := plusT_fine hpl
      have e : wPutM 2 z (b :: a :: r) = (z :: r, 0) := by
        unfold wPutM
        rw [if_neg (by omega), if_neg (by simp at h5 ⊢; omega)]
        rfl
      rw [e] at this
      exact this
end Go.Proofs.Qxb6500470a
