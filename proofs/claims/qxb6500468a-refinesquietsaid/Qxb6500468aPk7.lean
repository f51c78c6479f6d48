import Derived.Test.Qxb6500468aPk6
namespace Go.Proofs.Qxb6500468a
open Go.RowKit

theorem StoR.put {w w1 w2 : World} {x bw ub u : Nat} {ws : List Nat} (h : StoR w x bw ub u ws) (i n : Nat) (hi : i < 8) (hn : n < 72057594037927936) (R : Blk w1 bw (wsC (ws.set i n)) 28) (k1 : Upd [bw] w w1) (B : Blk w2 ub (brdC (u ||| 2 ^ i)) 88) (k2 : Upd [ub] w1 w2) : StoR w2 x bw ub (u ||| 2 ^ i) (ws.set i n) := by
  obtain ⟨q1, q2⟩ := bit_add u h.hu i hi
  refine ⟨(h.head.upd k1 (by simp; exact h.d1)).upd k2 (by simp; exact h.d2), R.upd k2 (by simp; exact h.d3), B, by rw [List.length_set]; exact h.len, q1, fun j => ?_, fun j hj hf => ?_, h.d1, h.d2, h.d3⟩
  · rw [getD_set _ _ _ _ (by rw [h.len]; exact hi)]; split
    · exact hn
    · exact h.lt j
  · rw [q2 j hj, Bool.or_eq_false_iff] at hf
    rw [getD_set _ _ _ _ (by rw [h.len]; exact hi), if_neg (by intro e; simp [e] at hf)]
    exact h.free j hj hf.1
theorem StoR.drop {w w1 w2 : World} {x bw ub u : Nat} {ws : List Nat} (h : StoR w x bw ub u ws) (i : Nat) (hi : i < 8) (R : Blk w1 bw (wsC (ws.set i 0)) 28) (k1 : Upd [bw] w w1) (B : Blk w2 ub (brdC (rmB u i)) 88) (k2 : Upd [ub] w1 w2) : StoR w2 x bw ub (rmB u i) (ws.set i 0) := by
  obtain ⟨q1, q2⟩ := bit_rm u h.hu i hi
  refine ⟨(h.head.upd k1 (by simp; exact h.d1)).upd k2 (by simp; exact h.d2), R.upd k2 (by simp; exact h.d3), B, by rw [List.length_set]; exact h.len, q1, fun j => ?_, fun j hj hf => ?_, h.d1, h.d2, h.d3⟩
  · rw [getD_set _ _ _ _ (by rw [h.len]; exact hi)]; split
    · decide
    · exact h.lt j
  · rw [getD_set _ _ _ _ (by rw [h.len]; exact hi)]
    by_cases e : i = j
    · rw [if_pos e]
    · rw [if_neg e]
      rw [q2 j hj, decide_eq_false e] at hf
      exact h.free j hj (by simpa using hf)

set_option maxHeartbeats 1000000 in
theorem bNew_any (w : World) : Calls Try.prog 33 #[] w fun e w' => e = .returned (ptr w.heap.size) ∧ Blk w' w.heap.size (brdC 0) 88 ∧ Below w.heap.size w w' := by
  go_enter Try.func33, Try.ntmps33
  go_wp2
  go_ret
  exact ⟨rfl, Blk.new rfl, (Below.refl _ _).alloc (Nat.le_refl _) _⟩
set_option maxHeartbeats 1000000 in
theorem ground_any (w : World) : Calls Try.prog 27 #[] w fun e w' => ∃ p, e = .returned (.agg #[ptr p]) ∧ w.heap.size ≤ p ∧ Blk w' p (brdC 0) 88 ∧ Below w.heap.size w w' := by
  go_enter Try.func27, Try.ntmps27
  go_wp2_with fail
  refine (bNew_any _).mono ?_
  rintro e w1 ⟨rfl, s1, b1⟩
  have B1 : Blk w1 w.heap.size #[.pointer none] 48 := (Blk.new rfl).below b1 (by rw [World.size_alloc]; omega)
  have k1 := B1.cell 0
  have k2 := B1.frozen 0
  have bb : Below w.heap.size w w1 := ((Below.refl _ _).alloc (Nat.le_refl _) _).trans (b1.mono (by rw [World.size_alloc]; omega))
  rw [World.size_alloc] at s1
  have B2 := B1.set (i := 0) (ptr (w.heap.size + 1))
  have s2 : Blk (w1.setCell ⟨w.heap.size, 0, none⟩ (ptr (w.heap.size + 1))) (w.heap.size + 1) (brdC 0) 88 := s1.other (by simp) _
  go_wp2
  exact ret_row Try.results27 rfl rfl B2 Try.underlying48 rfl (by kernel_rfl) ⟨_, rfl, by omega, s2, bb.setCell (Nat.le_refl _) _⟩
set_option maxHeartbeats 1000000 in
theorem pNew_any (w : World) (ub : Nat) (h : Blk w ub (brdC 0) 88) : Calls Try.prog 28 #[ptr ub] w fun e w' => ∃ x bw, e = .returned (ptr x) ∧ w.heap.size ≤ x ∧ w.heap.size ≤ bw ∧ StoR w' x bw ub 0 [0, 0, 0, 0, 0, 0, 0, 0] ∧ Below w.heap.size w w' := by
  have hmk : ∀ W : World, (Instr.makeSlice 68 (.int .i64 8) (.int .i64 8)).run Try.prog W = .ok (.slice (some ⟨W.heap.size, 0, none⟩) 8 8) (W.alloc (.cells (wsC [0, 0, 0, 0, 0, 0, 0, 0]) 28)) := fun _ => by kernel_rfl
  have hl := h.lt
  go_enter Try.func28, Try.ntmps28
  go_wp2
  go_ret
  refine ⟨w.heap.size + 1, w.heap.size, rfl, by omega, Nat.le_refl _, ⟨Blk.new (by simp), (Blk.new rfl).old _, (h.old _).old _, rfl, by decide, ?_, ?_, by omega, by omega, by omega⟩, ((Below.refl _ _).alloc (Nat.le_refl _) _).alloc (by simp) _⟩
  · intro i
    have : ([0, 0, 0, 0, 0, 0, 0, 0] : List Nat).getD i 0 = 0 := by
      rw [List.getD_eq_getElem?_getD]
      by_cases hi : i < 8
      · have : i = 0 ∨ i = 1 ∨ i = 2 ∨ i = 3 ∨ i = 4 ∨ i = 5 ∨ i = 6 ∨ i = 7 := by omega
        rcases this with rfl | rfl | rfl | rfl | rfl | rfl | rfl | rfl <;> rfl
      · rw [List.getElem?_eq_none (by simp; omega)]; rfl
    rw [this]; decide
  · intro i hi _
    have : i = 0 ∨ i = 1 ∨ i = 2 ∨ i = 3 ∨ i = 4 ∨ i = 5 ∨ i = 6 ∨ i = 7 := by omega
    rcases this with rfl | rfl | rfl | rfl | rfl | rfl | rfl | rfl <;> rfl

set_option maxRecDepth 100000 in
set_option maxHeartbeats 2000000 in
theorem put_bad (w : World) (x bw ub u : Nat) (ws : List Nat) (h : StoR w x bw ub u ws) (k d l f s : Int) (hg : ¬ goodH k d l f s) : Calls Try.prog 34 #[ptr x, HdV k d l f s] w fun e w' => e = .returned (.tuple #[I 0, I 6]) ∧ StoR w' x bw ub u ws ∧ Upd [bw, ub] w w' := by
  have HG := good_no k d l f s hg
  go_enter Try.func34, Try.ntmps34
  go_wp2_with fail
  have b0 := (Below.refl w.heap.size w).alloc (Nat.le_refl _) (.cells #[I k, I d, I l, I f, I s] 27)
  generalize w.alloc (.cells #[I k, I d, I l, I f, I s] 27) = v0 at *
  refine (HG v0).mono ?_
  rintro e w1 ⟨rfl, b1⟩
  have bb := b0.trans (b1.mono b0.size)
  go_wp2
  go_ret2
  exact ⟨rfl, h.later bb, Upd.of_below bb⟩
set_option maxRecDepth 100000 in
set_option maxHeartbeats 4000000 in
theorem put_good (w : World) (x bw ub u : Nat) (ws : List Nat) (h : StoR w x bw ub u ws) (k d l f s : Int) (hg : goodH k d l f s) : Calls Try.prog 34 #[ptr x, HdV k d l f s] w fun e w' => (lowZ u = 8 ∧ e = .returned (.tuple #[I 0, I 7]) ∧ StoR w' x bw ub u ws ∧ Upd [bw, ub] w w') ∨ (lowZ u < 8 ∧ e = .returned (.tuple #[I (lowZ u), I 0]) ∧ StoR w' x bw ub (u ||| 2 ^ lowZ u) (ws.set (lowZ u) (packN k d l f s)) ∧ Upd [bw, ub] w w') := by
  have HG := good_yes k d l f s hg
  have hz := lowZ_le u h.hu
  have hfree := fun W hW => free_any W x bw ub u ws hW
  generalize lowZ u = L at *
  obtain ⟨-, -, lx, lb, lu⟩ := h.at0
  go_enter Try.func34, Try.ntmps34
  go_wp2_with fail
  have b0 := (Below.refl w.heap.size w).alloc (Nat.le_refl _) (.cells #[I k, I d, I l, I f, I s] 27)
  have B0 : Blk (w.alloc (.cells #[I k, I d, I l, I f, I s] 27)) w.heap.size #[I k, I d, I l, I f, I s] 27 := Blk.new rfl
  generalize w.alloc (.cells #[I k, I d, I l, I f, I s] 27) = v0 at *
  refine (HG v0).mono ?_
  rintro e w1 ⟨rfl, b1⟩
  have bb := b0.trans (b1.mono b0.size)
  have h1 := h.later bb
  have B1 := B0.below b1 B0.lt
  clear b0 B0 b1
  go_wp2_with fail
  refine (hfree w1 h1).mono ?_
  rintro e w2 ⟨rfl, h2, u2⟩
  have B2 := B1.upd u2 (by simp; omega)
  have U2 : Upd [bw, ub] w w2 := (Upd.of_below bb).trans (u2.mono (by simp))
  have W2 := packN_lt k d l f s
  clear h1 B1 u2
  by_cases hl : L = 8
  · have hl' : (8 : Int) ≤ (L : Int) := by omega
    have HL : Hid _ := hl
    clear hl
    go_wp2
    go_ret2
    exact .inl ⟨HL.out, rfl, h2, U2⟩
  · have hl' : ¬ (8 : Int) ≤ (L : Int) := by omega
    have hi : L < 8 := by omega
    obtain ⟨c0, c1, -, -, -⟩ := h2.at0
    obtain ⟨p1, p2⟩ := h2.word L hi
    have o0 : w2.cell? ⟨w.heap.size, 0, none⟩ = some (I k) := B2.cell 0
    have o1 : w2.cell? ⟨w.heap.size, 1, none⟩ = some (I d) := B2.cell 1
    have o2 : w2.cell? ⟨w.heap.size, 2, none⟩ = some (I l) := B2.cell 2
    have o3 : w2.cell? ⟨w.heap.size, 3, none⟩ = some (I f) := B2.cell 3
    have o4 : w2.cell? ⟨w.heap.size, 4, none⟩ = some (I s) := B2.cell 4
    have z0 := B2.lt
    have hLi : (L : Int) < 8 := by omega
    obtain ⟨-, -, z1, z2, z3⟩ := h2.at0
    have hne1 : w.heap.size ≠ bw := by omega
    have hne2 : w.heap.size ≠ x := by omega
    have hne3 : x ≠ bw := h.d1
    have hne4 : bw ≠ x := fun e => hne3 e.symm
    have hne5 : bw ≠ w.heap.size := fun e => hne1 e.symm
    generalize w.heap.size = N at *
    go_wp2_with fail
    go_region_held3 (fun W => W.cell? ⟨x, 0, none⟩ = some (.slice (some ⟨bw, 0, none⟩) 8 8) ∧ W.cell? ⟨N, 0, none⟩ = some (I k) ∧ W.cell? ⟨N, 1, none⟩ = some (I d) ∧ W.cell? ⟨N, 2, none⟩ = some (I l) ∧ W.cell? ⟨N, 3, none⟩ = some (I f) ∧ W.cell? ⟨N, 4, none⟩ = some (I s)) (go_keep) (first | (go_at_call 22; refine (pack_any _ k d l f s).mono ?_; rintro e w3 ⟨rfl, b3⟩; have r0 := (b3.cell (p := ⟨x, 0, none⟩) z1).trans c0; have r1 := (b3.cell (p := ⟨N, 0, none⟩) z0).trans o0; have r2 := (b3.cell (p := ⟨N, 1, none⟩) z0).trans o1; have r3 := (b3.cell (p := ⟨N, 2, none⟩) z0).trans o2; have r4 := (b3.cell (p := ⟨N, 3, none⟩) z0).trans o3; have r5 := (b3.cell (p := ⟨N, 4, none⟩) z0).trans o4; have r6 := (b3.cell (p := ⟨bw, L, none⟩) z2).trans p1; have r7 := (b3.frozen (p := ⟨bw, L, none⟩) z2).trans p2))
    all_goals
      have b3' : Below w2.heap.size w2 w3 := (Below.refl w2.heap.size w2).drew.trans b3
      have R3 := (h2.rows.below b3' h2.rows.lt).set (i := L) (W64 (packN k d l f s))
      rw [wsC_set] at R3
      have k3 : Upd [bw] w2 (w3.setCell ⟨bw, L, none⟩ (W64 (packN k d l f s))) := (Upd.of_below b3').setCell (by simp) _
      have BR := h2.brd.upd k3 (by simp; exact fun e => h.d3 e.symm)
      have HX := h2.head.upd k3 (by simp; exact h.d1)
      have r8 : (w3.setCell ⟨bw, L, none⟩ (W64 (packN k d l f s))).cell? ⟨x, 1, none⟩ = some (ptr ub) := HX.cell 1
      clear r0 r1 r2 r3 r4 r5 r6 r7 b3 c0 c1 o0 o1 o2 o3 o4 p1 p2
      generalize w3.setCell ⟨bw, L, none⟩ (W64 (packN k d l f s)) = v3 at *
      go_wp2_with fail
      refine (add_any v3 ub u L (by omega) (by have := h.hu; omega) BR).mono ?_
      rintro e w4 ⟨rfl, B4, k4⟩
      go_wp2
      go_ret2
      exact .inr ⟨hi, rfl, h2.put L _ hi W2 R3 k3 B4 k4, U2.trans ((k3.mono (by simp)).trans (k4.mono (by simp)))⟩

def getE (u : Nat) (ws : List Nat) (slot : Int) : Nat := if atF u slot = 0 then ws.getD slot.toNat 0 else 0
theorem atF_cases (u : Nat) (slot : Int) : (atF u slot = 0 ∧ 0 ≤ slot ∧ slot < 8 ∧ u.testBit slot.toNat = true) ∨ (atF u slot ≠ 0 ∧ (slot < 0 ∨ 8 ≤ slot ∨ u.testBit slot.toNat = false)) := by
  unfold atF
  by_cases h : slot < 0 ∨ 8 ≤ slot
  · rw [if_pos h]; exact .inr ⟨by decide, h.elim .inl (fun h => .inr (.inl h))⟩
  · rw [if_neg h]
    cases hb : u.testBit slot.toNat with
    | true => rw [if_pos rfl]; exact .inl ⟨rfl, by omega, by omega, rfl⟩
    | false => rw [if_neg (by simp)]; exact .inr ⟨by decide, .inr (.inr rfl)⟩

set_option maxRecDepth 100000 in
set_option maxHeartbeats 2000000 in
theorem drop_any (w : World) (x bw ub u : Nat) (ws : List Nat) (h : StoR w x bw ub u ws) (slot : Int) : Calls Try.prog 36 #[ptr x, I slot] w fun e w' => e = .returned (I (atF u slot)) ∧ StoR w' x bw ub (if atF u slot = 0 then rmB u slot.toNat else u) (if atF u slot = 0 then ws.set slot.toNat 0 else ws) ∧ Upd [bw, ub] w w' := by
  obtain ⟨c0, c1, lx, lb, lu⟩ := h.at0
  have hA := at_any w x bw ub u ws h slot
  rcases atF_cases u slot with ⟨e0, s0, s1, hb⟩ | ⟨e0, -⟩
  · obtain ⟨i, rfl⟩ := Int.eq_ofNat_of_zero_le s0
    rw [Int.toNat_natCast] at hb ⊢
    rw [if_pos e0, if_pos e0]
    rw [e0] at hA ⊢
    have hi : i < 8 := by omega
    obtain ⟨p1, p2⟩ := h.word i hi
    have hne : bw ≠ x := fun e => h.d1 e.symm
    clear e0 hb
    go_enter Try.func36, Try.ntmps36
    go_wp2_with fail
    refine hA.mono ?_
    rintro e w1 ⟨rfl, rfl⟩
    have R3 := h.rows.set (i := i) (W64 0)
    rw [wsC_set] at R3
    have k3 : Upd [bw] w1 (w1.setCell ⟨bw, i, none⟩ (W64 0)) := (Upd.refl _ _).setCell (by simp) _
    have BR := h.brd.upd k3 (by simp; exact fun e => h.d3 e.symm)
    go_wp2_with fail
    refine (remove_any _ ub u i (by omega) (by have := h.hu; omega) BR).mono ?_
    rintro e w4 ⟨rfl, B4, k4⟩
    go_wp2
    go_ret
    exact ⟨rfl, h.drop i hi R3 k3 B4 k4, (k3.mono (by simp)).trans (k4.mono (by simp))⟩
  · rw [if_neg e0, if_neg e0]
    have e1 : (atF u slot != 0) = true := by simpa using e0
    generalize atF u slot = a at *
    go_enter Try.func36, Try.ntmps36
    go_wp2_with fail
    refine hA.mono ?_
    rintro e w1 ⟨rfl, rfl⟩
    go_wp2
    go_ret
    exact ⟨rfl, h, Upd.refl _ _⟩

set_option maxRecDepth 100000 in
set_option maxHeartbeats 2000000 in
theorem sBump_any (w : World) (x bw ub u : Nat) (ws : List Nat) (h : StoR w x bw ub u ws) (slot d : Int) : Calls Try.prog 37 #[ptr x, I slot, I d] w fun e w' => e = .returned (I (atF u slot)) ∧ StoR w' x bw ub u (if atF u slot = 0 then ws.set slot.toNat (bumpN (ws.getD slot.toNat 0) d) else ws) ∧ Upd [bw, ub] w w' := by
  obtain ⟨c0, c1, lx, lb, lu⟩ := h.at0
  have hA := at_any w x bw ub u ws h slot
  rcases atF_cases u slot with ⟨e0, s0, s1, hb⟩ | ⟨e0, -⟩
  · obtain ⟨i, rfl⟩ := Int.eq_ofNat_of_zero_le s0
    rw [Int.toNat_natCast] at hb ⊢
    rw [if_pos e0]
    rw [e0] at hA ⊢
    have hi : i < 8 := by omega
    have hBm := bump_any w bw i (ws.getD i 0) d (wsC ws) 28 h.rows (wsC_at ws i (by rw [h.len]; exact hi)) (h.lt i)
    clear e0
    go_enter Try.func37, Try.ntmps37
    go_wp2_with fail
    refine hA.mono ?_
    rintro e w1 ⟨rfl, rfl⟩
    go_wp2_with fail
    refine hBm.mono ?_
    rintro e w4 ⟨rfl, B4, k4⟩
    rw [wsC_set] at B4
    go_wp2
    go_ret
    exact ⟨rfl, h.lay i _ hi (packN_lt _ _ _ _ _) hb B4 k4, k4.mono (by simp)⟩
  · rw [if_neg e0]
    have e1 : (atF u slot != 0) = true := by simpa using e0
    generalize atF u slot = a at *
    go_enter Try.func37, Try.ntmps37
    go_wp2_with fail
    refine hA.mono ?_
    rintro e w1 ⟨rfl, rfl⟩
    go_wp2
    go_ret
    exact ⟨rfl, h, Upd.refl _ _⟩
end Go.Proofs.Qxb6500468a
