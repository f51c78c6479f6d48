import Derived.Test.Qxb6500472aSer3
namespace Go.Proofs.Qxb6500472a
open Go.RowKit
attribute [local go_sem] run_store_float drewN_alloc drewN_setCell

/-- The level above: all NaNs being one. -/
def Lvl.can (v : Lvl) : Lvl := ⟨can64 v.x, can64 v.s, can64 v.l, can64 v.h⟩
def nextL : Option Lvl → Nat → Lvl
  | none, X => ⟨X, add64 0 X, X, X⟩
  | some b, X => ⟨X, add64 b.s X, loF b.l X, hiF b.h X⟩
def belowL (lv : List Lvl) : Nat → Option Lvl
  | 0 => none
  | n + 1 => some (lvAt lv n).can

theorem lvCells_set (lv : List Lvl) (n : Nat) (h : n < lv.length) (v : Lvl) :
    ((((lvCells lv).setIfInBounds (n * 4) (D64 v.x)).setIfInBounds (n * 4 + 1) (D64 v.s)).setIfInBounds (n * 4 + 2) (D64 v.l)).setIfInBounds (n * 4 + 3) (D64 v.h) = lvCells (lv.set n v) := by
  unfold lvCells
  simp only [List.setIfInBounds_toArray]
  congr 1
  induction lv generalizing n with
  | nil => simp at h
  | cons u lv ih =>
    cases n with
    | zero => simp [Lvl.cells, List.set_cons_succ]
    | succ n =>
      simp only [List.flatMap_cons, List.set_cons_succ]
      have hc : u.cells.length = 4 := rfl
      rw [List.set_append_right _ _ (by rw [hc]; omega), List.set_append_right _ _ (by rw [hc]; omega), List.set_append_right _ _ (by rw [hc]; omega), List.set_append_right _ _ (by rw [hc]; omega)]
      rw [hc, show (n + 1) * 4 - 4 = n * 4 from by omega, show (n + 1) * 4 + 1 - 4 = n * 4 + 1 from by omega, show (n + 1) * 4 + 2 - 4 = n * 4 + 2 from by omega, show (n + 1) * 4 + 3 - 4 = n * 4 + 3 from by omega]
      rw [ih n (by simpa using h)]

set_option maxHeartbeats 1000000 in
theorem push_full (num den : Int) (w : World) (p bl : Nat) (lv : List Lvl) (h : SerR w p bl lv 8) :
    Calls Try.prog 27 #[ptr p, I num, I den] w fun e w' => e = .returned (I 1) ∧ w' = w := by
  obtain ⟨ch, fh, lh⟩ := h.head.facts
  go_enter Try.func27, Try.ntmps27
  go_wp2
  go_ret
  exact ⟨rfl, rfl⟩

/-- What a push leaves. -/
def Pushed (num den : Int) (w : World) (p bl : Nat) (lv : List Lvl) (n : Nat) (w' : World) : Prop :=
  ∃ v : Lvl, v.can = nextL (belowL lv n) (ratioF num den) ∧ SerR w' p bl (lv.set n v) (n + 1) ∧ Upd [p, bl] w w'

theorem SerR.upd {bs : List Nat} {w w' : World} {p bl : Nat} {lv : List Lvl} {n : Nat} (h : SerR w p bl lv n) (u : Upd bs w w') (hp : p ∉ bs) (hb : bl ∉ bs) : SerR w' p bl lv n :=
  ⟨h.head.upd u hp, h.rows.upd u hb, h.len, h.le, h.ne⟩
theorem SerR.later {w w' : World} {p bl : Nat} {lv : List Lvl} {n : Nat} (h : SerR w p bl lv n) (u : Below w.heap.size w w') : SerR w' p bl lv n :=
  ⟨h.head.below u h.head.lt, h.rows.below u h.rows.lt, h.len, h.le, h.ne⟩
theorem SerR.at0 {w : World} {p bl : Nat} {lv : List Lvl} {n : Nat} (h : SerR w p bl lv n) :
    w.cell? ⟨p, 0, none⟩ = some (.slice (some ⟨bl, 0, none⟩) 8 8) ∧ w.cell? ⟨p, 1, none⟩ = some (I n) ∧ (∀ i, w.frozen? ⟨p, i, none⟩ = false) ∧ (∀ i, w.frozen? ⟨bl, i, none⟩ = false) := by
  refine ⟨?_, ?_, h.head.frozen, h.rows.frozen⟩ <;> rw [h.head.cell] <;> rfl
theorem SerR.row0 {w : World} {p bl : Nat} {lv : List Lvl} {n : Nat} (h : SerR w p bl lv n) :
    w.cell? ⟨bl, 0, none⟩ = some (D64 (lvAt lv 0).x) ∧ w.cell? ⟨bl, 1, none⟩ = some (D64 (lvAt lv 0).s) ∧ w.cell? ⟨bl, 2, none⟩ = some (D64 (lvAt lv 0).l) ∧ w.cell? ⟨bl, 3, none⟩ = some (D64 (lvAt lv 0).h) := h.row 0 (by omega)
/-- The stores of a push. -/
theorem SerR.put {w : World} {p bl : Nat} {lv : List Lvl} {n : Nat} (h : SerR w p bl lv n) (hn : n < 8) (v : Lvl) :
    ∃ w', (((w.setCell ⟨bl, n * 4, none⟩ (D64 v.x)).setCell ⟨bl, n * 4 + 1, none⟩ (D64 v.s)).setCell ⟨bl, n * 4 + 2, none⟩ (D64 v.l)).setCell ⟨bl, n * 4 + 3, none⟩ (D64 v.h) = w' ∧ SerR w' p bl (lv.set n v) n ∧ Upd [p, bl] w w' := by
  refine ⟨_, rfl, ⟨?_, ?_, by rw [List.length_set]; exact h.len, by omega, h.ne⟩, ?_⟩
  · exact (((h.head.other (a := ⟨bl, n * 4, none⟩) h.ne _).other (a := ⟨bl, n * 4 + 1, none⟩) h.ne _).other (a := ⟨bl, n * 4 + 2, none⟩) h.ne _).other (a := ⟨bl, n * 4 + 3, none⟩) h.ne _
  · rw [← lvCells_set lv n (by rw [h.len]; exact hn) v]
    exact (((h.rows.set _).set _).set _).set _
  · exact ((((Upd.refl _ _).setCell (by simp) _).setCell (by simp) _).setCell (by simp) _).setCell (by simp) _
theorem SerR.count {w : World} {p bl : Nat} {lv : List Lvl} {n : Nat} (h : SerR w p bl lv n) (k : Nat) (hk : k ≤ 8) : SerR (w.setCell ⟨p, 1, none⟩ (I k)) p bl lv k :=
  ⟨h.head.set (i := 1) _, h.rows.other (a := ⟨p, 1, none⟩) (fun e => h.ne e.symm) _, h.len, hk, h.ne⟩

set_option maxHeartbeats 2000000 in
theorem push_first (num den : Int) (w : World) (p bl : Nat) (lv : List Lvl) (h : SerR w p bl lv 0) :
    Calls Try.prog 27 #[ptr p, I num, I den] w fun e w' => e = .returned (I 0) ∧ Pushed num den w p bl lv 0 w' := by
  obtain ⟨ch0, ch1, fh, fb⟩ := h.at0
  have hne : bl ≠ p := fun e => h.ne e.symm
  go_enter Try.func27, Try.ntmps27
  go_wp2_with fail
  refine (ratio_any _ _ _).mono ?_
  rintro e w1 ⟨x, m, rfl, cx, rfl⟩
  go_wp2
  go_region_held3 (fun W => W.cell? ⟨p, 0, none⟩ = some (.slice (some ⟨bl, 0, none⟩) 8 8)) (go_keep) (first | (go_at_call 64; refine (first_any _ _).mono ?_; rintro e w2 ⟨s, rfl, cs, hb2⟩; have h2 := SerR.later (w := (w.drewN m).drew) ⟨h.head, h.rows, h.len, h.le, h.ne⟩ hb2; obtain ⟨q0, q1, q2, q3⟩ := h2.at0; obtain ⟨q4, q5, q6, q7⟩ := h2.row0))
  all_goals
    obtain ⟨w3, e3, h3, u3⟩ := h2.put (by omega) ⟨x, s, x, x⟩
    simp only [Nat.zero_mul, Nat.zero_add] at e3
    rw [e3]
    clear e3 q0 q1 q2 q3 q4 q5 q6 q7
    obtain ⟨q0, q1, q2, q3⟩ := h3.at0
    go_wp2
    go_ret
    refine ⟨rfl, ⟨x, s, x, x⟩, ?_, h3.count 1 (by omega), ?_⟩
    · simp only [Lvl.can, cs, cx]; rfl
    · have u2 : Upd [p, bl] w w2 := ((Upd.refl _ w).drewN (m + 1)).trans (Upd.of_below hb2)
      exact (u2.trans u3).setCell (p := ⟨p, 1, none⟩) (by simp) _

/-- Stores into the level above leave the level below. -/
theorem keep_row (bl n i : Nat) (hi : i < (n + 1) * 4) (W : World) (a b c d : Value) :
    ((((W.setCell ⟨bl, (n + 1) * 4, none⟩ a).setCell ⟨bl, (n + 1) * 4 + 1, none⟩ b).setCell ⟨bl, (n + 1) * 4 + 2, none⟩ c).setCell ⟨bl, (n + 1) * 4 + 3, none⟩ d).cell? ⟨bl, i, none⟩ = W.cell? ⟨bl, i, none⟩ := by
  have far : ∀ (V : World) (k : Nat) (u : Value), i ≠ k → (V.setCell ⟨bl, k, none⟩ u).cell? ⟨bl, i, none⟩ = V.cell? ⟨bl, i, none⟩ := fun V k u hk =>
    World.cell?_setCell_other V _ _ u (fun e => hk (by injection e with _ e2 _; exact e2.symm))
  rw [far _ _ _ (by omega), far _ _ _ (by omega), far _ _ _ (by omega), far _ _ _ (by omega)]

set_option maxHeartbeats 4000000 in
theorem push_next (num den : Int) (w : World) (p bl : Nat) (lv : List Lvl) (n : Nat) (h : SerR w p bl lv (n + 1)) (hn : n + 1 < 8) :
    Calls Try.prog 27 #[ptr p, I num, I den] w fun e w' => e = .returned (I 0) ∧ Pushed num den w p bl lv (n + 1) w' := by
  obtain ⟨ch0, ch1, fh, fb⟩ := h.at0
  obtain ⟨r0, r1, r2, r3⟩ := h.row n (by omega)
  have hne : bl ≠ p := fun e => h.ne e.symm
  have hwr := wr64 (n : Int) (by omega) (by omega)
  have hlt : (n : Int) < 8 := by omega
  have hlt1 : (n : Int) + 1 < 8 := by omega
  have hlt0 : (0 : Int) ≤ (n : Int) + 1 := by omega
  have k0 := keep_row bl n (n * 4) (by omega)
  have k1 := keep_row bl n (n * 4 + 1) (by omega)
  have k2 := keep_row bl n (n * 4 + 2) (by omega)
  have k3 := keep_row bl n (n * 4 + 3) (by omega)
  go_enter Try.func27, Try.ntmps27
  go_wp2_with fail
  refine (ratio_any _ _ _).mono ?_
  rintro e w1 ⟨x, m, rfl, cx, rfl⟩
  go_wp2
  go_region_held3 (fun W => W.cell? ⟨p, 0, none⟩ = some (.slice (some ⟨bl, 0, none⟩) 8 8) ∧ W.cell? ⟨p, 1, none⟩ = some (I ((n : Int) + 1)) ∧ W.cell? ⟨bl, n * 4, none⟩ = some (D64 (lvAt lv n).x) ∧ W.cell? ⟨bl, n * 4 + 1, none⟩ = some (D64 (lvAt lv n).s) ∧ W.cell? ⟨bl, n * 4 + 2, none⟩ = some (D64 (lvAt lv n).l) ∧ W.cell? ⟨bl, n * 4 + 3, none⟩ = some (D64 (lvAt lv n).h)) (go_keep) (first | (go_at_call 65; refine (step_any _ _ _ _ _ _).mono ?_; rintro e w2 ⟨s, rfl, cs, hb2⟩; have h2 := SerR.later (w := (w.drewN m).drew) ⟨h.head, h.rows, h.len, h.le, h.ne⟩ hb2; obtain ⟨q0, q1, q2, q3⟩ := h2.at0; obtain ⟨q4, q5, q6, q7⟩ := h2.row (n + 1) (by omega); obtain ⟨t4, t5, t6, t7⟩ := h2.row n (by omega)))
  all_goals
    obtain ⟨w3, e3, h3, u3⟩ := h2.put (by omega) ⟨x, s, loF (lvAt lv n).l x, hiF (lvAt lv n).h x⟩
    rw [e3]
    clear e3 q0 q1 q2 q3 q4 q5 q6 q7 t4 t5 t6 t7
    obtain ⟨q0, q1, q2, q3⟩ := h3.at0
    go_wp2
    go_ret
    refine ⟨rfl, ⟨x, s, loF (lvAt lv n).l x, hiF (lvAt lv n).h x⟩, ?_, ?_, ?_⟩
    · simp only [Lvl.can, cs, cx, loF_can, hiF_can]; rfl
    · exact h3.count (n + 1 + 1) (by omega)
    · have u2 : Upd [p, bl] w w2 := ((Upd.refl _ w).drewN (m + 1)).trans (Upd.of_below hb2)
      exact (u2.trans u3).setCell (p := ⟨p, 1, none⟩) (by simp) _
end Go.Proofs.Qxb6500472a
