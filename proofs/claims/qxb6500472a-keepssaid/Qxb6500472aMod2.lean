import Derived.Test.Qxb6500472aMod1
namespace Go.Proofs.Qxb6500472a
open Go.RowKit
attribute [local go_sem] run_store_float drewN_alloc drewN_setCell

set_option maxHeartbeats 1000000 in
theorem mPop_none (w : World) (p : Nat) (a : Option Addr) (cap : Nat) (k : Int) (h : SerM w p a cap k []) :
    Calls Try.prog 44 #[ptr p] w fun e w' => e = .returned (I 2) ∧ w' = w := by
  obtain ⟨c0, c1, f0, f1, lp⟩ := h.at0
  go_enter Try.func44, Try.ntmps44
  go_wp2
  go_ret
  exact ⟨rfl, rfl⟩

theorem own_pop {w : World} {g n cap : Nat} {ys : List Nat} (hl : ys.length = n + 1) (h : w.ownsRow 0 80 1 (.slice (some ⟨g, 0, none⟩) (n + 1) cap) (n + 1) (ys.map D64)) :
    w.ownsRow 0 80 1 (.slice (some ⟨g, 0, none⟩) n cap) n (ys.dropLast.map D64) := by
  refine ⟨by simp [hl], ?_⟩
  rcases h.2 with ⟨e, _⟩ | ⟨g', c, cur, hv, h1, hg, hle, hm, hs, ht⟩
  · simp at e
  · simp only [Value.slice.injEq, true_and, Option.some.injEq, Addr.mk.injEq, and_true] at hv
    obtain ⟨rfl, rfl⟩ := hv
    refine .inr ⟨g, cap, cur, rfl, h1, hg, by omega, hm, hs, ?_⟩
    have e : (cur.toList.take ((n + 1) * 1)).take n = (ys.map D64).take n := by rw [ht]
    rw [List.take_take, Nat.min_eq_left (by omega)] at e
    rw [Nat.mul_one, e, ← List.map_take, List.dropLast_eq_take, hl]
    rfl

set_option maxHeartbeats 2000000 in
theorem mPop_some (w : World) (p : Nat) (a : Option Addr) (cap : Nat) (k : Int) (ys : List Nat) (h : SerM w p a cap k ys) (hn : ys ≠ []) :
    Calls Try.prog 44 #[ptr p] w fun e w' => e = .returned (I 0) ∧ SerM w' p a cap k ys.dropLast ∧ ∀ bs, p ∈ bs → Upd bs w w' := by
  obtain ⟨c0, c1, f0, f1, lp⟩ := h.at0
  obtain ⟨n, hl⟩ : ∃ n, ys.length = n + 1 := ⟨ys.length - 1, by have := List.length_pos_iff.2 hn; omega⟩
  obtain ⟨g, rfl, hc, hcap, hgp, hgl⟩ := h.form (by omega)
  have h8 := h.le
  rw [hl] at c0 hcap h8
  have hz : (((n + 1 : Nat) : Int) == 0) = false := by simp; omega
  have hz2 : (((n : Nat) : Int) + 1 == 0) = false := by simp; omega
  have hdl : ys.dropLast.length = n := by simp [hl]
  have Hdl : Hid _ := hdl
  have Hl : Hid _ := hl
  clear hl hdl
  have hwr := wr64 (n : Int) (by omega) (by omega)
  have hwr2 := wr64 ((n : Int) + 1 - 1) (by omega) (by omega)
  have b0 : (0 : Int) ≤ n := by omega
  have HO := h.own
  have HH := h.head
  rw [Hl.out] at HO HH
  clear h
  have b1 : (n : Int) ≤ cap := by omega
  go_enter Try.func44, Try.ntmps44
  go_wp2
  go_region
  go_wp2
  go_ret
  refine ⟨rfl, ?_, fun bs hp => ((Upd.refl bs w).setCell (Or.inl hp) _).drew⟩
  have hm := mstore (ys := ys.dropLast) HH (by rw [Hdl.out]; exact own_pop Hl.out HO) hgp (by rw [Hdl.out]; omega)
  rw [Hdl.out] at hm
  exact hm.drewN 1

set_option maxHeartbeats 1000000 in
theorem mAt_in (w : World) (p : Nat) (a : Option Addr) (cap : Nat) (k : Int) (ys : List Nat) (h : SerM w p a cap k ys) (i : Nat) (hi : i < ys.length) :
    Calls Try.prog 51 #[ptr p, I i] w fun e w' => e = .returned (.tuple #[D64 (ys.getD i 0), I 0]) ∧ w' = w := by
  obtain ⟨c0, c1, f0, f1, lp⟩ := h.at0
  obtain ⟨g, rfl, hc, hcap, hgp, hgl⟩ := h.form (by omega)
  have h8 := h.le
  have hci := hc i hi
  have hlt : ¬ (ys.length : Int) ≤ (i : Int) := by omega
  clear hc h
  go_enter Try.func51, Try.ntmps51
  go_wp2
  go_ret2
  exact ⟨rfl, rfl⟩
set_option maxHeartbeats 1000000 in
theorem mAt_out (w : World) (p : Nat) (a : Option Addr) (cap : Nat) (k : Int) (ys : List Nat) (h : SerM w p a cap k ys) (i : Int) (hi : i < 0 ∨ (ys.length : Int) ≤ i) :
    Calls Try.prog 51 #[ptr p, I i] w fun e w' => e = .returned (.tuple #[D64 0, I 3]) ∧ w' = w := by
  obtain ⟨c0, c1, f0, f1, lp⟩ := h.at0
  by_cases h0 : i < 0
  · go_enter Try.func51, Try.ntmps51
    go_wp2
    go_ret2
    exact ⟨rfl, rfl⟩
  · have h1 : (ys.length : Int) ≤ i := by omega
    go_enter Try.func51, Try.ntmps51
    go_wp2
    go_ret2
    exact ⟨rfl, rfl⟩
set_option maxHeartbeats 2000000 in
theorem mWhole_key (w : World) (p : Nat) (a : Option Addr) (cap : Nat) (k : Int) (ys : List Nat) (h : SerM w p a cap k ys) (i : Nat) (hi : i < ys.length) (K E : Int) (HK : Hid (wholeF (ys.getD i 0) = (K, E))) :
    Calls Try.prog 54 #[ptr p, I i] w fun e w' => e = .returned (.tuple #[I K, I E]) ∧ w' = w := by
  obtain ⟨c0, c1, f0, f1, lp⟩ := h.at0
  obtain ⟨g, rfl, hc, hcap, hgp, hgl⟩ := h.form (by omega)
  have h8 := h.le
  have hci := hc i hi
  have hlt : ¬ (ys.length : Int) ≤ (i : Int) := by omega
  clear hc h
  generalize ys.getD i 0 = x at *
  have HE := HK.out
  clear HK
  unfold wholeF at HE
  cases h53 : in53 x with
  | false =>
    rw [h53] at HE
    simp only [Bool.false_eq_true, if_false, Prod.mk.injEq] at HE
    obtain ⟨rfl, rfl⟩ := HE
    unfold in53 at h53
    cases hA : (FloatKind.f64.format.order x 14069245235905429504 == some .gt || FloatKind.f64.format.order x 14069245235905429504 == some .eq) with
    | false =>
      clear h53
      go_enter Try.func54, Try.ntmps54
      go_wp2
      go_ret2
      exact ⟨rfl, rfl⟩
    | true =>
      rw [hA, Bool.true_and] at h53
      go_enter Try.func54, Try.ntmps54
      go_wp2
      go_ret2
      exact ⟨rfl, rfl⟩
  | true =>
    rw [h53] at HE
    obtain ⟨z, hk, k1, k2⟩ := int53_some x h53
    rw [hk] at HE
    simp only [if_true, Option.getD_some] at HE
    have hcv := fun V => run_convert_float_int (P := Try.prog) V 80 3 .f64 .i64 x z (by rw [Try.underlying80]; rfl) Try.underlying3 hk
    unfold in53 at h53
    rw [Bool.and_eq_true] at h53
    obtain ⟨hA, hB⟩ := h53
    clear hk
    cases hq : (FloatKind.f64.format.order (int64 z) x == some .eq) with
    | true =>
      rw [hq] at HE
      simp only [if_true, Prod.mk.injEq] at HE
      obtain ⟨rfl, rfl⟩ := HE
      go_enter Try.func54, Try.ntmps54
      go_wp2
      go_ret2
      exact ⟨rfl, rfl⟩
    | false =>
      rw [hq] at HE
      simp only [Bool.false_eq_true, if_false, Prod.mk.injEq] at HE
      obtain ⟨rfl, rfl⟩ := HE
      go_enter Try.func54, Try.ntmps54
      go_wp2
      go_ret2
      exact ⟨rfl, rfl⟩
theorem mWhole_in (w : World) (p : Nat) (a : Option Addr) (cap : Nat) (k : Int) (ys : List Nat) (h : SerM w p a cap k ys) (i : Nat) (hi : i < ys.length) :
    Calls Try.prog 54 #[ptr p, I i] w fun e w' => e = .returned (.tuple #[I (wholeF (ys.getD i 0)).1, I (wholeF (ys.getD i 0)).2]) ∧ w' = w := mWhole_key w p a cap k ys h i hi _ _ rfl
set_option maxHeartbeats 1000000 in
theorem mWhole_out (w : World) (p : Nat) (a : Option Addr) (cap : Nat) (k : Int) (ys : List Nat) (h : SerM w p a cap k ys) (i : Int) (hi : i < 0 ∨ (ys.length : Int) ≤ i) :
    Calls Try.prog 54 #[ptr p, I i] w fun e w' => e = .returned (.tuple #[I 0, I 3]) ∧ w' = w := by
  obtain ⟨c0, c1, f0, f1, lp⟩ := h.at0
  by_cases h0 : i < 0
  · go_enter Try.func54, Try.ntmps54
    go_wp2
    go_ret2
    exact ⟨rfl, rfl⟩
  · have h1 : (ys.length : Int) ≤ i := by omega
    go_enter Try.func54, Try.ntmps54
    go_wp2
    go_ret2
    exact ⟨rfl, rfl⟩
end Go.Proofs.Qxb6500472a
