import Derived.Test.Qxb6500472aMod2
namespace Go.Proofs.Qxb6500472a
open Go.RowKit
attribute [local go_sem] run_store_float drewN_alloc drewN_setCell

/-! ### the folds, sample by sample -/
def psum (A : List Nat) : Nat → Nat
  | 0 => 0
  | i + 1 => add64 (psum A i) (A.getD i 0)
def pmin (A : List Nat) : Nat → Nat
  | 0 => A.getD 0 0
  | i + 1 => loF (pmin A i) (A.getD (i + 1) 0)
def pmax (A : List Nat) : Nat → Nat
  | 0 => A.getD 0 0
  | i + 1 => hiF (pmax A i) (A.getD (i + 1) 0)
theorem levOf_folds (A : List Nat) : ∀ i, (levOf A i).s = psum A (i + 1) ∧ (levOf A i).l = pmin A i ∧ (levOf A i).h = pmax A i
  | 0 => ⟨rfl, rfl, rfl⟩
  | i + 1 => by
    obtain ⟨a, b, c⟩ := levOf_folds A i
    refine ⟨?_, ?_, ?_⟩
    · show add64 (levOf A i).s (A.getD (i + 1) 0) = _; rw [a]; rfl
    · show loF (levOf A i).l (A.getD (i + 1) 0) = _; rw [b]; rfl
    · show hiF (levOf A i).h (A.getD (i + 1) 0) = _; rw [c]; rfl
theorem sumF_psum (A : List Nat) : sumF A = psum A A.length := by
  unfold sumF
  by_cases h : A = []
  · rw [if_pos h, h]; rfl
  · rw [if_neg h, (levOf_folds A _).1]
    have := List.length_pos_iff.2 h
    rw [Nat.sub_add_cancel (by omega)]
theorem minF_pmin (A : List Nat) (h : A ≠ []) : minF A = pmin A (A.length - 1) := by unfold minF; rw [if_neg h, (levOf_folds A _).2.1]
theorem maxF_pmax (A : List Nat) (h : A ≠ []) : maxF A = pmax A (A.length - 1) := by unfold maxF; rw [if_neg h, (levOf_folds A _).2.2]
theorem getD_can (ys : List Nat) (i : Nat) (h : i < ys.length) : (ys.map can64).getD i 0 = can64 (ys.getD i 0) := by
  rw [List.getD_eq_getElem?_getD, List.getD_eq_getElem?_getD, List.getElem?_map, List.getElem?_eq_getElem h]; rfl

set_option maxHeartbeats 2000000 in
theorem mSum_any (w : World) (p : Nat) (a : Option Addr) (cap : Nat) (k : Int) (ys : List Nat) (h : SerM w p a cap k ys) :
    Calls Try.prog 76 #[ptr p] w fun e w' => ∃ v, e = .returned (D64 v) ∧ can64 v = sumF (ys.map can64) ∧ SerM w' p a cap k ys ∧ Below w.heap.size w w' := by
  obtain ⟨ra, na, ha, ca⟩ := arith_ex Try.prog .add 80 .f64 (by simp)
  have h8 := h.le
  go_enter Try.func76, Try.ntmps76
  go_wp2
  go_loopw [3, 4] (fun t i wr => ∃ j v : Nat, j ≤ ys.length ∧ t = D64 v ∧ i = I (j : Int) ∧ Hid (can64 v = psum (ys.map can64) j) ∧ SerM wr p a cap k ys ∧ Below w.heap.size w wr) (fun _ i _ => (ys.length - intOf i).toNat)
  case atStart => exact ⟨0, 0, by omega, rfl, rfl, by show can64 0 = 0; decide +kernel, h, Below.refl _ _⟩
  case round =>
    obtain ⟨j, v, hj, rfl, rfl, hv, sr, br⟩ := hrel
    obtain ⟨c0, c1, f0, f1, lp⟩ := sr.at0
    by_cases hlt : j < ys.length
    · obtain ⟨g, hg, hc, hcap, hgp, hgl⟩ := sr.form (by omega)
      subst hg
      have hci := hc j hlt
      have hjl : (j : Int) < (ys.length : Int) := by omega
      clear hc
      generalize hx : ys.getD j 0 = x at *
      have hxx := getD_can ys j hlt
      rw [hx] at hxx
      have Hxx : Hid _ := hxx
      clear hx hxx
      go_wp2
      go_roundw
      case rel =>
        refine ⟨j + 1, _, by omega, rfl, by go_num, ?_, sr.drewN _, Below.drewN br _⟩
        show can64 (ra _ _ _) = _
        refine (ca.out _ _ _).trans ?_
        rw [psum, Hxx.out, ← hv.out]
      case measure => simp [intOf]; omega
    · have hje : j = ys.length := by omega
      subst hje
      go_wp2
      go_ret
      refine ⟨v, rfl, ?_, sr, br⟩
      rw [sumF_psum, List.length_map]
      exact hv.out

set_option maxHeartbeats 2000000 in
theorem mMean_any (w : World) (p : Nat) (a : Option Addr) (cap : Nat) (k : Int) (ys : List Nat) (h : SerM w p a cap k ys) :
    Calls Try.prog 77 #[ptr p] w fun e w' => ∃ v, e = .returned (.tuple #[D64 v, I (if ys = [] then 2 else 0)]) ∧ can64 v = meanF (ys.map can64) ∧ SerM w' p a cap k ys ∧ Below w.heap.size w w' := by
  obtain ⟨rq, nq, hq, cq⟩ := arith_ex Try.prog .quo 80 .f64 (by simp)
  have h8 := h.le
  obtain ⟨c0, c1, f0, f1, lp⟩ := h.at0
  by_cases hA : ys = []
  · subst hA
    have Hh : Hid _ := h
    clear h
    go_enter Try.func77, Try.ntmps77
    go_wp2
    go_ret2
    exact ⟨0, rfl, by show can64 0 = 0; decide +kernel, Hh.out, Below.refl _ _⟩
  · have hz : ((ys.length : Int) == 0) = false := by simp; exact hA
    rw [if_neg hA]
    have HA : Hid _ := hA
    clear hA
    go_enter Try.func77, Try.ntmps77
    go_wp2_with fail
    refine (mSum_any w p a cap k ys h).mono ?_
    rintro e w1 ⟨v, rfl, cv, s1, b1⟩
    clear c0 c1 f0 f1 lp
    obtain ⟨c0, c1, f0, f1, lp⟩ := s1.at0
    go_wp2
    go_ret2
    refine ⟨_, rfl, ?_, s1.drewN _, Below.drewN b1 _⟩
    refine (cq.out _ _ _).trans ?_
    unfold meanF
    have hA2 : ys.map can64 ≠ [] := by simpa using HA.out
    rw [if_neg hA2, can_ofInt, ← cv, List.length_map]

set_option maxHeartbeats 2000000 in
theorem mMin_any (w : World) (p : Nat) (a : Option Addr) (cap : Nat) (k : Int) (ys : List Nat) (h : SerM w p a cap k ys) :
    Calls Try.prog 49 #[ptr p] w fun e w' => ∃ v, e = .returned (.tuple #[D64 v, I (if ys = [] then 2 else 0)]) ∧ can64 v = minF (ys.map can64) ∧ (∃ k', SerM w' p a cap k' ys) ∧ Upd [p] w w' := by
  have h8 := h.le
  obtain ⟨c0, c1, f0, f1, lp⟩ := h.at0
  by_cases hA : ys = []
  · subst hA
    have Hh : Hid _ := h
    clear h
    go_enter Try.func49, Try.ntmps49
    go_wp2
    go_ret2
    exact ⟨0, rfl, by show can64 0 = 0; decide +kernel, ⟨_, Hh.out.asks _⟩, (Upd.refl _ _).setCell (by simp) _⟩
  · have hz : ((ys.length : Int) == 0) = false := by simp; exact hA
    rw [if_neg hA]
    have HA : Hid _ := hA
    have hpos : 0 < ys.length := List.length_pos_iff.2 hA
    clear hA
    obtain ⟨g, rfl, hc, hcap, hgp, hgl⟩ := h.form hpos
    have hc0 := hc 0 hpos
    have hp0 : (0 : Int) < (ys.length : Int) := by omega
    clear hc
    generalize hx0 : ys.getD 0 0 = x0 at *
    have hxx0 := getD_can ys 0 hpos
    rw [hx0] at hxx0
    have Hxx0 : Hid _ := hxx0
    clear hx0 hxx0
    go_enter Try.func49, Try.ntmps49
    go_wp2
    go_loopw [4, 5] (fun t i wr => ∃ (j v : Nat) (k' : Int), j + 1 ≤ ys.length ∧ t = D64 v ∧ i = I ((j : Int) + 1) ∧ Hid (can64 v = pmin (ys.map can64) j) ∧ SerM wr p (some ⟨g, 0, none⟩) cap k' ys ∧ Upd [p] w wr) (fun _ i _ => (ys.length - intOf i).toNat)
    case atStart =>
      refine ⟨0, x0, _, by omega, rfl, rfl, ?_, h.asks _, (Upd.refl _ _).setCell (by simp) _⟩
      show can64 x0 = (ys.map can64).getD 0 0
      rw [Hxx0.out]
    case round =>
      obtain ⟨j, v, k', hj, rfl, rfl, hv, sr, br⟩ := hrel
      clear c0 c1 f0 f1 lp hc0 hgp hgl hcap
      obtain ⟨c0, c1, f0, f1, lp⟩ := sr.at0
      obtain ⟨g', hg', hc, hcap, hgp, hgl⟩ := sr.form hpos
      obtain rfl : g = g' := by simpa using hg'
      clear hg'
      by_cases hlt : j + 1 < ys.length
      · have hci := hc (j + 1) hlt
        have hjl : (j : Int) + 1 < (ys.length : Int) := by omega
        have hj0 : (0 : Int) ≤ (j : Int) + 1 := by omega
        have htn : ((j : Int) + 1).toNat = j + 1 := by omega
        clear hc
        generalize hx : ys.getD (j + 1) 0 = x at *
        have hxx := getD_can ys (j + 1) hlt
        rw [hx] at hxx
        have Hxx : Hid _ := hxx
        clear hx hxx
        cases hq : (FloatKind.f64.format.order x v == some .lt) with
        | true =>
          go_wp2
          go_roundw
          case rel =>
            refine ⟨j + 1, x, k', by omega, rfl, by go_num, ?_, sr, br⟩
            show can64 x = _
            rw [pmin, Hxx.out, ← hv.out, ← loF_can]
            unfold loF ltF
            rw [if_pos hq]
          case measure => simp [intOf]; omega
        | false =>
          go_wp2
          go_roundw
          case rel =>
            refine ⟨j + 1, v, k', by omega, rfl, by go_num, ?_, sr, br⟩
            show can64 v = _
            rw [pmin, Hxx.out, ← hv.out, ← loF_can]
            unfold loF ltF
            rw [if_neg (by rw [hq]; simp)]
          case measure => simp [intOf]; omega
      · have hjl : ¬ (j : Int) + 1 < (ys.length : Int) := by omega
        clear hc
        go_wp2
        go_ret2
        refine ⟨v, rfl, ?_, ⟨k', sr⟩, br⟩
        have hA2 : ys.map can64 ≠ [] := by simpa using HA.out
        rw [minF_pmin _ hA2, List.length_map, show ys.length - 1 = j from by omega]
        exact hv.out

set_option maxHeartbeats 2000000 in
theorem mMax_any (w : World) (p : Nat) (a : Option Addr) (cap : Nat) (k : Int) (ys : List Nat) (h : SerM w p a cap k ys) :
    Calls Try.prog 50 #[ptr p] w fun e w' => ∃ v, e = .returned (.tuple #[D64 v, I (if ys = [] then 2 else 0)]) ∧ can64 v = maxF (ys.map can64) ∧ (∃ k', SerM w' p a cap k' ys) ∧ Upd [p] w w' := by
  have h8 := h.le
  obtain ⟨c0, c1, f0, f1, lp⟩ := h.at0
  by_cases hA : ys = []
  · subst hA
    have Hh : Hid _ := h
    clear h
    go_enter Try.func50, Try.ntmps50
    go_wp2
    go_ret2
    exact ⟨0, rfl, by show can64 0 = 0; decide +kernel, ⟨_, Hh.out.asks _⟩, (Upd.refl _ _).setCell (by simp) _⟩
  · have hz : ((ys.length : Int) == 0) = false := by simp; exact hA
    rw [if_neg hA]
    have HA : Hid _ := hA
    have hpos : 0 < ys.length := List.length_pos_iff.2 hA
    clear hA
    obtain ⟨g, rfl, hc, hcap, hgp, hgl⟩ := h.form hpos
    have hc0 := hc 0 hpos
    have hp0 : (0 : Int) < (ys.length : Int) := by omega
    clear hc
    generalize hx0 : ys.getD 0 0 = x0 at *
    have hxx0 := getD_can ys 0 hpos
    rw [hx0] at hxx0
    have Hxx0 : Hid _ := hxx0
    clear hx0 hxx0
    go_enter Try.func50, Try.ntmps50
    go_wp2
    go_loopw [4, 5] (fun t i wr => ∃ (j v : Nat) (k' : Int), j + 1 ≤ ys.length ∧ t = D64 v ∧ i = I ((j : Int) + 1) ∧ Hid (can64 v = pmax (ys.map can64) j) ∧ SerM wr p (some ⟨g, 0, none⟩) cap k' ys ∧ Upd [p] w wr) (fun _ i _ => (ys.length - intOf i).toNat)
    case atStart =>
      refine ⟨0, x0, _, by omega, rfl, rfl, ?_, h.asks _, (Upd.refl _ _).setCell (by simp) _⟩
      show can64 x0 = (ys.map can64).getD 0 0
      rw [Hxx0.out]
    case round =>
      obtain ⟨j, v, k', hj, rfl, rfl, hv, sr, br⟩ := hrel
      clear c0 c1 f0 f1 lp hc0 hgp hgl hcap
      obtain ⟨c0, c1, f0, f1, lp⟩ := sr.at0
      obtain ⟨g', hg', hc, hcap, hgp, hgl⟩ := sr.form hpos
      obtain rfl : g = g' := by simpa using hg'
      clear hg'
      by_cases hlt : j + 1 < ys.length
      · have hci := hc (j + 1) hlt
        have hjl : (j : Int) + 1 < (ys.length : Int) := by omega
        have hj0 : (0 : Int) ≤ (j : Int) + 1 := by omega
        have htn : ((j : Int) + 1).toNat = j + 1 := by omega
        clear hc
        generalize hx : ys.getD (j + 1) 0 = x at *
        have hxx := getD_can ys (j + 1) hlt
        rw [hx] at hxx
        have Hxx : Hid _ := hxx
        clear hx hxx
        cases hq : (FloatKind.f64.format.order x v == some .gt) with
        | true =>
          go_wp2
          go_roundw
          case rel =>
            refine ⟨j + 1, x, k', by omega, rfl, by go_num, ?_, sr, br⟩
            show can64 x = _
            rw [pmax, Hxx.out, ← hv.out, ← hiF_can]
            unfold hiF gtF
            rw [if_pos hq]
          case measure => simp [intOf]; omega
        | false =>
          go_wp2
          go_roundw
          case rel =>
            refine ⟨j + 1, v, k', by omega, rfl, by go_num, ?_, sr, br⟩
            show can64 v = _
            rw [pmax, Hxx.out, ← hv.out, ← hiF_can]
            unfold hiF gtF
            rw [if_neg (by rw [hq]; simp)]
          case measure => simp [intOf]; omega
      · have hjl : ¬ (j : Int) + 1 < (ys.length : Int) := by omega
        clear hc
        go_wp2
        go_ret2
        refine ⟨v, rfl, ?_, ⟨k', sr⟩, br⟩
        have hA2 : ys.map can64 ≠ [] := by simpa using HA.out
        rw [maxF_pmax _ hA2, List.length_map, show ys.length - 1 = j from by omega]
        exact hv.out
end Go.Proofs.Qxb6500472a
