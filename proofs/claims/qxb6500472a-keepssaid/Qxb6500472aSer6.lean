import Derived.Test.Qxb6500472aSer5
namespace Go.Proofs.Qxb6500472a
open Go.RowKit
attribute [local go_sem] run_store_float drewN_alloc drewN_setCell
def lvl0 : Lvl := ⟨0, 0, 0, 0⟩
set_option maxHeartbeats 400000 in
theorem serNew_any (w : World) :
    Calls Try.prog 26 #[] w fun e w' => e = .returned (ptr (w.heap.size + 1)) ∧ SerR w' (w.heap.size + 1) w.heap.size (List.replicate 8 lvl0) 0 ∧ Below w.heap.size w w' := by
  have hmk : ∀ W : World, (Instr.makeSlice 95 (.int .i64 8) (.int .i64 8)).run Try.prog W = .ok (.slice (some ⟨W.heap.size, 0, none⟩) 8 8) (W.alloc (.cells (lvCells (List.replicate 8 lvl0)) 100)) := fun _ => by kernel_rfl
  go_enter Try.func26, Try.ntmps26
  go_wp2
  go_ret
  refine ⟨rfl, ⟨?_, ?_, rfl, by omega, by omega⟩, ?_⟩
  · exact Blk.new (World.size_alloc _ _).symm
  · exact (Blk.new rfl).old _
  · exact ((Below.refl _ _).alloc (Nat.le_refl _) _).alloc (by simp) _

/-! ### the series by its samples -/
/-- The level that the fold makes of the samples up to number i. -/
def levOf (A : List Nat) : Nat → Lvl
  | 0 => nextL none (A.getD 0 0)
  | i + 1 => nextL (some (levOf A i)) (A.getD (i + 1) 0)
def SerA (w : World) (p bl : Nat) (A : List Nat) : Prop := ∃ lv, SerR w p bl lv A.length ∧ ∀ i, i < A.length → (lvAt lv i).can = levOf A i
theorem levOf_pre (A B : List Nat) : ∀ i, (∀ j, j ≤ i → A.getD j 0 = B.getD j 0) → levOf A i = levOf B i
  | 0, h => by simp only [levOf, h 0 (by omega)]
  | i + 1, h => by simp only [levOf, h (i + 1) (by omega), levOf_pre A B i (fun j hj => h j (by omega))]
theorem levOf_x (A : List Nat) (i : Nat) : (levOf A i).x = A.getD i 0 := by cases i <;> rfl
def sumF (A : List Nat) : Nat := if A = [] then 0 else (levOf A (A.length - 1)).s
def minF (A : List Nat) : Nat := if A = [] then 0 else (levOf A (A.length - 1)).l
def maxF (A : List Nat) : Nat := if A = [] then 0 else (levOf A (A.length - 1)).h
def meanF (A : List Nat) : Nat := if A = [] then 0 else quo64 (sumF A) (int64 A.length)
theorem SerA.later {w w' : World} {p bl : Nat} {A : List Nat} (h : SerA w p bl A) (u : Below w.heap.size w w') : SerA w' p bl A := by
  obtain ⟨lv, s, l⟩ := h; exact ⟨lv, s.later u, l⟩
theorem SerA.drewN {w : World} {p bl : Nat} {A : List Nat} (h : SerA w p bl A) (n : Nat) : SerA (w.drewN n) p bl A := by
  obtain ⟨lv, s, l⟩ := h; exact ⟨lv, ⟨s.head, s.rows, s.len, s.le, s.ne⟩, l⟩
theorem SerA.upd {bs : List Nat} {w w' : World} {p bl : Nat} {A : List Nat} (h : SerA w p bl A) (u : Upd bs w w') (hp : p ∉ bs) (hb : bl ∉ bs) : SerA w' p bl A := by
  obtain ⟨lv, s, l⟩ := h; exact ⟨lv, s.upd u hp hb, l⟩
theorem SerA.lt {w : World} {p bl : Nat} {A : List Nat} (h : SerA w p bl A) : p < w.heap.size ∧ bl < w.heap.size ∧ p ≠ bl ∧ A.length ≤ 8 := by
  obtain ⟨lv, s, l⟩ := h; exact ⟨s.head.lt, s.rows.lt, s.ne, s.le⟩

theorem push_all (num den : Int) (w : World) (p bl : Nat) (A : List Nat) (h : SerA w p bl A) (hn : A.length < 8) :
    Calls Try.prog 27 #[ptr p, I num, I den] w fun e w' => e = .returned (I 0) ∧ SerA w' p bl (A ++ [ratioF num den]) ∧ Upd [p, bl] w w' := by
  obtain ⟨lv, s, l⟩ := h
  have hp : Calls Try.prog 27 #[ptr p, I num, I den] w fun e w' => e = .returned (I 0) ∧ Pushed num den w p bl lv A.length w' := by
    generalize A.length = n at *
    cases n with
    | zero => exact push_first num den w p bl lv s
    | succ n => exact push_next num den w p bl lv n s hn
  refine hp.mono ?_
  rintro e w' ⟨rfl, v, cv, sv, u⟩
  refine ⟨rfl, ⟨lv.set A.length v, by rw [List.length_append]; exact sv, ?_⟩, u⟩
  intro i hi
  rw [List.length_append] at hi
  have hl := s.len
  by_cases e : i = A.length
  · subst e
    have e1 : lvAt (lv.set A.length v) A.length = v := by unfold lvAt; simp [List.getD, show A.length < lv.length by omega]
    rw [e1, cv]
    cases hA : A.length with
    | zero =>
      have : A = [] := List.eq_nil_of_length_eq_zero hA
      subst this; rfl
    | succ k =>
      simp only [belowL, levOf]
      rw [l k (by omega)]
      have e2 : levOf A k = levOf (A ++ [ratioF num den]) k := levOf_pre _ _ _ (fun j hj => by
        rw [List.getD_eq_getElem?_getD, List.getD_eq_getElem?_getD, List.getElem?_append_left (by omega)])
      have e3 : (A ++ [ratioF num den]).getD (k + 1) 0 = ratioF num den := by
        rw [List.getD_eq_getElem?_getD, ← hA, List.getElem?_append_right (Nat.le_refl _)]; simp
      rw [e2, e3]
  · have e1 : lvAt (lv.set A.length v) i = lvAt lv i := by unfold lvAt; rw [List.getD_eq_getElem?_getD, List.getD_eq_getElem?_getD, List.getElem?_set_ne (fun h => e h.symm)]
    have hi' : i < A.length := by simp at hi; omega
    rw [e1, l i hi']
    exact levOf_pre _ _ _ (fun j hj => by rw [List.getD_eq_getElem?_getD, List.getD_eq_getElem?_getD, List.getElem?_append_left (by omega)])
theorem pop_all (w : World) (p bl : Nat) (A : List Nat) (h : SerA w p bl A) (hn : A ≠ []) :
    Calls Try.prog 70 #[ptr p] w fun e w' => e = .returned (I 0) ∧ SerA w' p bl A.dropLast ∧ Upd [p, bl] w w' := by
  obtain ⟨lv, s, l⟩ := h
  obtain ⟨n, hA⟩ : ∃ n, A.length = n + 1 := ⟨A.length - 1, by have := List.length_pos_iff.2 hn; omega⟩
  rw [hA] at s
  refine (pop_some w p bl lv n s).mono ?_
  rintro e w' ⟨rfl, rfl⟩
  have hl : A.dropLast.length = n := by rw [List.length_dropLast, hA]; rfl
  have := s.le
  refine ⟨rfl, ⟨lv, by rw [hl]; exact s.count n (by omega), ?_⟩, (Upd.refl _ _).setCell (by simp) _⟩
  intro i hi
  rw [hl] at hi
  rw [l i (by omega)]
  exact levOf_pre _ _ _ (fun j hj => by
    rw [List.getD_eq_getElem?_getD, List.getD_eq_getElem?_getD, List.getElem?_dropLast, if_pos (by omega)])

theorem fld {A : List Nat} {lv : List Lvl} {i : Nat} (h : (lvAt lv i).can = levOf A i) : can64 (lvAt lv i).x = A.getD i 0 ∧ can64 (lvAt lv i).s = (levOf A i).s ∧ can64 (lvAt lv i).l = (levOf A i).l ∧ can64 (lvAt lv i).h = (levOf A i).h := by
  refine ⟨?_, ?_, ?_, ?_⟩
  · rw [← levOf_x, ← h]; rfl
  all_goals rw [← h]; rfl
theorem sum_all (w : World) (p bl : Nat) (A : List Nat) (h : SerA w p bl A) :
    Calls Try.prog 74 #[ptr p] w fun e w' => ∃ v m, e = .returned (D64 v) ∧ can64 v = sumF A ∧ w' = w.drewN m := by
  obtain ⟨lv, s, l⟩ := h
  unfold sumF
  by_cases hA : A = []
  · subst hA
    refine (sum_none w p bl lv s).mono ?_
    rintro e w' ⟨rfl, rfl⟩
    exact ⟨0, 0, rfl, by decide +kernel, rfl⟩
  · obtain ⟨n, hn⟩ : ∃ n, A.length = n + 1 := ⟨A.length - 1, by have := List.length_pos_iff.2 hA; omega⟩
    rw [hn] at s
    refine (sum_some w p bl lv n s).mono ?_
    rintro e w' ⟨rfl, m, rfl⟩
    exact ⟨_, m, rfl, by rw [if_neg hA, hn]; exact (fld (l n (by omega))).2.1, rfl⟩
theorem min_all (w : World) (p bl : Nat) (A : List Nat) (h : SerA w p bl A) :
    Calls Try.prog 66 #[ptr p] w fun e w' => ∃ v m, e = .returned (.tuple #[D64 v, I (if A = [] then 2 else 0)]) ∧ can64 v = minF A ∧ w' = w.drewN m := by
  obtain ⟨lv, s, l⟩ := h
  unfold minF
  by_cases hA : A = []
  · subst hA
    refine (min_none w p bl lv s).mono ?_
    rintro e w' ⟨rfl, rfl⟩
    exact ⟨0, 0, rfl, by decide +kernel, rfl⟩
  · obtain ⟨n, hn⟩ : ∃ n, A.length = n + 1 := ⟨A.length - 1, by have := List.length_pos_iff.2 hA; omega⟩
    rw [hn] at s
    refine (min_some w p bl lv n s).mono ?_
    rintro e w' ⟨rfl, m, rfl⟩
    exact ⟨_, m, by rw [if_neg hA], by rw [if_neg hA, hn]; exact (fld (l n (by omega))).2.2.1, rfl⟩
theorem max_all (w : World) (p bl : Nat) (A : List Nat) (h : SerA w p bl A) :
    Calls Try.prog 67 #[ptr p] w fun e w' => ∃ v m, e = .returned (.tuple #[D64 v, I (if A = [] then 2 else 0)]) ∧ can64 v = maxF A ∧ w' = w.drewN m := by
  obtain ⟨lv, s, l⟩ := h
  unfold maxF
  by_cases hA : A = []
  · subst hA
    refine (max_none w p bl lv s).mono ?_
    rintro e w' ⟨rfl, rfl⟩
    exact ⟨0, 0, rfl, by decide +kernel, rfl⟩
  · obtain ⟨n, hn⟩ : ∃ n, A.length = n + 1 := ⟨A.length - 1, by have := List.length_pos_iff.2 hA; omega⟩
    rw [hn] at s
    refine (max_some w p bl lv n s).mono ?_
    rintro e w' ⟨rfl, m, rfl⟩
    exact ⟨_, m, by rw [if_neg hA], by rw [if_neg hA, hn]; exact (fld (l n (by omega))).2.2.2, rfl⟩
theorem mean_all (w : World) (p bl : Nat) (A : List Nat) (h : SerA w p bl A) :
    Calls Try.prog 75 #[ptr p] w fun e w' => ∃ v m, e = .returned (.tuple #[D64 v, I (if A = [] then 2 else 0)]) ∧ can64 v = meanF A ∧ w' = w.drewN m := by
  obtain ⟨lv, s, l⟩ := h
  unfold meanF
  by_cases hA : A = []
  · subst hA
    refine (mean_none w p bl lv s).mono ?_
    rintro e w' ⟨rfl, rfl⟩
    exact ⟨0, 0, rfl, by decide +kernel, rfl⟩
  · obtain ⟨n, hn⟩ : ∃ n, A.length = n + 1 := ⟨A.length - 1, by have := List.length_pos_iff.2 hA; omega⟩
    rw [hn] at s
    refine (mean_some w p bl lv n s).mono ?_
    rintro e w' ⟨v, rfl, cv, m, rfl⟩
    refine ⟨v, m, by rw [if_neg hA], ?_, rfl⟩
    rw [if_neg hA, cv]
    have e1 := (fld (l n (by omega))).2.1
    unfold sumF
    rw [e1, if_neg hA, hn]
    rfl
end Go.Proofs.Qxb6500472a
