import Derived.Test.Qxb6500470aVm4
import Derived.Test.Qxb6500470aMt8
namespace Go.Proofs.Qxb6500470a
open Go.RowKit
/-- The model's stack holds st (the top first). -/
def MT (K : Nat → Prop) (w : World) (p : Nat) (st : List TV) : Prop := MS K w p st.reverse
/-- Behind a call on the model's stack. -/
def TurnM (K : Nat → Prop) (w : World) (p : Nat) (st : List TV) (w' : World) : Prop := ∃ K' : Nat → Prop, (∀ k, K k → K' k) ∧ (∀ k, K' k → K k ∨ w.heap.size ≤ k) ∧ MT K' w' p st ∧ Kept K w w'
/-- A word's answer and the stack behind it. -/
def Wm (K : Nat → Prop) (w : World) (p : Nat) (r : List TV × Int) : Ending → World → Prop := fun e w' => e = .returned (I r.2) ∧ TurnM K w p r.1 w'
theorem TurnM.below {K : Nat → Prop} {w w' : World} {p : Nat} {st : List TV} (h : MT K w p st) (b : Below w.heap.size w w') : TurnM K w p st w' := ⟨K, fun _ h => h, fun _ h => .inl h, MS.later h b, Kept.of_below b (MS.ks h)⟩
theorem TurnM.refl {K : Nat → Prop} {w : World} {p : Nat} {st : List TV} (h : MT K w p st) : TurnM K w p st w := .below h (Below.refl _ _)
theorem TurnM.trans {K K1 : Nat → Prop} {w w1 w2 : World} {p : Nat} {st : List TV} (m : ∀ k, K k → K1 k) (n : ∀ k, K1 k → K k ∨ w.heap.size ≤ k) (kk : Kept K w w1) (t : TurnM K1 w1 p st w2) : TurnM K w p st w2 := by
  obtain ⟨K2, m2, n2, s2, k2⟩ := t
  refine ⟨K2, fun k h => m2 k (m k h), fun k h => ?_, s2, kk.trans (k2.weak m)⟩
  rcases n2 k h with e | e
  · exact n k e
  · exact .inr (Nat.le_trans kk.size e)
theorem MT.len {K : Nat → Prop} {w : World} {p : Nat} {st : List TV} (h : MT K w p st) : st.length ≤ 5 := by have := MS.le h; simpa using this
/-- The head of the stack and its top value. -/
theorem MT.empty {K : Nat → Prop} {w : World} {p : Nat} (h : MT K w p []) : ∃ a cap, w.cell? ⟨p, 0, none⟩ = some (.slice a 0 cap) ∧ p < w.heap.size := by
  obtain ⟨a, cap, cs, h⟩ := h
  exact ⟨a, cap, h.at0.1, h.at0.2.2⟩
theorem MT.head {K : Nat → Prop} {w : World} {p : Nat} {st : List TV} (h : MT K w p st) : ∃ a cap, w.cell? ⟨p, 0, none⟩ = some (.slice a st.length cap) ∧ w.frozen? ⟨p, 0, none⟩ = false ∧ p < w.heap.size := by
  obtain ⟨a, cap, cs, h⟩ := h
  have := h.at0
  rw [List.length_reverse] at this
  exact ⟨a, cap, this⟩
/-- The value at place i from the bottom, counted from the top by j. -/
theorem MT.val {K : Nat → Prop} {w : World} {p : Nat} {st : List TV} (h : MT K w p st) (i j : Nat) (hij : i + j + 1 = st.length) : ∃ g cap c0 c1 c2 c3, w.cell? ⟨p, 0, none⟩ = some (.slice (some ⟨g, 0, none⟩) st.length cap) ∧ g ≠ p ∧ ¬ K g ∧ g < w.heap.size ∧ p < w.heap.size ∧ st.length ≤ cap ∧ w.frozen? ⟨p, 0, none⟩ = false ∧ w.cell? ⟨g, i * 4, none⟩ = some c0 ∧ w.cell? ⟨g, i * 4 + 1, none⟩ = some c1 ∧ w.cell? ⟨g, i * 4 + 2, none⟩ = some c2 ∧ w.cell? ⟨g, i * 4 + 3, none⟩ = some c3 ∧ MR K w (st.getD j .nil) c0 c1 c2 c3 := by
  obtain ⟨a, cap, cs, h⟩ := h
  have hl : st.reverse.length = st.length := List.length_reverse
  obtain ⟨g, c0, c1, c2, c3, rfl, hg, kg, lg, hle, h0, h1, h2, h3, hm⟩ := h.elem i (by omega)
  have := h.at0
  rw [hl] at this hle
  refine ⟨g, cap, c0, c1, c2, c3, this.1, hg, kg, lg, this.2.2, hle, this.2.1, h0, h1, h2, h3, ?_⟩
  have e : st.reverse[i]'(by omega) = st.getD j .nil := by
    rw [List.getElem_reverse, List.getD_eq_getElem?_getD]
    have : st.length - 1 - i = j := by omega
    rw [List.getElem?_eq_getElem (by omega : j < st.length)]
    simp [this]
  rw [← e]
  exact hm
theorem MT.grow {K : Nat → Prop} {w w' : World} {p g : Nat} {st : List TV} (h : MT K w p st) (b : Below w.heap.size w w') (h1 : w.heap.size ≤ g) (h2 : g < w'.heap.size) : MT (fun k => K k ∨ k = g) w' p st := by
  obtain ⟨a, cap, cs, h⟩ := h
  have hl := own_lt h.own
  have hp := h.head.lt
  have h' := h.later b
  refine ⟨a, cap, cs, h'.head, h'.own, h'.vals.mono (fun _ e => .inl e), h'.far, ?_, ?_, ?_, h'.le⟩
  · rintro (e | e)
    · exact h'.kp e
    · omega
  · rintro g' hg' (e | e)
    · exact h'.ka g' hg' e
    · have := hl g' hg'; omega
  · rintro k (e | rfl)
    · exact h'.ks k e
    · exact h2
theorem MT.later {K : Nat → Prop} {w w' : World} {p : Nat} {st : List TV} (h : MT K w p st) (b : Below w.heap.size w w') : MT K w' p st := MS.later h b
theorem MT.ks {K : Nat → Prop} {w : World} {p : Nat} {st : List TV} (h : MT K w p st) : ∀ k, K k → k < w.heap.size := MS.ks h
/-- What put does. -/
def wPutM (d : Nat) (x : TV) (st : List TV) : List TV × Int := if 30 < (text x).length then (st, 7) else if 5 ≤ st.length - d then (st, 3) else (x :: st.drop d, 0)
theorem put_w (K : Nat → Prop) (w : World) (p d : Nat) (st : List TV) (h : MT K w p st) (hd : d ≤ st.length) (x : TV) (c0 c1 c2 c3 : Value) (hx : MR K w x c0 c1 c2 c3) (hl : (text x).length ≤ 1000) :
    Calls Try.prog 114 #[ptr p, I d, .agg #[c0, c1, c2, c3]] w (Wm K w p (wPutM d x st)) := by
  unfold wPutM
  by_cases h30 : 30 < (text x).length
  · rw [if_pos h30]
    refine (put_big K w p d x c0 c1 c2 c3 hx h.ks h30 hl).mono ?_
    rintro e w' ⟨rfl, b⟩
    exact ⟨rfl, .below h b⟩
  · rw [if_neg h30]
    by_cases h5 : 5 ≤ st.length - d
    · rw [if_pos h5]
      refine (put_full K w p (st.length - d) d st.reverse h (by rw [List.length_reverse]; omega) h5 x c0 c1 c2 c3 hx (by omega)).mono ?_
      rintro e w' ⟨rfl, b⟩
      exact ⟨rfl, .below h b⟩
    · rw [if_neg h5]
      refine (put_ok K w p (st.length - d) d st.reverse h (by rw [List.length_reverse]; omega) (by omega) x c0 c1 c2 c3 hx (by omega)).mono ?_
      rintro e w' ⟨rfl, s, kk⟩
      refine ⟨rfl, K, fun _ h => h, fun _ h => .inl h, ?_, kk⟩
      unfold MT
      have e : st.reverse.take (st.length - d) ++ [x] = (x :: st.drop d).reverse := by
        rw [List.reverse_cons, List.take_reverse]
        congr 3
        omega
      rw [← e]
      exact s
/-- The table of capabilities. -/
def hasT (t c : Int) : Bool := if c = 1 then decide (t ≠ 4) else if c = 2 then (decide (t = 1) || decide (t = 4)) else if c = 3 then decide (t ≠ 1) else (decide (t = 3) || decide (t = 4))
set_option maxHeartbeats 4000000 in
theorem has_w (t c : Int) (ht : t = 1 ∨ t = 2 ∨ t = 3 ∨ t = 4) (hc : c = 1 ∨ c = 2 ∨ c = 3 ∨ c = 4) (w : World) : Calls Try.prog 116 #[I t, I c] w fun e w' => e = .returned (.bool (hasT t c)) ∧ w' = w := by
  rcases ht with rfl | rfl | rfl | rfl <;> rcases hc with rfl | rfl | rfl | rfl
  all_goals
    go_enter Try.func116, Try.ntmps116
    go_wp2
    go_ret
    exact ⟨rfl, rfl⟩
theorem tag_in (x : TV) : tagM x = 1 ∨ tagM x = 2 ∨ tagM x = 3 ∨ tagM x = 4 := by cases x <;> simp [tagM]
set_option maxHeartbeats 1000000 in
theorem mTop_none (K : Nat → Prop) (w : World) (p : Nat) (h : MT K w p []) : Calls Try.prog 117 #[ptr p] w fun e w' => e = .returned (.tuple #[I 0, I 4]) ∧ w' = w := by
  obtain ⟨a, cap, c0, lp⟩ := h.empty
  go_enter Try.func117, Try.ntmps117
  go_wp2
  go_ret2
  exact ⟨rfl, rfl⟩
set_option maxRecDepth 100000 in
set_option maxHeartbeats 1000000 in
theorem mTop_some (K : Nat → Prop) (w : World) (p : Nat) (x : TV) (r : List TV) (h : MT K w p (x :: r)) : Calls Try.prog 117 #[ptr p] w fun e w' => e = .returned (.tuple #[I (topT (x :: r)).1, I (topT (x :: r)).2]) ∧ w' = w := by
  have h5 := h.len
  obtain ⟨g, cap, c0, c1, c2, c3, hp, hg, -, lg, lp, hle, -, h0, h1, h2, h3, hm⟩ := h.val r.length 0 (by simp)
  obtain ⟨rfl, rfl, rfl, -, -, -⟩ := hm.open
  have hm' : (x :: r).getD 0 .nil = x := rfl
  rw [hm'] at h0 h1 h2
  have hl : (x :: r).length = r.length + 1 := rfl
  rw [hl] at hp hle h5
  generalize r.length = m at *
  have w1 := wr64 (m : Int) (by omega) (by omega)
  have q1 : ¬ ((m : Int) + 1) < 1 := by omega
  by_cases ht : tagM x = 1
  · cases x with
    | int n =>
      go_enter Try.func117, Try.ntmps117
      go_wp2
      go_ret2
      exact ⟨rfl, rfl⟩
    | _ => exact absurd ht (by simp [tagM])
  · have e0 : topT (x :: r) = (0, 2) := by cases x <;> first | rfl | exact absurd rfl ht
    rw [e0]
    have ht' : (tagM x == 1) = false := by simpa using ht
    have ht2 : (tagM x != 1) = true := by simpa using ht
    generalize tagM x = tg at *
    go_enter Try.func117, Try.ntmps117
    go_wp2
    go_ret2
    exact ⟨rfl, rfl⟩
theorem mTop_w (K : Nat → Prop) (w : World) (p : Nat) (st : List TV) (h : MT K w p st) : Calls Try.prog 117 #[ptr p] w fun e w' => e = .returned (.tuple #[I (topT st).1, I (topT st).2]) ∧ w' = w := by
  cases st with
  | nil => exact mTop_none K w p h
  | cons x r => exact mTop_some K w p x r h
end Go.Proofs.Qxb6500470a
