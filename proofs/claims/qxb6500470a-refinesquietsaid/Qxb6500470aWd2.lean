import Derived.Test.Qxb6500470aWd1
namespace Go.Proofs.Qxb6500470a
open Go.RowKit
theorem int_fine (n : Int) (h1 : -9223372036854775808 ≤ n) (h2 : n ≤ 9223372036854775807) : (text (.int n)).length ≤ 30 := by
  have := itoa_len n h1 h2
  show (itoa n).length ≤ 30
  omega
theorem wrap_fine (n : Int) : (text (.int (wrap64 n))).length ≤ 30 := int_fine _ (w64_bounds n).1 (w64_bounds n).2
theorem Fine.cons {x : TV} {st : List TV} (hx : (text x).length ≤ 30) (h : Fine st) : Fine (x :: st) := by
  intro y hy
  rcases List.mem_cons.1 hy with rfl | hy
  · exact hx
  · exact h y hy
theorem Fine.append {xs ys : List TV} (h1 : Fine xs) (h2 : Fine ys) : Fine (xs ++ ys) := by
  intro y hy
  rcases List.mem_append.1 hy with hy | hy
  · exact h1 y hy
  · exact h2 y hy
theorem Fine.reverse {xs : List TV} (h : Fine xs) : Fine xs.reverse := fun y hy => h y (List.mem_reverse.1 hy)
theorem elems_fine (c : TV) (h : (text c).length ≤ 30) : Fine (elems c) := fun e he => Nat.le_trans (elem_len c e he) (Nat.le_trans (inner_len c) h)
theorem pair_fine {a b : TV} (h : (text (.pair a b)).length ≤ 30) : (text a).length ≤ 30 ∧ (text b).length ≤ 30 := by
  have e2 := congrArg List.length (text_pair a b)
  simp at e2
  omega
theorem fold_fine (es : List TV) : ∀ (acc x : TV), (text acc).length ≤ 30 → foldT acc es = .ok x → (text x).length ≤ 30 := by
  induction es with
  | nil => intro acc x h e; simp only [foldT, Except.ok.injEq] at e; rw [← e]; exact h
  | cons a es ih =>
    intro acc x h e
    simp only [foldT] at e
    cases hp : plusT acc a with
    | ok y => rw [hp] at e; exact ih y x (plus_le hp) e
    | error k => rw [hp] at e; cases e
theorem wPush_fine (x : TV) (st : List TV) (hx : (text x).length ≤ 30) (h : Fine st) : Fine (wPush x st).1 := by
  unfold wPush
  split
  · exact h.cons hx
  · exact h
theorem wDrop_fine (st : List TV) (h : Fine st) : Fine (wDrop st).1 := by
  cases st with
  | nil => exact h
  | cons x st => exact h.tail
theorem wDup_fine (st : List TV) (h : Fine st) : Fine (wDup st).1 := by
  cases st with
  | nil => exact h
  | cons x st =>
    unfold wDup
    simp only
    split
    · exact h.cons h.head
    · exact h
theorem wNeg_fine (st : List TV) (h : Fine st) : Fine (wNeg st).1 := by
  cases st with
  | nil => exact h
  | cons x st =>
    cases x with
    | int n => exact h.tail.cons (wrap_fine _)
    | pair a b =>
      refine h.tail.cons ?_
      have h1 := h.head
      have e1 := congrArg List.length (text_pair a b)
      have e2 := congrArg List.length (text_pair b a)
      simp at e1 e2
      omega
    | _ => exact h
theorem wLen_fine (st : List TV) (h : Fine st) : Fine (wLen st).1 := by
  cases st with
  | nil => exact h
  | cons x st =>
    have h1 := h.head
    cases x with
    | int n => exact h
    | str z =>
      have := str_text z
      exact h.tail.cons (int_fine _ (by omega) (by omega))
    | nil => exact h.tail.cons (int_fine _ (by omega) (by omega))
    | cons a b =>
      have := cnt_le _ h1
      exact h.tail.cons (int_fine _ (by omega) (by omega))
    | pair a b => exact h.tail.cons (int_fine _ (by omega) (by omega))
theorem wPair_fine (st : List TV) (h : Fine st) : Fine (wPair st).1 := by
  match st, h with
  | [], h => exact h
  | [_], h => exact h
  | y :: x :: r, h =>
    unfold wPair
    simp only
    split
    · rename_i hl; exact h.tail.tail.cons hl
    · exact h
theorem wCons_fine (st : List TV) (h : Fine st) : Fine (wCons st).1 := by
  match st, h with
  | [], h => exact h
  | [_], h => exact h
  | y :: x :: r, h =>
    unfold wCons
    simp only
    split
    · split
      · rename_i hl; exact h.tail.tail.cons hl
      · exact h
    · exact h
theorem wAdd_fine (st : List TV) (h : Fine st) : Fine (wAdd st).1 := by
  match st, h with
  | [], h => exact h
  | [_], h => exact h
  | b :: a :: r, h =>
    unfold wAdd
    simp only
    cases hp : plusT a b with
    | ok x => exact h.tail.tail.cons (plus_le hp)
    | error k => exact h
theorem wFind_fine (st : List TV) (h : Fine st) : Fine (wFind st).1 := by
  match st, h with
  | [], h => exact h
  | [_], h => exact h
  | x :: c :: r, h =>
    unfold wFind
    simp only
    cases hi : iterT c with
    | none => exact h
    | some es =>
      have h1 := iter_len c es hi h.tail.head
      have h2 := findI_le (text x) es 0 (by omega)
      exact h.tail.tail.cons (int_fine _ (by omega) (by omega))
theorem wFold_fine (st : List TV) (h : Fine st) : Fine (wFold st).1 := by
  cases st with
  | nil => exact h
  | cons c r =>
    unfold wFold
    simp only
    cases hi : iterT c with
    | none => exact h
    | some es =>
      cases es with
      | nil => exact h
      | cons e0 es =>
        simp only
        have he0 : (text e0).length ≤ 30 := by
          cases c with
          | nil => cases hi
          | cons a b => simp only [iterT, elems, Option.some.injEq, List.cons.injEq] at hi; rw [← hi.1]; exact elems_fine _ h.head a (by simp [elems])
          | pair a b => simp only [iterT, Option.some.injEq, List.cons.injEq] at hi; rw [← hi.1]; exact (pair_fine h.head).1
          | _ => cases hi
        cases hf : foldT e0 es with
        | ok x => exact h.tail.cons (fold_fine es e0 x he0 hf)
        | error k => exact h
theorem extR_fine (st : List TV) (r : Except Int (List TV)) (h : Fine st) (hr : ∀ s, r = .ok s → Fine s) : Fine (extR st r).1 := by
  cases r with
  | ok s => exact hr s rfl
  | error k => exact h
theorem extra_fine (k : Int) (st : List TV) (h : Fine st) : Fine (extraT k st).1 := by
  unfold extraT
  split
  · refine extR_fine _ _ h ?_
    intro s hs
    cases st with
    | nil => cases hs
    | cons x r =>
      unfold doubleT at hs
      simp only at hs
      cases hp : plusT x x with
      | ok y => rw [hp] at hs; simp only [Except.ok.injEq] at hs; rw [← hs]; exact h.tail.cons (plus_le hp)
      | error k => rw [hp] at hs; cases hs
  split
  · refine extR_fine _ _ h ?_
    intro s hs
    cases st with
    | nil => cases hs
    | cons x r =>
      cases x with
      | int n => cases hs
      | str z => cases hs
      | nil => simp only [spreadT, Except.ok.injEq] at hs; rw [← hs]; exact h.tail
      | cons a b =>
        simp only [spreadT] at hs
        split at hs
        · cases hs
        · simp only [Except.ok.injEq] at hs; rw [← hs]; exact (elems_fine _ h.head).reverse.append h.tail
      | pair a b =>
        simp only [spreadT] at hs
        split at hs
        · cases hs
        · simp only [Except.ok.injEq] at hs; rw [← hs]; exact (h.tail.cons (pair_fine h.head).1).cons (pair_fine h.head).2
  split
  · refine extR_fine _ _ h ?_
    intro s hs
    unfold echoT at hs
    split at hs
    · cases hs
    · simp only [Except.ok.injEq] at hs; rw [← hs]; exact h.append h.reverse
  split
  · refine extR_fine _ _ h ?_
    intro s hs
    unfold quotT at hs
    split at hs
    · split at hs
      · cases hs
      · simp only [Except.ok.injEq] at hs; rw [← hs]; exact h.tail.tail.cons (wrap_fine _)
    · cases hs
  · exact h
end Go.Proofs.Qxb6500470a
