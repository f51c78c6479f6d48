import Derived.Test.Qxb6500470aKz4
import Derived.Test.Qxb6500470aWo2
namespace Go.Proofs.Qxb6500470a
open Go.RowKit
/-- With an error the stack is as it was. -/
def Fr (st : List TV) (r : List TV × Int) : Prop := r.2 ≠ 0 → r.1 = st
theorem fr_push (x : TV) (st : List TV) : Fr st (wPush x st) := by
  unfold wPush
  split
  · intro h; exact absurd rfl h
  · intro _; rfl
theorem fr_drop (st : List TV) : Fr st (wDrop st) := by
  cases st with
  | nil => intro _; rfl
  | cons x r => intro h; exact absurd rfl h
theorem fr_dup (st : List TV) : Fr st (wDup st) := by
  cases st with
  | nil => intro _; rfl
  | cons x r =>
    unfold wDup
    dsimp only
    split
    · intro h; exact absurd rfl h
    · intro _; rfl
theorem fr_neg (st : List TV) : Fr st (wNeg st) := by
  unfold wNeg
  split <;> intro h <;> first | rfl | exact absurd rfl h
theorem fr_len (st : List TV) : Fr st (wLen st) := by
  unfold wLen
  split <;> intro h <;> first | rfl | exact absurd rfl h
theorem fr_pair (st : List TV) : Fr st (wPair st) := by
  unfold wPair
  split
  · split <;> intro h <;> first | rfl | exact absurd rfl h
  · intro _; rfl
theorem fr_cons (st : List TV) : Fr st (wCons st) := by
  unfold wCons
  split
  · split
    · split <;> intro h <;> first | rfl | exact absurd rfl h
    · intro _; rfl
  · intro _; rfl
theorem fr_add (st : List TV) : Fr st (wAdd st) := by
  unfold wAdd
  split
  · split <;> intro h <;> first | rfl | exact absurd rfl h
  · intro _; rfl
theorem fr_find (st : List TV) : Fr st (wFind st) := by
  unfold wFind
  split
  · split <;> intro h <;> first | rfl | exact absurd rfl h
  · intro _; rfl
theorem fr_fold (st : List TV) : Fr st (wFold st) := by
  unfold wFold
  split
  · intro _; rfl
  · split
    · intro _; rfl
    · intro _; rfl
    · split <;> intro h <;> first | rfl | exact absurd rfl h
theorem fr_ext (st : List TV) (r : Except Int (List TV)) : Fr st (extR st r) := by
  cases r with
  | ok x => intro h; exact absurd rfl h
  | error k => intro _; rfl
theorem fr_extra (k : Int) (st : List TV) : Fr st (extraT k st) := by
  unfold extraT
  repeat (split; exact fr_ext _ _)
  intro _; rfl
theorem fr_one {acc : Int} {st : List TV} {r : List TV × Int} (hr : Fr st r) (h : (oneT acc r).2.1 ≠ 0) : (oneT acc r).2.2 = (acc, st) := by
  show (acc, r.1) = (acc, st)
  rw [hr h]
theorem fr_reg (c : UInt8) (acc : Int) (st : List TV) (h : (regT c acc st).2.2 ≠ 0) : ((regT c acc st).1, (regT c acc st).2.1) = (acc, st) := by
  unfold regT at h ⊢
  split
  · rfl
  · split
    · next h1 h2 => rw [if_neg h1, if_pos h2] at h; exact absurd rfl h
    · split
      · rfl
      · split
        · next h1 h2 h3 h4 => rw [if_neg h1, if_neg h2, if_neg h3, if_pos h4] at h; exact absurd rfl h
        · next h1 h2 h3 h4 => rw [if_neg h1, if_neg h2, if_neg h3, if_neg h4] at h; exact absurd rfl h
/-- With an error nothing has turned. -/
def Pe (acc : Int) (st : List TV) (R : ResT) : Prop := R.2.1 ≠ 0 → R.2.2 = (acc, st)
theorem Pe.ite {acc : Int} {st : List TV} {p : Prop} [Decidable p] {A B : ResT} (ha : Pe acc st A) (hb : Pe acc st B) : Pe acc st (if p then A else B) := by
  by_cases h : p
  · rw [if_pos h]; exact ha
  · rw [if_neg h]; exact hb
theorem Pe.push {acc : Int} {st : List TV} (x : TV) (n : Nat) : Pe acc st (n, (wPush x st).2, acc, (wPush x st).1) := fun h => by
  show (acc, (wPush x st).1) = _
  rw [fr_push x st h]
theorem step_err (c : UInt8) (s : List UInt8) (i : Nat) (acc : Int) (st : List TV) : (stepT c s i acc st).2.1 ≠ 0 → (stepT c s i acc st).2.2 = (acc, st) := by
  show Pe acc st (stepT c s i acc st)
  unfold stepT
  refine .ite (fr_one (fr_add st)) (.ite (fr_one (fr_cons st)) (.ite (fr_one (fr_dup st)) (.ite (fr_one (fr_find st)) (.ite (fr_one (fr_len st)) (.ite (fr_one (fr_neg st)) (.ite (fr_one (fr_pair st)) (.ite (fr_one (fr_fold st)) (.ite (fr_one (fr_drop st)) (.ite (fr_reg c acc st) (.ite (fr_one (fr_push _ st)) (.ite (fr_one (fr_extra _ st)) (.ite (fr_one (fr_push _ st)) (.ite (fun h => absurd rfl h) (.ite (fun h => absurd rfl h) (.ite ?_ (.ite ?_ (fun _ => rfl)))))))))))))))))
  · cases litT s i with
    | none => exact fun _ => rfl
    | some r => exact .push _ _
  · cases s[i + 1]? with
    | none => exact fun _ => rfl
    | some r => exact .push _ _
/-- The accumulator is left. -/
def Qe (acc : Int) (R : ResT) : Prop := R.2.2.1 = acc
theorem Qe.ite {acc : Int} {p : Prop} [Decidable p] {A B : ResT} (ha : p → Qe acc A) (hb : ¬ p → Qe acc B) : Qe acc (if p then A else B) := by
  by_cases h : p
  · rw [if_pos h]; exact ha h
  · rw [if_neg h]; exact hb h
theorem step_acc (c : UInt8) (s : List UInt8) (i : Nat) (acc : Int) (st : List TV) (h33 : c ≠ 33) (h83 : c ≠ 83) (h68 : c ≠ 68) (h77 : c ≠ 77) : (stepT c s i acc st).2.2.1 = acc := by
  show Qe acc (stepT c s i acc st)
  unfold stepT
  refine .ite (fun _ => rfl) (fun _ => .ite (fun _ => rfl) (fun _ => .ite (fun _ => rfl) (fun _ => .ite (fun _ => rfl) (fun _ => .ite (fun _ => rfl) (fun _ => .ite (fun _ => rfl) (fun _ => .ite (fun _ => rfl) (fun _ => .ite (fun _ => rfl) (fun _ => .ite (fun _ => rfl) (fun _ => .ite (fun h => by rcases h with h | h | h <;> contradiction) (fun _ => .ite (fun _ => rfl) (fun _ => .ite (fun _ => rfl) (fun _ => .ite (fun _ => rfl) (fun _ => .ite (fun _ => rfl) (fun _ => .ite (fun h => absurd h h33) (fun _ => .ite (fun _ => ?_) (fun _ => .ite (fun _ => ?_) (fun _ => rfl)))))))))))))))))
  · cases litT s i <;> rfl
  · cases s[i + 1]? <;> rfl
theorem litT_L (s : List UInt8) (i : Nat) : litT s i = litL (s.drop (i + 1)) := by
  unfold litT
  cases h : s[i + 1]? with
  | none => rw [List.drop_of_length_le (List.getElem?_eq_none_iff.1 h)]; rfl
  | some c0 =>
    obtain ⟨hl, e⟩ := List.getElem?_eq_some_iff.1 h
    have : s.drop (i + 1) = c0 :: s.drop (i + 1 + 1) := by rw [List.drop_eq_getElem_cons hl, e]
    dsimp only
    unfold numG
    rw [this]
    rfl
theorem step_drop (c : UInt8) (s : List UInt8) (i : Nat) (acc : Int) (st : List TV) : stepT c s i acc st = stepT c (c :: s.drop (i + 1)) 0 acc st := by
  unfold stepT
  have e1 : litT s i = litT (c :: s.drop (i + 1)) 0 := by rw [litT_L, litT_L]; rfl
  have e2 : s[i + 1]? = (c :: s.drop (i + 1))[0 + 1]? := by simp
  rw [e1, e2]
theorem step_35 (r : List UInt8) (acc : Int) (st : List TV) : stepT 35 (35 :: r) 0 acc st = (match litL r with
    | none => (1, 11, acc, st)
    | some q => (q.1, (wPush (.int q.2) st).2, acc, (wPush (.int q.2) st).1)) := by
  show (match litT (35 :: r) 0 with
    | none => (1, 11, acc, st)
    | some q => (q.1, (wPush (.int q.2) st).2, acc, (wPush (.int q.2) st).1)) = _
  rw [litT_L]
  rfl
theorem step_word (c : UInt8) (r : List UInt8) (acc : Int) (st : List TV) : stepT c (c :: tlT c r) 0 acc st = stepT c (c :: r) 0 acc st := by
  by_cases h39 : c = 39
  · subst h39
    cases r with
    | nil => rfl
    | cons a b => rfl
  by_cases h35 : c = 35
  · subst h35
    rw [step_35, step_35]
    have : tlT 35 r = r.take (wdL r) := by
      show r.take (1 + wdL r - 1) = _
      rw [show 1 + wdL r - 1 = wdL r from by omega]
    rw [this, (wdL_take r).1]
  simp [stepT, h39, h35]
theorem step_width (c : UInt8) (r : List UInt8) (acc : Int) (st : List TV) (h : (stepT c (c :: r) 0 acc st).2.1 = 0) : (stepT c (c :: r) 0 acc st).1 = wdT c r := by
  by_cases h39 : c = 39
  · subst h39
    cases r with
    | nil => exact absurd h (by show ¬ (11 : Int) = 0; decide)
    | cons a b => rfl
  by_cases h35 : c = 35
  · subst h35
    rw [step_35] at h ⊢
    cases hl : litL r with
    | none => rw [hl] at h; exact absurd h (by show ¬ (11 : Int) = 0; decide)
    | some q =>
      show q.1 = 1 + wdL r
      cases r with
      | nil => cases hl
      | cons c0 r =>
        rw [litL_cons] at hl
        rw [wdL_cons]
        split at hl
        · next h1 =>
          split at hl
          · cases hl
          · cases hl; rw [if_pos (.inl h1)]; dsimp only; omega
        · split at hl
          · next h1 =>
            split at hl
            · cases hl
            · cases hl; rw [if_pos (.inr h1)]; dsimp only; omega
          · next h1 h2 =>
            split at hl
            · cases hl
            · cases hl; rw [if_neg (fun e => e.elim h1 h2)]
  have e : (stepT c (c :: r) 0 acc st).1 = 1 := by
    unfold stepT
    simp [h35, h39, apply_ite Prod.fst, oneT]
  rw [e]
  simp [wdT, h35, h39]
/-- One word played by itself. -/
def wordT (c : UInt8) (s : List UInt8) (acc : Int) (st : List TV) : ResT :=
  if c = 32 then (1, 0, acc, st) else if (stepT c (c :: s) 0 acc st).2.1 = 0 then (1 + s.length, 0, (stepT c (c :: s) 0 acc st).2.2) else (0, (stepT c (c :: s) 0 acc st).2.1, acc, st)
theorem run_word (c : UInt8) (s : List UInt8) (acc : Int) (st : List TV) (hw : IsW c s) (hs : s.length < 24) : runAllT (c :: s) acc st = wordT c s acc st := by
  unfold runAllT wordT
  rw [if_neg (by simp; omega)]
  by_cases h32 : c = 32
  · subst h32
    have : s = [] := by
      have : (1 : Nat) = 1 + s.length := hw
      exact List.eq_nil_of_length_eq_zero (by omega)
    subst this
    rfl
  rw [if_neg h32]
  have e0 : (c :: s)[0]? = some c := rfl
  show (match (c :: s)[0]? with
    | none => ((c :: s).length, (0 : Int), acc, st)
    | some c' => if c' = 32 then runT 29 (c :: s) (0 + 1) acc st else
      if (stepT c' (c :: s) 0 acc st).2.1 = 0 then runT 29 (c :: s) (0 + (stepT c' (c :: s) 0 acc st).1) (stepT c' (c :: s) 0 acc st).2.2.1 (stepT c' (c :: s) 0 acc st).2.2.2 else (0, (stepT c' (c :: s) 0 acc st).2.1, (stepT c' (c :: s) 0 acc st).2.2.1, (stepT c' (c :: s) 0 acc st).2.2.2)) = _
  rw [e0]
  dsimp only
  rw [if_neg h32]
  by_cases he : (stepT c (c :: s) 0 acc st).2.1 = 0
  · rw [if_pos he, if_pos he, step_width c s acc st he, hw]
    have : (c :: s)[0 + (1 + s.length)]? = none := by rw [List.getElem?_eq_none_iff]; simp; omega
    show (match (c :: s)[0 + (1 + s.length)]? with
      | none => ((c :: s).length, (0 : Int), (stepT c (c :: s) 0 acc st).2.2.1, (stepT c (c :: s) 0 acc st).2.2.2)
      | some c' => _) = _
    rw [this]
    simp
    omega
  · rw [if_neg he, if_neg he]
    have := step_err c (c :: s) 0 acc st he
    rw [show ((stepT c (c :: s) 0 acc st).2.2.1, (stepT c (c :: s) 0 acc st).2.2.2) = (stepT c (c :: s) 0 acc st).2.2 from rfl, this]
/-- A run is its words. -/
theorem runT_word (n : Nat) (p : List UInt8) (i : Nat) (c : UInt8) (r : List UInt8) (hp : p.drop i = c :: r) (acc : Int) (st : List TV) :
    runT (n + 1) p i acc st = if (wordT c (tlT c r) acc st).2.1 = 0 then runT n p (i + wdT c r) (wordT c (tlT c r) acc st).2.2.1 (wordT c (tlT c r) acc st).2.2.2 else (i, (wordT c (tlT c r) acc st).2.1, acc, st) := by
  have e0 : p[i]? = some c := by
    have := congrArg (fun l => l[0]?) hp
    simpa using this
  have e1 : p.drop (i + 1) = r := by
    have := congrArg (List.drop 1) hp
    simpa [Nat.add_comm] using this
  have es : stepT c p i acc st = stepT c (c :: r) 0 acc st := by rw [step_drop, e1]
  have ew := step_word c r acc st
  unfold wordT
  rw [ew]
  show (match p[i]? with
    | none => (p.length, (0 : Int), acc, st)
    | some c' => if c' = 32 then runT n p (i + 1) acc st else
      if (stepT c' p i acc st).2.1 = 0 then runT n p (i + (stepT c' p i acc st).1) (stepT c' p i acc st).2.2.1 (stepT c' p i acc st).2.2.2 else (i, (stepT c' p i acc st).2.1, (stepT c' p i acc st).2.2.1, (stepT c' p i acc st).2.2.2)) = _
  rw [e0]
  dsimp only
  by_cases h32 : c = 32
  · subst h32
    rfl
  rw [if_neg h32, if_neg h32, es]
  by_cases he : (stepT c (c :: r) 0 acc st).2.1 = 0
  · rw [if_pos he, if_pos he, step_width c r acc st he, if_pos rfl]
  · rw [if_neg he, if_neg he]
    have := step_err c (c :: r) 0 acc st he
    rw [show ((stepT c (c :: r) 0 acc st).2.2.1, (stepT c (c :: r) 0 acc st).2.2.2) = (stepT c (c :: r) 0 acc st).2.2 from rfl, this]
    dsimp only
    rw [if_neg he]
end Go.Proofs.Qxb6500470a
