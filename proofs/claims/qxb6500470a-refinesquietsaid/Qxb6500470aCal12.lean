import Derived.Test.Qxb6500470aCal11
import Derived.ScopeJumps
import Derived.WalkMore
namespace Go.Proofs.Qxb6500470a
open Go.RowKit

/-! ### the plain machine -/
def popV (l : List V) : Option (List V × V) := l.getLast?.map fun v => (l.dropLast, v)
theorem popV_some {l r : List V} {v : V} (h : popV l = some (r, v)) : l = r ++ [v] := by
  unfold popV at h
  rcases List.eq_nil_or_concat l with rfl | ⟨l2, u, rfl⟩
  · cases h
  · rw [List.concat_eq_append] at h ⊢
    simp at h
    rw [h.1, h.2]
def popI (l : List V) : Option (List V × Int) := (popV l).bind fun a => match a.2 with
  | some (.inl x) => some (a.1, x)
  | _ => none
theorem popI_some {l r : List V} {x : Int} (h : popI l = some (r, x)) : l = r ++ [some (.inl x)] := by
  unfold popI at h
  obtain ⟨⟨r', v⟩, h1, h2⟩ := Option.bind_eq_some_iff.1 h
  rcases v with _ | n | s
  · cases h2
  · simp only [Option.some.injEq, Prod.mk.injEq] at h2
    rw [popV_some h1, h2.1, h2.2]
  · cases h2
def popN (l : List V) : Option (List V) := (popV l).bind fun a => match a.2 with
  | none => some a.1
  | _ => none
theorem popN_some {l r : List V} (h : popN l = some r) : l = r ++ [none] := by
  unfold popN at h
  obtain ⟨⟨r', v⟩, h1, h2⟩ := Option.bind_eq_some_iff.1 h
  rcases v with _ | n
  · simp only [Option.some.injEq] at h2
    rw [popV_some h1, h2]
  · cases h2
/-- A number's literal behind '#' at i: its width and value; none: it breaks off. -/
def numG (s : List UInt8) (i : Nat) (c0 : UInt8) : Option (Nat × Int) :=
  if c0.toNat = 43 then (if (digs (s.drop (i + 1 + 1)) 0 0).1 = 0 then none else some (2 + (digs (s.drop (i + 1 + 1)) 0 0).1, (digs (s.drop (i + 1 + 1)) 0 0).2))
  else if c0.toNat = 45 then (if (digs (s.drop (i + 1 + 1)) 0 0).1 = 0 then none else some (2 + (digs (s.drop (i + 1 + 1)) 0 0).1, wrap64 (-(digs (s.drop (i + 1 + 1)) 0 0).2)))
  else (if (digs (s.drop (i + 1)) 0 0).1 = 0 then none else some (1 + (digs (s.drop (i + 1)) 0 0).1, (digs (s.drop (i + 1)) 0 0).2))
abbrev Res : Type := Nat × Int × Int × List V
def stepC (c : UInt8) (s : List UInt8) (i : Nat) (acc : Int) (l : List V) : Option Res :=
  if c = 97 then (popI l).bind fun a => (popI a.1).bind fun b => some (1, 0, acc, b.1 ++ [some (.inl (wrap64 (b.2 + a.2)))])
  else if c = 110 then (popI l).bind fun a => some (1, 0, acc, a.1 ++ [some (.inl (wrap64 (-a.2)))])
  else if c = 108 then (popN l).bind fun r => some (1, 0, acc, r ++ [some (.inl 0)])
  else if c = 120 then (if l = [] then some (1, 4, acc, l) else (popV l).bind fun a => some (1, 0, acc, a.1))
  else if c = 100 then (popV l).bind fun a => if a.1.length < 4 then some (1, 0, acc, l ++ [a.2]) else none
  else if c = 98 ∨ c = 122 then some (1, 9, acc, l)
  else if c = 96 ∨ c = 123 ∨ c = 64 ∨ c = 63 ∨ c = 126 ∨ c = 58 ∨ c = 47 then some (1, 9, acc, l)
  else if c = 65 ∨ c = 90 then some (1, 9, acc, l)
  else if c = 83 then (popI l).bind fun a => some (1, 0, a.2, a.1)
  else if c = 71 then (if l.length < 5 then some (1, 0, acc, l ++ [some (.inl acc)]) else none)
  else if c = 68 then (popI l).bind fun a => if a.2 = 0 then some (1, 10, acc, l) else some (1, 0, wrap64 (acc.tdiv a.2), a.1)
  else if c = 77 then (popI l).bind fun a => if a.2 = 0 then some (1, 10, acc, l) else some (1, 0, acc.tmod a.2, a.1)
  else if c = 91 then (if l.length < 5 then some (1, 0, acc, l ++ [none]) else none)
  else if c = 59 then some (1, 0, acc, [])
  else if c = 33 then some (1, 0, 0, [])
  else if c = 35 then (if l.length < 5 then (match s[i + 1]? with
    | none => some (1, 11, acc, l)
    | some c0 => match numG s i c0 with
      | none => some (1, 11, acc, l)
      | some r => some (r.1, 0, acc, l ++ [some (.inl r.2)])) else none)
  else if c = 39 then (if l.length < 5 then (match s[i + 1]? with
    | none => some (1, 11, acc, l)
    | some c0 => some (2, 0, acc, l ++ [some (.inr [c0])])) else none)
  else none

set_option maxHeartbeats 1000000 in
theorem step_any (K : Nat → Prop) (w : World) (m p : Nat) (acc : Int) (l : List V) (h : Mac K w m p acc l) (s : List UInt8) (i : Nat) (hs : s.length ≤ 24) (c : UInt8) (hc : s[i]? = some c) (wd : Nat) (e acc' : Int) (l' : List V) (hF : stepC c s i acc l = some (wd, e, acc', l')) :
    Calls Try.prog 45 #[ptr m, S s, I i] w fun r w' => r = .returned (.tuple #[I wd, I e]) ∧ Mac K w' m p acc' l' ∧ Kept K w w' := by
  have hi : i < s.length := (List.getElem?_eq_some_iff.1 hc).1
  have same : ∀ e0 : Int, (Calls Try.prog 45 #[ptr m, S s, I i] w fun r w' => r = .returned (.tuple #[I 1, I e0]) ∧ w' = w) → (Calls Try.prog 45 #[ptr m, S s, I i] w fun r w' => r = .returned (.tuple #[I ((1 : Nat) : Int), I e0]) ∧ Mac K w' m p acc l ∧ Kept K w w') := by
    intro e0 hC
    refine hC.mono ?_
    rintro r w' ⟨rfl, rfl⟩
    exact ⟨rfl, h, Kept.refl K _⟩
  unfold stepC at hF
  by_cases c1 : c = 97
  · subst c1
    rw [if_pos rfl] at hF
    obtain ⟨⟨r1, y⟩, h1, hF⟩ := Option.bind_eq_some_iff.1 hF
    obtain ⟨⟨r2, x⟩, h2, hF⟩ := Option.bind_eq_some_iff.1 hF
    simp only [Option.some.injEq, Prod.mk.injEq] at hF
    obtain ⟨rfl, rfl, rfl, rfl⟩ := hF
    have e1 := popI_some h1
    have e2 := popI_some h2
    dsimp only at e2
    rw [e2, List.append_assoc] at e1
    subst e1
    exact step_a K w m p _ r2 x y h s i hs hc
  rw [if_neg c1] at hF
  clear c1
  by_cases c1 : c = 110
  · subst c1
    rw [if_pos rfl] at hF
    obtain ⟨⟨r1, x⟩, h1, hF⟩ := Option.bind_eq_some_iff.1 hF
    simp only [Option.some.injEq, Prod.mk.injEq] at hF
    obtain ⟨rfl, rfl, rfl, rfl⟩ := hF
    obtain rfl := popI_some h1
    exact step_n K w m p _ r1 x h s i hs hc
  rw [if_neg c1] at hF
  clear c1
  by_cases c1 : c = 108
  · subst c1
    rw [if_pos rfl] at hF
    obtain ⟨r1, h1, hF⟩ := Option.bind_eq_some_iff.1 hF
    simp only [Option.some.injEq, Prod.mk.injEq] at hF
    obtain ⟨rfl, rfl, rfl, rfl⟩ := hF
    obtain rfl := popN_some h1
    exact step_l K w m p _ r1 h s i hs hc
  rw [if_neg c1] at hF
  clear c1
  by_cases c1 : c = 120
  · subst c1
    rw [if_pos rfl] at hF
    by_cases hl : l = []
    · rw [if_pos hl] at hF
      subst hl
      simp only [Option.some.injEq, Prod.mk.injEq] at hF
      obtain ⟨rfl, rfl, rfl, rfl⟩ := hF
      exact same _ (step_x0 K w m p _ h s i hs hc)
    · rw [if_neg hl] at hF
      obtain ⟨⟨r1, v⟩, h1, hF⟩ := Option.bind_eq_some_iff.1 hF
      simp only [Option.some.injEq, Prod.mk.injEq] at hF
      obtain ⟨rfl, rfl, rfl, rfl⟩ := hF
      obtain rfl := popV_some h1
      exact step_x K w m p _ r1 v h s i hs hc
  rw [if_neg c1] at hF
  clear c1
  by_cases c1 : c = 100
  · subst c1
    rw [if_pos rfl] at hF
    obtain ⟨⟨r1, v⟩, h1, hF⟩ := Option.bind_eq_some_iff.1 hF
    by_cases hl : r1.length < 4
    · dsimp only at hF
      rw [if_pos hl] at hF
      simp only [Option.some.injEq, Prod.mk.injEq] at hF
      obtain ⟨rfl, rfl, rfl, rfl⟩ := hF
      obtain rfl := popV_some h1
      exact step_d K w m p _ r1 v hl h s i hs hc
    · dsimp only at hF
      rw [if_neg hl] at hF
      cases hF
  rw [if_neg c1] at hF
  clear c1
  by_cases c1 : c = 98 ∨ c = 122
  · rw [if_pos c1] at hF
    simp only [Option.some.injEq, Prod.mk.injEq] at hF
    obtain ⟨rfl, rfl, rfl, rfl⟩ := hF
    rcases c1 with rfl | rfl
    · exact same _ (step_b K w m p _ _ h s i hs hc)
    · exact same _ (step_z K w m p _ _ h s i hs hc)
  rw [if_neg c1] at hF
  clear c1
  by_cases c1 : c = 96 ∨ c = 123 ∨ c = 64 ∨ c = 63 ∨ c = 126 ∨ c = 58 ∨ c = 47
  · rw [if_pos c1] at hF
    simp only [Option.some.injEq, Prod.mk.injEq] at hF
    obtain ⟨rfl, rfl, rfl, rfl⟩ := hF
    rcases c1 with rfl | rfl | rfl | rfl | rfl | rfl | rfl
    · exact same _ (step_c96 w m s i hs hc)
    · exact same _ (step_c123 w m s i hs hc)
    · exact same _ (step_c64 w m s i hs hc)
    · exact same _ (step_c63 w m s i hs hc)
    · exact same _ (step_c126 w m s i hs hc)
    · exact same _ (step_c58 w m s i hs hc)
    · exact same _ (step_c47 w m s i hs hc)
  rw [if_neg c1] at hF
  clear c1
  by_cases c1 : c = 65 ∨ c = 90
  · rw [if_pos c1] at hF
    simp only [Option.some.injEq, Prod.mk.injEq] at hF
    obtain ⟨rfl, rfl, rfl, rfl⟩ := hF
    rcases c1 with rfl | rfl
    · exact same _ (step_A w m s i hs hc)
    · exact same _ (step_Z w m s i hs hc)
  rw [if_neg c1] at hF
  clear c1
  by_cases c1 : c = 83
  · subst c1
    rw [if_pos rfl] at hF
    obtain ⟨⟨r1, x⟩, h1, hF⟩ := Option.bind_eq_some_iff.1 hF
    simp only [Option.some.injEq, Prod.mk.injEq] at hF
    obtain ⟨rfl, rfl, rfl, rfl⟩ := hF
    obtain rfl := popI_some h1
    exact step_S K w m p _ r1 _ h s i hs hc
  rw [if_neg c1] at hF
  clear c1
  by_cases c1 : c = 71
  · subst c1
    rw [if_pos rfl] at hF
    by_cases hl : l.length < 5
    · rw [if_pos hl] at hF
      simp only [Option.some.injEq, Prod.mk.injEq] at hF
      obtain ⟨rfl, rfl, rfl, rfl⟩ := hF
      exact step_G K w m p _ l hl h s i hs hc
    · rw [if_neg hl] at hF
      cases hF
  rw [if_neg c1] at hF
  clear c1
  by_cases c1 : c = 68
  · subst c1
    rw [if_pos rfl] at hF
    obtain ⟨⟨r1, x⟩, h1, hF⟩ := Option.bind_eq_some_iff.1 hF
    dsimp only at hF
    by_cases hx : x = 0
    · rw [if_pos hx] at hF
      subst hx
      simp only [Option.some.injEq, Prod.mk.injEq] at hF
      obtain ⟨rfl, rfl, rfl, rfl⟩ := hF
      have e1 := popI_some h1
      exact same _ (step_D0 K w m p _ r1 (e1 ▸ h) s i hs hc)
    · rw [if_neg hx] at hF
      simp only [Option.some.injEq, Prod.mk.injEq] at hF
      obtain ⟨rfl, rfl, rfl, rfl⟩ := hF
      obtain rfl := popI_some h1
      exact step_D K w m p _ r1 x hx h s i hs hc
  rw [if_neg c1] at hF
  clear c1
  by_cases c1 : c = 77
  · subst c1
    rw [if_pos rfl] at hF
    obtain ⟨⟨r1, x⟩, h1, hF⟩ := Option.bind_eq_some_iff.1 hF
    dsimp only at hF
    by_cases hx : x = 0
    · rw [if_pos hx] at hF
      subst hx
      simp only [Option.some.injEq, Prod.mk.injEq] at hF
      obtain ⟨rfl, rfl, rfl, rfl⟩ := hF
      have e1 := popI_some h1
      exact same _ (step_M0 K w m p _ r1 (e1 ▸ h) s i hs hc)
    · rw [if_neg hx] at hF
      simp only [Option.some.injEq, Prod.mk.injEq] at hF
      obtain ⟨rfl, rfl, rfl, rfl⟩ := hF
      obtain rfl := popI_some h1
      exact step_M K w m p _ r1 x hx h s i hs hc
  rw [if_neg c1] at hF
  clear c1
  by_cases c1 : c = 91
  · subst c1
    rw [if_pos rfl] at hF
    by_cases hl : l.length < 5
    · rw [if_pos hl] at hF
      simp only [Option.some.injEq, Prod.mk.injEq] at hF
      obtain ⟨rfl, rfl, rfl, rfl⟩ := hF
      exact step_nil K w m p _ l hl h s i hs hc
    · rw [if_neg hl] at hF
      cases hF
  rw [if_neg c1] at hF
  clear c1
  by_cases c1 : c = 59
  · subst c1
    rw [if_pos rfl] at hF
    simp only [Option.some.injEq, Prod.mk.injEq] at hF
    obtain ⟨rfl, rfl, rfl, rfl⟩ := hF
    exact step_semi K w m p _ l h s i hs hc
  rw [if_neg c1] at hF
  clear c1
  by_cases c1 : c = 33
  · subst c1
    rw [if_pos rfl] at hF
    simp only [Option.some.injEq, Prod.mk.injEq] at hF
    obtain ⟨rfl, rfl, rfl, rfl⟩ := hF
    exact step_bang K w m p _ l h s i hs hc
  rw [if_neg c1] at hF
  clear c1
  by_cases c1 : c = 35
  · subst c1
    rw [if_pos rfl] at hF
    by_cases hl : l.length < 5
    · rw [if_pos hl] at hF
      cases hc0 : s[i + 1]? with
      | none =>
        rw [hc0] at hF
        dsimp only at hF
        simp only [Option.some.injEq, Prod.mk.injEq] at hF
        obtain ⟨rfl, rfl, rfl, rfl⟩ := hF
        have hlen : i + 1 = s.length := by have := List.getElem?_eq_none_iff.1 hc0; omega
        exact same _ (step_num w m s i hs hc 1 11 (fun w' => w' = w) (number_A w m s i hs hlen))
      | some c0 =>
        rw [hc0] at hF
        dsimp only at hF
        unfold numG at hF
        by_cases k1 : c0.toNat = 43
        · simp only [if_pos k1] at hF
          obtain ⟨N, X, hN⟩ : ∃ N X, digs (s.drop (i + 1 + 1)) 0 0 = (N, X) := ⟨_, _, rfl⟩
          rw [hN] at hF
          have hnum := number_P K w m p acc l h hl s i hs c0 hc0 k1 N X hN
          dsimp only at hF
          by_cases hz : N = 0
          · rw [if_pos hz] at hF
            dsimp only at hF
            simp only [Option.some.injEq, Prod.mk.injEq] at hF
            obtain ⟨rfl, rfl, rfl, rfl⟩ := hF
            refine same _ (step_num w m s i hs hc 1 11 (fun w' => w' = w) (hnum.mono ?_))
            rintro r w' (⟨-, q1, q2⟩ | ⟨q0, -⟩)
            · exact ⟨q1, q2⟩
            · omega
          · rw [if_neg hz] at hF
            dsimp only at hF
            simp only [Option.some.injEq, Prod.mk.injEq] at hF
            obtain ⟨rfl, rfl, rfl, rfl⟩ := hF
            rw [show ((2 + N : Nat) : Int) = 2 + (N : Int) from by omega]
            refine step_num w m s i hs hc _ 0 (fun w' => Mac K w' m p acc _ ∧ Kept K w w') (hnum.mono ?_)
            rintro r w' (⟨q0, -⟩ | ⟨-, q1, q2⟩)
            · exact absurd q0 hz
            · exact ⟨q1, q2⟩
        · simp only [if_neg k1] at hF
          by_cases k2 : c0.toNat = 45
          · simp only [if_pos k2] at hF
            obtain ⟨N, X, hN⟩ : ∃ N X, digs (s.drop (i + 1 + 1)) 0 0 = (N, X) := ⟨_, _, rfl⟩
            rw [hN] at hF
            have hnum := number_M K w m p acc l h hl s i hs c0 hc0 k2 N X hN
            dsimp only at hF
            by_cases hz : N = 0
            · rw [if_pos hz] at hF
              dsimp only at hF
              simp only [Option.some.injEq, Prod.mk.injEq] at hF
              obtain ⟨rfl, rfl, rfl, rfl⟩ := hF
              refine same _ (step_num w m s i hs hc 1 11 (fun w' => w' = w) (hnum.mono ?_))
              rintro r w' (⟨-, q1, q2⟩ | ⟨q0, -⟩)
              · exact ⟨q1, q2⟩
              · omega
            · rw [if_neg hz] at hF
              dsimp only at hF
              simp only [Option.some.injEq, Prod.mk.injEq] at hF
              obtain ⟨rfl, rfl, rfl, rfl⟩ := hF
              rw [show ((2 + N : Nat) : Int) = 2 + (N : Int) from by omega]
              refine step_num w m s i hs hc _ 0 (fun w' => Mac K w' m p acc _ ∧ Kept K w w') (hnum.mono ?_)
              rintro r w' (⟨q0, -⟩ | ⟨-, q1, q2⟩)
              · exact absurd q0 hz
              · exact ⟨q1, q2⟩
          · simp only [if_neg k2] at hF
            have k1' : ((c0.toNat : Int) == 43) = false := by simp; omega
            have k2' : ((c0.toNat : Int) == 45) = false := by simp; omega
            obtain ⟨N, X, hN⟩ : ∃ N X, digs (s.drop (i + 1)) 0 0 = (N, X) := ⟨_, _, rfl⟩
            rw [hN] at hF
            have hnum := number_D K w m p acc l h hl s i hs c0 hc0 k1' k2' N X hN
            dsimp only at hF
            by_cases hz : N = 0
            · rw [if_pos hz] at hF
              dsimp only at hF
              simp only [Option.some.injEq, Prod.mk.injEq] at hF
              obtain ⟨rfl, rfl, rfl, rfl⟩ := hF
              refine same _ (step_num w m s i hs hc 1 11 (fun w' => w' = w) (hnum.mono ?_))
              rintro r w' (⟨-, q1, q2⟩ | ⟨q0, -⟩)
              · exact ⟨q1, q2⟩
              · omega
            · rw [if_neg hz] at hF
              dsimp only at hF
              simp only [Option.some.injEq, Prod.mk.injEq] at hF
              obtain ⟨rfl, rfl, rfl, rfl⟩ := hF
              rw [show ((1 + N : Nat) : Int) = 1 + (N : Int) from by omega]
              refine step_num w m s i hs hc _ 0 (fun w' => Mac K w' m p acc _ ∧ Kept K w w') (hnum.mono ?_)
              rintro r w' (⟨q0, -⟩ | ⟨-, q1, q2⟩)
              · exact absurd q0 hz
              · exact ⟨q1, q2⟩
    · rw [if_neg hl] at hF
      cases hF
  rw [if_neg c1] at hF
  clear c1
  by_cases c1 : c = 39
  · subst c1
    rw [if_pos rfl] at hF
    by_cases hl : l.length < 5
    · rw [if_pos hl] at hF
      cases hc0 : s[i + 1]? with
      | none =>
        rw [hc0] at hF
        dsimp only at hF
        simp only [Option.some.injEq, Prod.mk.injEq] at hF
        obtain ⟨rfl, rfl, rfl, rfl⟩ := hF
        have hlen : i + 1 = s.length := by have := List.getElem?_eq_none_iff.1 hc0; omega
        exact same _ (step_let w m s i hs hc 1 11 (fun w' => w' = w) (letter_end w m s i hs hlen))
      | some c0 =>
        rw [hc0] at hF
        dsimp only at hF
        simp only [Option.some.injEq, Prod.mk.injEq] at hF
        obtain ⟨rfl, rfl, rfl, rfl⟩ := hF
        exact step_let w m s i hs hc 2 0 _ (letter_any K w m p acc l h hl s i hs c0 hc0)
    · rw [if_neg hl] at hF
      cases hF
  rw [if_neg c1] at hF
  clear c1
  cases hF

theorem wp_scope_next {P : Program} {a : Act} {w : World} {Q : Exit → Act → World → Prop} {c rest : Code} (l : Nat) (hf : findLabel c l = some rest) (hr : ∀ (Q : Exit → Act → World → Prop) a w, Q .normal a w → rest.wp P Q a w)
    (first : c.wp P (Exit.jump l (fun a w => Q .normal a w) Q) a w) : (Code.scope c).wp P Q a w :=
  wp_scope_jumps l (fun a w => Q .normal a w) (fun _ _ => 0) hf first (fun a w h => hr _ a w h)
def runF : Nat → List UInt8 → Nat → Int → List V → Option Res
  | 0, _, _, _, _ => none
  | n + 1, s, i, acc, l => match s[i]? with
    | none => some (s.length, 0, acc, l)
    | some c => if c = 32 then runF n s (i + 1) acc l else
      (stepC c s i acc l).bind fun r => if r.2.1 = 0 then (if 1 ≤ r.1 ∧ r.1 ≤ 30 then runF n s (i + r.1) r.2.2.1 r.2.2.2 else none) else some (i, r.2.1, r.2.2.1, r.2.2.2)
def runAll (s : List UInt8) (acc : Int) (l : List V) : Option Res := if 24 < s.length then some (0, 1, acc, l) else runF 30 s 0 acc l

set_option maxRecDepth 100000 in
set_option maxHeartbeats 2000000 in
theorem run_any (K : Nat → Prop) (w : World) (m p : Nat) (acc : Int) (l : List V) (h : Mac K w m p acc l) (s : List UInt8) (k : Nat) (e acc' : Int) (l' : List V) (hs63 : s.length < 1000) (hF : runAll s acc l = some (k, e, acc', l')) :
    Calls Try.prog 30 #[ptr m, S s] w fun r w' => r = .returned (.tuple #[I k, I e]) ∧ Mac K w' m p acc' l' ∧ Kept K w w' := by
  have hz := str_size s
  unfold runAll at hF
  by_cases h24 : 24 < s.length
  · rw [if_pos h24] at hF
    simp only [Option.some.injEq, Prod.mk.injEq] at hF
    obtain ⟨rfl, rfl, rfl, rfl⟩ := hF
    have q1 : (24 : Int) < (s.length : Int) := by omega
    go_enter Try.func30, Try.ntmps30
    go_wp2
    go_ret2
    exact ⟨rfl, h, Kept.refl K w⟩
  · rw [if_neg h24] at hF
    have hs : s.length ≤ 24 := by omega
    have q1 : ¬ (24 : Int) < (s.length : Int) := by omega
    have hz2 : (str s).size ≤ 24 := by omega
    have HF : Hid _ := hF
    clear hF h24
    go_enter Try.func30, Try.ntmps30
    go_wp2
    go_loopw [6, 7, 8] (fun a b x wr => ∃ (n i : Nat) (acc1 wa wb : Int) (l1 : List V), a = I wa ∧ b = I wb ∧ x = I (i : Int) ∧ i ≤ 60 ∧ Hid (runF n s i acc1 l1 = some (k, e, acc', l')) ∧ Mac K wr m p acc1 l1 ∧ Kept K w wr) (fun _ _ x _ => (s.length - intOf x).toNat)
    case atStart => exact ⟨30, 0, acc, 0, 0, l, rfl, rfl, rfl, by omega, HF.out, h, Kept.refl K w⟩
    case round =>
      obtain ⟨n, i, acc1, wa, wb, l1, rfl, rfl, rfl, hi60, HR, mr, kr⟩ := hrel
      rcases n with _ | n
      · cases HR.out
      · have hR := HR.out
        rw [runF] at hR
        clear HR
        cases hc : s[i]? with
        | none =>
          rw [hc] at hR
          dsimp only at hR
          simp only [Option.some.injEq, Prod.mk.injEq] at hR
          obtain ⟨rfl, rfl, rfl, rfl⟩ := hR
          have := List.getElem?_eq_none_iff.1 hc
          have q2 : ¬ (i : Int) < (s.length : Int) := by omega
          clear hc
          go_wp2
          go_ret2
          exact ⟨rfl, mr, kr⟩
        | some c =>
          rw [hc] at hR
          dsimp only at hR
          have hi : i < s.length := (List.getElem?_eq_some_iff.1 hc).1
          have q2 : (i : Int) < (s.length : Int) := by omega
          have g0 := str_get s i _ hc
          by_cases h32 : c = 32
          · rw [if_pos h32] at hR
            subst h32
            have HR : Hid _ := hR
            clear hR hc
            have q3 := wr64 ((i : Int) + 1) (by omega) (by omega)
            go_wp2
            refine wp_scope_next 0 rfl (fun Q a w h => wp_skip h) ?_
            go_wp2
            go_step3
            refine ⟨rfl, ?_⟩
            go_wp2
            go_roundw
            case rel => exact ⟨n, i + 1, acc1, 1, wb, l1, rfl, rfl, by go_num, by omega, HR.out, mr, kr⟩
            case measure => simp [intOf]; omega
          · rw [if_neg h32] at hR
            obtain ⟨⟨r1, r2, r3, r4⟩, hst, hR⟩ := Option.bind_eq_some_iff.1 hR
            dsimp only at hR
            have hstep := step_any K wr m p acc1 l1 mr s i hs c hc r1 r2 r3 r4 hst
            have hc32 : ((c.toNat : Int) == 32) = false := by
              have : c.toNat ≠ 32 := fun e => h32 (UInt8.toNat_inj.1 e)
              simp; omega
            generalize c.toNat = c9 at *
            clear hst hc h32
            by_cases hr2 : r2 = 0
            · rw [if_pos hr2] at hR
              subst hr2
              by_cases hb : 1 ≤ r1 ∧ r1 ≤ 30
              · rw [if_pos hb] at hR
                have HR : Hid _ := hR
                clear hR
                have q3 := wr64 ((i : Int) + (r1 : Int)) (by omega) (by omega)
                go_wp2_with fail
                refine wp_scope_next 0 rfl (fun Q a w h => wp_skip h) ?_
                go_wp2_with fail
                refine hstep.mono ?_
                rintro r w2 ⟨rfl, m2, k2⟩
                go_wp2
                go_step3
                go_wp2
                simp only [Exit.jump]
                go_wp2
                go_roundw
                case rel => exact ⟨n, i + r1, r3, r1, 0, r4, rfl, rfl, by go_num, by omega, HR.out, m2, kr.trans k2⟩
                case measure => simp [intOf]; omega
              · rw [if_neg hb] at hR
                cases hR
            · rw [if_neg hr2] at hR
              simp only [Option.some.injEq, Prod.mk.injEq] at hR
              obtain ⟨rfl, rfl, rfl, rfl⟩ := hR
              have q3 : (r2 != 0) = true := by simpa using hr2
              go_wp2_with fail
              refine wp_scope_next 0 rfl (fun Q a w h => wp_skip h) ?_
              go_wp2_with fail
              refine hstep.mono ?_
              rintro r w2 ⟨rfl, m2, k2⟩
              go_wp2
              simp only [Exit.jump]
              go_wp2
              go_ret2
              exact ⟨rfl, m2, kr.trans k2⟩
end Go.Proofs.Qxb6500470a
