import Derived.Test.Qxb6500470aXt2
namespace Go.Proofs.Qxb6500470a
open Go.RowKit
/-- The stack at p, a plug-in word at work, holds the values st, the top first. -/
def SRepQ (K : Nat → Prop) (w : World) (p : Nat) (st : List TV) : Prop := ∃ vs, StQ K w p vs.reverse ∧ RS K w st vs
/-- What is thrown where the answer is k. -/
def Pan (k : Int) (v : Value) : Prop := v = .iface 26 (I k) ∨ (k = 5 ∧ ∃ t u, v = .iface t u ∧ (t = 15 ∨ t = 10))
/-- A plug-in word's end: the new stack, or a panic. -/
def Out (K : Nat → Prop) (w : World) (p : Nat) (r : Except Int (List TV)) (e : Ending) (w' : World) : Prop :=
  match r with
  | .ok st => e = .returned (.tuple #[]) ∧ ∃ K' : Nat → Prop, (∀ k, K k → K' k) ∧ (∀ k, K' k → K k ∨ w.heap.size ≤ k) ∧ SRepQ K' w' p st ∧ Kept K w w'
  | .error k => ∃ v, e = .panicked [{ v := v, recovered := false }] ∧ Pan k v ∧ Kept K w w' ∧ ∃ x, Blk w' p #[x, .bool true] 62
theorem StQ.blk {K : Nat → Prop} {w : World} {p : Nat} {vs : List Value} (h : StQ K w p vs) : ∃ x, Blk w p #[x, .bool true] 62 := by
  obtain ⟨a, cap, h⟩ := h
  exact ⟨_, h.head⟩
/-- The run time's panic of a failing bare assertion, as an Out. -/
theorem Out.ta {K : Nat → Prop} {w w1 : World} {p : Nat} {vs : List Value} (h : StQ K w1 p vs) (kk : Kept K w w1) (o : Obj) :
    Out K w p (.error 5) (.panicked [{ v := .iface 15 (ptr w1.heap.size), recovered := false }]) (w1.alloc o) := by
  obtain ⟨x, hb⟩ := h.blk
  exact ⟨_, rfl, .inr ⟨rfl, _, _, rfl, .inl rfl⟩, kk.alloc (fun k hk => by have := h.ks k hk; omega) o, x, hb.old o⟩
/-- '.. a b' becomes '.. a/b'. -/
def quotT : List TV → Except Int (List TV)
  | .int b :: .int a :: r => if b = 0 then .error 5 else .ok (.int (wrap64 (a.tdiv b)) :: r)
  | _ => .error 5
def TV.isInt : TV → Bool
  | .int _ => true
  | _ => false
theorem RV.other {K : Nat → Prop} {w : World} {x : TV} {v : Value} (h : RV K w x v) (hx : x.isInt = false) : ∃ t u, v = .iface t u ∧ t ≠ 80 := by
  cases x with
  | int n => cases hx
  | str s => exact ⟨_, _, h, by decide⟩
  | nil => exact ⟨_, _, h, by decide⟩
  | cons a b => obtain ⟨q, hv, tp, e, -⟩ := h; exact ⟨_, _, e, by decide⟩
  | pair a b => obtain ⟨q, hv, tp, e, -⟩ := h; exact ⟨_, _, e, by decide⟩
set_option maxHeartbeats 1000000 in
theorem quot_none (K : Nat → Prop) (w : World) (p : Nat) (h : StQ K w p []) : Calls Try.prog 79 #[ptr p] w (Out K w p (.error 5)) := by
  have ht := take_none K w p h
  obtain ⟨o, ho⟩ := ta_nil_c 64
  dsimp only at ho
  go_enter Try.func79, Try.ntmps79
  go_wp2_with fail
  refine ht.mono ?_
  rintro e w1 ⟨rfl, rfl⟩
  go_wp2
  exact ⟨rfl, Out.ta h (Kept.refl _ _) o⟩
set_option maxHeartbeats 1000000 in
theorem quot_oth (K : Nat → Prop) (w : World) (p : Nat) (us : List Value) (t : TypeId) (u : Value) (ht80 : t ≠ 80) (h : StQ K w p (us ++ [.iface t u])) : Calls Try.prog 79 #[ptr p] w (Out K w p (.error 5)) := by
  have ht := take_some K w p _ _ _ h
  obtain ⟨o, ho⟩ := ta_other_c 64 t u ht80
  dsimp only at ho
  go_enter Try.func79, Try.ntmps79
  go_wp2_with fail
  refine ht.mono ?_
  rintro e w1 ⟨rfl, s1, k1⟩
  go_wp2
  exact ⟨rfl, Out.ta s1 k1 o⟩
set_option maxHeartbeats 1000000 in
theorem quot_one (K : Nat → Prop) (w : World) (p : Nat) (b : Int) (h : StQ K w p ([] ++ [VI b])) : Calls Try.prog 79 #[ptr p] w (Out K w p (.error 5)) := by
  have ht := take_some K w p _ _ _ h
  obtain ⟨o, ho⟩ := ta_nil_c 64
  dsimp only at ho
  have ta : ∀ w, (Instr.typeAssert (VI b) 64 80 false).run Try.prog w = .ok (I b) w := fun _ => by kernel_rfl
  go_enter Try.func79, Try.ntmps79
  go_wp2_with fail
  refine ht.mono ?_
  rintro e w1 ⟨rfl, s1, k1⟩
  go_wp2_with fail
  refine (take_none K w1 p s1).mono ?_
  rintro e w2 ⟨rfl, rfl⟩
  go_wp2
  exact ⟨rfl, Out.ta s1 k1 o⟩
set_option maxHeartbeats 1000000 in
theorem quot_oth2 (K : Nat → Prop) (w : World) (p : Nat) (us : List Value) (t : TypeId) (u : Value) (b : Int) (ht80 : t ≠ 80) (h : StQ K w p ((us ++ [.iface t u]) ++ [VI b])) : Calls Try.prog 79 #[ptr p] w (Out K w p (.error 5)) := by
  have ht := take_some K w p _ _ _ h
  obtain ⟨o, ho⟩ := ta_other_c 64 t u ht80
  dsimp only at ho
  have ta : ∀ w, (Instr.typeAssert (VI b) 64 80 false).run Try.prog w = .ok (I b) w := fun _ => by kernel_rfl
  go_enter Try.func79, Try.ntmps79
  go_wp2_with fail
  refine ht.mono ?_
  rintro e w1 ⟨rfl, s1, k1⟩
  go_wp2_with fail
  refine (take_some K w1 p _ _ _ s1).mono ?_
  rintro e w2 ⟨rfl, s2, k2⟩
  go_wp2
  exact ⟨rfl, Out.ta s2 (k1.trans k2) o⟩
set_option maxHeartbeats 1000000 in
theorem quot_zero (K : Nat → Prop) (w : World) (p : Nat) (us : List Value) (a : Int) (h : StQ K w p ((us ++ [VI a]) ++ [VI 0])) : Calls Try.prog 79 #[ptr p] w (Out K w p (.error 5)) := by
  have ht := take_some K w p _ _ _ h
  have ta : ∀ b w, (Instr.typeAssert (VI b) 64 80 false).run Try.prog w = .ok (I b) w := fun _ _ => by kernel_rfl
  go_enter Try.func79, Try.ntmps79
  go_wp2_with fail
  refine ht.mono ?_
  rintro e w1 ⟨rfl, s1, k1⟩
  go_wp2_with fail
  refine (take_some K w1 p _ _ _ s1).mono ?_
  rintro e w2 ⟨rfl, s2, k2⟩
  go_wp2
  exact ⟨rfl, _, rfl, .inr ⟨rfl, _, _, rfl, .inr rfl⟩, k1.trans k2, s2.blk⟩
set_option maxHeartbeats 1000000 in
theorem quot_ok (K : Nat → Prop) (w : World) (p : Nat) (us : List Value) (a b : Int) (hb : ¬ b = 0) (h : StQ K w p ((us ++ [VI a]) ++ [VI b])) : Calls Try.prog 79 #[ptr p] w fun e w' => e = .returned (.tuple #[]) ∧ StQ K w' p (us ++ [VI (wrap64 (a.tdiv b))]) ∧ Kept K w w' := by
  have ht := take_some K w p _ _ _ h
  have ta : ∀ b w, (Instr.typeAssert (VI b) 64 80 false).run Try.prog w = .ok (I b) w := fun _ _ => by kernel_rfl
  have hl := h.le
  go_enter Try.func79, Try.ntmps79
  go_wp2_with fail
  refine ht.mono ?_
  rintro e w1 ⟨rfl, s1, k1⟩
  go_wp2_with fail
  refine (take_some K w1 p _ _ _ s1).mono ?_
  rintro e w2 ⟨rfl, s2, k2⟩
  go_wp2_with fail
  refine (give_ok K w2 p _ _ _ s2 (by simp at hl; omega)).mono ?_
  rintro e w3 ⟨rfl, s3, k3⟩
  go_wp2
  go_end0
  exact ⟨rfl, by simpa [wrap64] using s3, (k1.trans k2).trans k3⟩
theorem quot_any (K : Nat → Prop) (w : World) (p : Nat) (st : List TV) (h : SRepQ K w p st) : Calls Try.prog 79 #[ptr p] w (Out K w p (quotT st)) := by
  obtain ⟨vs, h, r⟩ := h
  cases st with
  | nil => rw [r.nil] at h; exact quot_none K w p h
  | cons x st =>
    obtain ⟨v, us, rfl, rx, r1⟩ := r.cons
    rw [List.reverse_cons] at h
    cases hx : x.isInt with
    | false =>
      obtain ⟨t, u, rfl, h80⟩ := rx.other hx
      have e : quotT (x :: st) = .error 5 := by cases x <;> first | rfl | cases hx
      rw [e]
      exact quot_oth K w p _ t u h80 h
    | true =>
      cases x with
      | int b =>
        obtain ⟨rfl, b1, b2⟩ := rx
        cases st with
        | nil => rw [r1.nil] at h; exact quot_one K w p b h
        | cons y st =>
          obtain ⟨v, us, rfl, ry, r2⟩ := r1.cons
          rw [List.reverse_cons] at h
          cases hy : y.isInt with
          | false =>
            obtain ⟨t, u, rfl, h80⟩ := ry.other hy
            have e : quotT (.int b :: y :: st) = .error 5 := by cases y <;> first | rfl | cases hy
            rw [e]
            exact quot_oth2 K w p _ t u b h80 h
          | true =>
            cases y with
            | int a =>
              obtain ⟨rfl, a1, a2⟩ := ry
              by_cases hb : b = 0
              · subst hb
                exact quot_zero K w p _ a h
              · have e : quotT (.int b :: .int a :: st) = .ok (.int (wrap64 (a.tdiv b)) :: st) := by simp [quotT, hb]
                rw [e]
                refine (quot_ok K w p _ a b hb h).mono ?_
                rintro e w' ⟨rfl, s, kk⟩
                refine ⟨rfl, K, fun _ h => h, fun _ h => .inl h, ⟨_ :: us, by rw [List.reverse_cons]; exact s, ⟨rfl, (w64_bounds _).1, (w64_bounds _).2⟩, r2.kept kk⟩, kk⟩
            | _ => cases hy
      | _ => cases hx
end Go.Proofs.Qxb6500470a
