import Derived.Test.Qxb6500470aTv2
namespace Go.Proofs.Qxb6500470a
open Go.RowKit
/-- The Go values vs are the values xs. -/
def RS (K : Nat → Prop) (w : World) : List TV → List Value → Prop
  | [], [] => True
  | x :: xs, v :: vs => RV K w x v ∧ RS K w xs vs
  | _, _ => False
theorem RS.kept {K : Nat → Prop} {w w' : World} (u : Kept K w w') : ∀ {xs : List TV} {vs : List Value}, RS K w xs vs → RS K w' xs vs
  | [], [], h => h
  | _ :: _, _ :: _, h => ⟨h.1.kept u, RS.kept u h.2⟩
  | [], _ :: _, h => h
  | _ :: _, [], h => h
theorem RS.mono {K L : Nat → Prop} {w : World} (u : ∀ k, K k → L k) : ∀ {xs : List TV} {vs : List Value}, RS K w xs vs → RS L w xs vs
  | [], [], h => h
  | _ :: _, _ :: _, h => ⟨h.1.mono u, RS.mono u h.2⟩
  | [], _ :: _, h => h
  | _ :: _, [], h => h
theorem RS.len {K : Nat → Prop} {w : World} : ∀ {xs : List TV} {vs : List Value}, RS K w xs vs → vs.length = xs.length
  | [], [], _ => rfl
  | _ :: _, _ :: _, h => by simp [RS.len h.2]
theorem RS.cons {K : Nat → Prop} {w : World} {x : TV} {xs : List TV} {vs : List Value} (h : RS K w (x :: xs) vs) : ∃ v us, vs = v :: us ∧ RV K w x v ∧ RS K w xs us := by
  cases vs with
  | nil => exact h.elim
  | cons v us => exact ⟨v, us, rfl, h.1, h.2⟩
theorem RS.nil {K : Nat → Prop} {w : World} {vs : List Value} (h : RS K w [] vs) : vs = [] := by
  cases vs with
  | nil => rfl
  | cons v us => exact h.elim
/-- The stack at p holds the values st, the top first. -/
def SRep (K : Nat → Prop) (w : World) (p : Nat) (st : List TV) : Prop := ∃ vs, StR K w p vs.reverse ∧ RS K w st vs
/-- Behind a call on it: the kept cells have grown by new ones alone. -/
def Turn (K : Nat → Prop) (w : World) (p : Nat) (st : List TV) (w' : World) : Prop := ∃ K' : Nat → Prop, (∀ k, K k → K' k) ∧ (∀ k, K' k → K k ∨ w.heap.size ≤ k) ∧ SRep K' w' p st ∧ Kept K w w'
theorem StR.ks {K : Nat → Prop} {w : World} {p : Nat} {vs : List Value} (h : StR K w p vs) : ∀ k, K k → k < w.heap.size := by obtain ⟨a, c, h⟩ := h; exact h.ks
theorem StR.le {K : Nat → Prop} {w : World} {p : Nat} {vs : List Value} (h : StR K w p vs) : vs.length ≤ 5 := by obtain ⟨a, c, h⟩ := h; exact h.le
theorem SRep.ks {K : Nat → Prop} {w : World} {p : Nat} {st : List TV} (h : SRep K w p st) : ∀ k, K k → k < w.heap.size := by obtain ⟨vs, h, -⟩ := h; exact h.ks
theorem SRep.le {K : Nat → Prop} {w : World} {p : Nat} {st : List TV} (h : SRep K w p st) : st.length ≤ 5 := by
  obtain ⟨vs, h, r⟩ := h
  have := h.le
  have := r.len
  simp at *
  omega
theorem SRep.later {K : Nat → Prop} {w w' : World} {p : Nat} {st : List TV} (h : SRep K w p st) (b : Below w.heap.size w w') : SRep K w' p st := by
  have ks := h.ks
  obtain ⟨vs, h, r⟩ := h
  exact ⟨vs, h.later b, r.kept (Kept.of_below b ks)⟩
theorem Turn.of_below {K : Nat → Prop} {w w' : World} {p : Nat} {st : List TV} (h : SRep K w p st) (b : Below w.heap.size w w') : Turn K w p st w' := ⟨K, fun _ h => h, fun _ h => .inl h, h.later b, Kept.of_below b h.ks⟩
theorem Turn.refl {K : Nat → Prop} {w : World} {p : Nat} {st : List TV} (h : SRep K w p st) : Turn K w p st w := .of_below h (Below.refl _ _)
theorem Turn.trans {K K1 : Nat → Prop} {w w1 w2 : World} {p : Nat} {st : List TV} (m : ∀ k, K k → K1 k) (n : ∀ k, K1 k → K k ∨ w.heap.size ≤ k) (kk : Kept K w w1) (t : Turn K1 w1 p st w2) : Turn K w p st w2 := by
  obtain ⟨K2, m2, n2, s2, k2⟩ := t
  refine ⟨K2, fun k h => m2 k (m k h), fun k h => ?_, s2, kk.trans (k2.weak m)⟩
  rcases n2 k h with e | e
  · exact n k e
  · exact .inr (by have := kk.size; omega)
theorem Turn.mk1 {K K' : Nat → Prop} {w w' : World} {p : Nat} {x : TV} {r : List TV} {us : List Value} {nv : Value} (s : StR K' w' p (us.reverse ++ [nv])) (rx : RV K' w' x nv) (rr : RS K w r us) (kk : Kept K w w') (m : ∀ k, K k → K' k) (n : ∀ k, K' k → K k ∨ w.heap.size ≤ k) : Turn K w p (x :: r) w' :=
  ⟨K', m, n, ⟨nv :: us, by simpa using s, ⟨rx, (rr.kept kk).mono m⟩⟩, kk⟩
theorem Turn.mkS {K : Nat → Prop} {w w' : World} {p : Nat} {x : TV} {r : List TV} {us : List Value} {nv : Value} (s : StR K w' p (us.reverse ++ [nv])) (rx : RV K w' x nv) (rr : RS K w r us) (kk : Kept K w w') : Turn K w p (x :: r) w' := .mk1 s rx rr kk (fun _ h => h) (fun _ h => .inl h)
theorem StR.grow {K : Nat → Prop} {w w' : World} {p : Nat} {vs : List Value} (h : StR K w p vs) (b : Below w.heap.size w w') {q : Nat} (h1 : w.heap.size ≤ q) (h2 : q < w'.heap.size) : StR (fun k => K k ∨ k = q) w' p vs := by
  obtain ⟨a, cap, h⟩ := h
  obtain ⟨lp, lg⟩ := h.lt
  have h' : StA K w' p a cap vs := h.kept (L := (· < w.heap.size)) ⟨b.os, b.tape, b.output, b.size, fun k hk => b.block k hk⟩ lp lg
  refine ⟨a, cap, h'.head, h'.own, h'.far, ?_, ?_, ?_, h'.le⟩
  · rintro (e | e)
    · exact h'.kp e
    · omega
  · rintro g hg (e | e)
    · exact h'.ka g hg e
    · have := lg g hg; omega
  · rintro k (e | e)
    · exact h'.ks k e
    · omega
end Go.Proofs.Qxb6500470a
