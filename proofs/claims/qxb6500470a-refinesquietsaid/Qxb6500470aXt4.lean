import Derived.Test.Qxb6500470aXt3
namespace Go.Proofs.Qxb6500470a
open Go.RowKit
/-- '.. a' becomes '.. a+a'. -/
def doubleT : List TV → Except Int (List TV)
  | [] => .error 5
  | x :: r => match plusT x x with | .ok y => .ok (y :: r) | .error k => .error k
set_option maxHeartbeats 1000000 in
theorem double_none (K : Nat → Prop) (w : World) (p : Nat) (h : StQ K w p []) : Calls Try.prog 76 #[ptr p] w (Out K w p (.error 5)) := by
  have ht := peek_noneQ K w p _ h 0 (by simp) (by omega)
  obtain ⟨o, ho⟩ := ta_nil_i (xT := 64) Try.underlying105
  dsimp only at ho
  go_enter Try.func76, Try.ntmps76
  go_wp2_with fail
  refine ht.mono ?_
  rintro e w1 ⟨rfl, rfl⟩
  go_wp2
  exact ⟨rfl, Out.ta h (Kept.refl _ _) o⟩
set_option maxHeartbeats 1000000 in
theorem double_lack (K : Nat → Prop) (w : World) (p : Nat) (us : List Value) (ad : Option Addr) (h : StQ K w p (us ++ [.iface 89 (.pointer ad)])) : Calls Try.prog 76 #[ptr p] w (Out K w p (.error 5)) := by
  have ht := peek_someQ K w p _ h 0 (by simp)
  rw [getD_last] at ht
  obtain ⟨o, ho⟩ := ta_lack_i (t := 89) (xT := 64) Try.underlying105 (by kernel_rfl) (.pointer ad)
  dsimp only at ho
  go_enter Try.func76, Try.ntmps76
  go_wp2_with fail
  refine ht.mono ?_
  rintro e w1 ⟨rfl, rfl⟩
  go_wp2
  exact ⟨rfl, Out.ta h (Kept.refl _ _) o⟩
set_option maxRecDepth 100000 in
set_option maxHeartbeats 4000000 in
theorem double_ok (K : Nat → Prop) (w : World) (p : Nat) (us : List Value) (t : TypeId) (u : Value) (fA : FuncId) (r : Value) (x : TV) (h : StQ K w p (us ++ [.iface t u]))
    (ta : ∀ w, (Instr.typeAssert (.iface t u) 64 105 true).run Try.prog w = .ok (.tuple #[.iface t u, .bool true]) w)
    (tb : ∀ w, (Instr.typeAssert (.iface t u) 64 105 false).run Try.prog w = .ok (.iface t u) w)
    (hm : ∀ W, (method 260 t u "Add").run Try.prog W = .ok (fA, r) W) (hcf : ∀ args W, (callFunc fA args).run Try.prog W = .ok (.enter fA args) W)
    (hA : Calls Try.prog fA #[r, .iface t u] w fun e w' => ∃ v, e = .returned (.tuple #[v, I 0]) ∧ NewV K w x v w' ∧ Below w.heap.size w w') (hlen : (text x).length ≤ 30) :
    Calls Try.prog 76 #[ptr p] w fun e w' => e = .returned (.tuple #[]) ∧ ∃ K' v, (∀ k, K k → K' k) ∧ (∀ k, K' k → K k ∨ w.heap.size ≤ k) ∧ RV K' w' x v ∧ StQ K' w' p (us ++ [v]) ∧ Kept K w w' := by
  have ht := peek_someQ K w p _ h 0 (by simp)
  rw [getD_last] at ht
  have h5 := h.le
  have ks := h.ks
  go_enter Try.func76, Try.ntmps76
  go_wp2_with fail
  refine ht.mono ?_
  rintro e w1 ⟨rfl, rfl⟩
  clear ht
  go_wp2_with (refine hA.mono ?_; rintro e w2 ⟨v, rfl, nv, b1⟩)
  have hz := b1.size
  obtain ⟨K', m, n, rv⟩ := nv
  obtain ⟨tv, uv, rfl⟩ := rv.iface
  have ks' := NewV.ks ks hz n
  have hF := fits_any x K' w2 _ rv ks' (by omega)
  rw [decide_eq_true hlen] at hF
  refine hF.mono ?_
  rintro e w3 ⟨rfl, b2⟩
  go_wp2_with fail
  refine (must_ok w3).mono ?_
  rintro e w4 ⟨rfl, rfl⟩
  have bb := b1.trans (b2.mono hz)
  have S3 : StQ K' w4 p _ := h.growK bb (fun k hk => by
    rcases n k hk with e | e
    · exact .inl e
    · exact .inr ⟨e.1, Nat.lt_of_lt_of_le e.2 b2.size⟩)
  go_wp2_with fail
  refine (swap_anyQ K' w4 p _ S3 us.length 1 (by simp) (by simp at h5; omega) _ _).mono ?_
  rintro e w5 ⟨rfl, s5, k5⟩
  rw [take_but1] at s5
  go_wp2
  go_end0
  refine ⟨rfl, K', _, m, fun k hk => ?_, (rv.kept (Kept.of_below b2 ks')).kept k5, s5, (Kept.of_below bb ks).trans (k5.weak m)⟩
  rcases n k hk with e | e
  · exact .inl e
  · exact .inr e.1
set_option maxRecDepth 100000 in
set_option maxHeartbeats 4000000 in
theorem double_big (K : Nat → Prop) (w : World) (p : Nat) (us : List Value) (t : TypeId) (u : Value) (fA : FuncId) (r : Value) (x : TV) (h : StQ K w p (us ++ [.iface t u]))
    (ta : ∀ w, (Instr.typeAssert (.iface t u) 64 105 true).run Try.prog w = .ok (.tuple #[.iface t u, .bool true]) w)
    (tb : ∀ w, (Instr.typeAssert (.iface t u) 64 105 false).run Try.prog w = .ok (.iface t u) w)
    (hm : ∀ W, (method 260 t u "Add").run Try.prog W = .ok (fA, r) W) (hcf : ∀ args W, (callFunc fA args).run Try.prog W = .ok (.enter fA args) W)
    (hA : Calls Try.prog fA #[r, .iface t u] w fun e w' => ∃ v, e = .returned (.tuple #[v, I 0]) ∧ NewV K w x v w' ∧ Below w.heap.size w w') (hl : (text x).length ≤ 1000) (hlen : ¬ (text x).length ≤ 30) :
    Calls Try.prog 76 #[ptr p] w (Out K w p (.error 7)) := by
  have ht := peek_someQ K w p _ h 0 (by simp)
  rw [getD_last] at ht
  have ks := h.ks
  go_enter Try.func76, Try.ntmps76
  go_wp2_with fail
  refine ht.mono ?_
  rintro e w1 ⟨rfl, rfl⟩
  clear ht
  go_wp2_with (refine hA.mono ?_; rintro e w2 ⟨v, rfl, nv, b1⟩)
  have hz := b1.size
  obtain ⟨K', m, n, rv⟩ := nv
  obtain ⟨tv, uv, rfl⟩ := rv.iface
  have ks' := NewV.ks ks hz n
  have hF := fits_any x K' w2 _ rv ks' hl
  rw [decide_eq_false hlen] at hF
  refine hF.mono ?_
  rintro e w3 ⟨rfl, b2⟩
  have bb := b1.trans (b2.mono hz)
  have S3 := h.later bb
  go_wp2_with fail
  refine (must_not 7 (by decide) w3).mono ?_
  rintro e w4 ⟨rfl, rfl⟩
  go_wp2
  exact ⟨rfl, _, rfl, .inl rfl, Kept.of_below bb ks, S3.blk⟩
theorem double_of (K : Nat → Prop) (w : World) (p : Nat) (us : List Value) (st : List TV) (a x : TV) (t : TypeId) (u : Value) (fA : FuncId) (r : Value) (h : StQ K w p (us.reverse ++ [.iface t u])) (rs : RS K w st us) (hx : rawAdd a a = .ok x) (la : (text a).length ≤ 30)
    (ta : ∀ w, (Instr.typeAssert (.iface t u) 64 105 true).run Try.prog w = .ok (.tuple #[.iface t u, .bool true]) w)
    (tb : ∀ w, (Instr.typeAssert (.iface t u) 64 105 false).run Try.prog w = .ok (.iface t u) w)
    (hm : ∀ W, (method 260 t u "Add").run Try.prog W = .ok (fA, r) W) (hcf : ∀ args W, (callFunc fA args).run Try.prog W = .ok (.enter fA args) W)
    (hA : Calls Try.prog fA #[r, .iface t u] w fun e w' => ∃ v, e = .returned (.tuple #[v, I 0]) ∧ NewV K w x v w' ∧ Below w.heap.size w w') :
    Calls Try.prog 76 #[ptr p] w (Out K w p (doubleT (a :: st))) := by
  by_cases hl : (text x).length ≤ 30
  · have e : doubleT (a :: st) = .ok (x :: st) := by simp [doubleT, plusT, hx, hl]
    rw [e]
    refine (double_ok K w p us.reverse t u fA r x h ta tb hm hcf hA hl).mono ?_
    rintro e w' ⟨rfl, K', v, m, n, rv, s, kk⟩
    exact ⟨rfl, K', m, n, ⟨v :: us, by rw [List.reverse_cons]; exact s, rv, (rs.kept kk).mono m⟩, kk⟩
  · have e : doubleT (a :: st) = .error 7 := by simp [doubleT, plusT, hx, hl]
    rw [e]
    exact double_big K w p us.reverse t u fA r x h ta tb hm hcf hA (raw_len a a x hx la la) hl
theorem double_any (K : Nat → Prop) (w : World) (p : Nat) (st : List TV) (h : SRepQ K w p st) (hl : ∀ x ∈ st, (text x).length ≤ 30) : Calls Try.prog 76 #[ptr p] w (Out K w p (doubleT st)) := by
  have eI : ∀ args W, (callFunc 140 args).run Try.prog W = .ok (.enter 140 args) W := enters_of Try.func140 (by kernel_rfl) rfl
  have eS : ∀ args W, (callFunc 148 args).run Try.prog W = .ok (.enter 148 args) W := enters_of Try.func148 (by kernel_rfl) rfl
  have eL : ∀ args W, (callFunc 135 args).run Try.prog W = .ok (.enter 135 args) W := enters_of Try.func135 (by kernel_rfl) rfl
  obtain ⟨vs, h, r⟩ := h
  cases st with
  | nil => rw [r.nil] at h; exact double_none K w p h
  | cons x st =>
    obtain ⟨v, us, rfl, rx, rs⟩ := r.cons
    rw [List.reverse_cons] at h
    have la := hl x (by simp)
    have ks := h.ks
    cases x with
    | int n =>
      obtain ⟨rfl, -⟩ := rx
      exact double_of K w p us st _ _ _ _ _ _ h rs rfl la (hasI n) (fun _ => by kernel_rfl) (mAddI n) eI (intAdd' K n n w)
    | str z =>
      obtain rfl : v = VS z := rx
      have l1 := str_text z
      exact double_of K w p us st _ _ _ _ _ _ h rs rfl la (hasS z) (fun _ => by kernel_rfl) (mAddS (str z)) eS (strAdd' K z z (by omega) (by omega) w)
    | nil =>
      obtain rfl : v = VL := rx
      exact double_of K w p us st _ .nil _ _ _ _ h rs rfl la (hasL none) (fun _ => by kernel_rfl) (mAddL none) eL (listAdd' K w none none .nil .nil rfl rfl ks la)
    | cons c d =>
      have rx' := rx
      obtain ⟨q', hv, tq, rfl, -⟩ := rx'
      exact double_of K w p us st _ _ _ _ _ _ h rs rfl la (hasL _) (fun _ => by kernel_rfl) (mAddL _) eL (listAdd' K w _ _ _ _ rx rx ks la)
    | pair c d =>
      obtain ⟨q', hv, tq, rfl, -⟩ := rx
      exact double_lack K w p us.reverse _ h
end Go.Proofs.Qxb6500470a
