import Derived.Test.Qxb6500470aTw3
namespace Go.Proofs.Qxb6500470a
open Go.RowKit
/-- A step's answer, and the machine behind it. -/
def doC (K : Int) (s : List UInt8) (acc : Int) (st : List TV) : (Int × Int × List UInt8) × Int × List TV :=
  if K = 1 then (((runAllT s acc st).2.1, ((runAllT s acc st).1 : Int), []), (runAllT s acc st).2.2.1, (runAllT s acc st).2.2.2)
  else if K = 2 then ((0, 0, macTx acc st), acc, st) else if K = 3 then ((0, 1, []), acc, st) else ((0, 0, []), acc, st)
section
variable {L : Nat → Prop} {w : World} {m1 p1 m2 : Nat} {acc acc2 : Int} {st st2 : List TV}
theorem do_any (h : TwoC L w m1 p1 m2 acc st acc2 st2) (K a b c : Int) (s : List UInt8) (t : ByteArray) (hs : s.length < 9223372036854775808) (r : (Int × Int × List UInt8) × Int × List TV) (hr : doC K s acc st = r) :
    Calls Try.prog 52 #[ptr m1, .agg #[I K, I a, I b, I c, S s, .string t]] w fun e w' => e = .returned (.agg #[I r.1.1, I r.1.2.1, I 0, S r.1.2.2]) ∧ TwoC L w' m1 p1 m2 r.2.1 r.2.2 acc2 st2 ∧ Kept L w w' := by
  subst hr
  by_cases k1 : K = 1
  · subst k1
    exact do_run h a b c s t hs _ rfl
  · by_cases k2 : K = 2
    · subst k2
      exact do_show h a b c s t
    · by_cases k3 : K = 3
      · subst k3
        exact do_check h a b c s t
      · have e : doC K s acc st = ((0, 0, []), acc, st) := by unfold doC; rw [if_neg k1, if_neg k2, if_neg k3]
        rw [e]
        exact do_other h a b c s t K k1 k2 k3
theorem doM_any (h : TwoC L w m1 p1 m2 acc st acc2 st2) (K a b c : Int) (s : List UInt8) (t : ByteArray) (hs : s.length < 9223372036854775808) (r : (Int × Int × List UInt8) × Int × List TV) (hr : doC K s acc2 st2 = r) :
    Calls Try.prog 53 #[ptr m2, .agg #[I K, I a, I b, I c, S s, .string t]] w fun e w' => e = .returned (.agg #[I r.1.1, I r.1.2.1, I 0, S r.1.2.2]) ∧ TwoC L w' m1 p1 m2 acc st r.2.1 r.2.2 ∧ Kept L w w' := by
  subst hr
  by_cases k1 : K = 1
  · subst k1
    exact doM_run h a b c s t hs _ rfl
  · by_cases k2 : K = 2
    · subst k2
      exact doM_show h a b c s t
    · by_cases k3 : K = 3
      · subst k3
        exact doM_check h a b c s t
      · have e : doC K s acc2 st2 = ((0, 0, []), acc2, st2) := by unfold doC; rw [if_neg k1, if_neg k2, if_neg k3]
        rw [e]
        exact doM_other h a b c s t K k1 k2 k3
set_option maxRecDepth 100000 in
set_option maxHeartbeats 2000000 in
theorem seen_w (h : TwoC L w m1 p1 m2 acc st acc st) : Calls Try.prog 51 #[ptr m1, ptr m2] w fun e w' => e = .returned (.bool true) ∧ TwoC L w' m1 p1 m2 acc st acc st ∧ Kept L w w' := by
  go_enter Try.func51, Try.ntmps51
  go_wp2_with fail
  refine (two_show h).mono ?_
  rintro e w1 ⟨rfl, h1, k1⟩
  go_wp2_with fail
  refine (two_showM h1).mono ?_
  rintro e w2 ⟨rfl, h2, k2⟩
  go_wp2_with fail
  refine (two_check h2).mono ?_
  rintro e w3 ⟨rfl, h3, k3⟩
  go_wp2_with fail
  refine (two_checkM h3).mono ?_
  rintro e w4 ⟨rfl, h4, k4⟩
  go_wp2
  go_ret
  exact ⟨rfl, h4, ((k1.trans k2).trans k3).trans k4⟩
end
/-- The law's building. -/
theorem TwoC.make {w w2 w3 : World} {m1 p1 m2 p2 : Nat} {a1 : Option Addr} (x : MO w2 m1 p1 a1 0 []) (hx : ∀ k, k < w.heap.size → ¬ ownM m1 p1 a1 k) (b2 : Below w.heap.size w w2) (y : MacM (· < w2.heap.size) w3 m2 p2 0 []) (b3 : Below w2.heap.size w2 w3) : TwoC (· < w.heap.size) w3 m1 p1 m2 0 [] 0 [] := by
  obtain ⟨a2, y', hd⟩ := y.mn
  have z2 := b2.size
  have z3 := b3.size
  exact ⟨a1, p2, a2, x.later b3, y', fun k hk => hd k (x.lt k hk), fun k hk => ⟨hx k hk, hd k (Nat.lt_of_lt_of_le hk z2)⟩, fun k hk => by omega⟩
theorem TwoC.box {L : Nat → Prop} {w : World} {m1 p1 m2 : Nat} {acc acc2 : Int} {st st2 : List TV} (h : TwoC L w m1 p1 m2 acc st acc2 st2) (o : Obj) : TwoC (fun k => L k ∨ k = w.heap.size) (w.alloc o) m1 p1 m2 acc st acc2 st2 :=
  (h.grow ((Below.refl _ _).alloc (Nat.le_refl _) o)).weak (fun k hk => hk.elim .inl (fun e => .inr ⟨by omega, by simp; omega⟩))
end Go.Proofs.Qxb6500470a
