import Derived.Test.Qxb6500469aWm6
import Derived.Test.Qxb6500469aWd9a
import Derived.Test.Qxb6500469aWd9b
import Derived.Test.Qxb6500469aWd9c
import Derived.Test.Qxb6500469aWm9a
import Derived.Test.Qxb6500469aWm9b
import Derived.Test.Qxb6500469aWm9c
namespace Go.Proofs.Qxb6500469a
open Go.RowKit

abbrev AnsT : Type := Int × Int × Int × List UInt8
abbrev BrdT : Type := Nat × Int × Int × Int
/-- What a step answers, and the acting board behind it; v: the other's set. -/
def actW (K A B C : Int) (u : Nat) (a p q : Int) (v : Nat) : AnsT × BrdT :=
  if K = 3 then (if 0 ≤ A ∧ A < 64 then ((0, 0, 0, []), (u ||| 2 ^ A.toNat, a, p, q)) else ((2, 0, 0, []), (u, a, p, q)))
  else if K = 4 then (if 0 ≤ A ∧ A < 64 then ((0, 0, 0, []), (rmB u A.toNat, a, p, q)) else ((2, 0, 0, []), (u, a, p, q)))
  else if K = 5 then (if 0 ≤ A ∧ A < 64 then ((0, 0, 0, []), (u ^^^ 2 ^ A.toNat, a, p, q)) else ((2, 0, 0, []), (u, a, p, q)))
  else if K = 6 then ((0, b2i (hasB u A), 0, []), (u, a, p, q))
  else if K = 7 then (if A = 0 then ((0, 0, 0, []), (u ||| u, a, p, q)) else if A = 1 then ((0, 0, 0, []), (u ||| v, a, p, q)) else ((3, 0, 0, []), (u, a, p, q)))
  else if K = 8 then (if A = 0 then ((0, 0, 0, []), (u &&& u, a, p, q)) else if A = 1 then ((0, 0, 0, []), (u &&& v, a, p, q)) else ((3, 0, 0, []), (u, a, p, q)))
  else if K = 9 then (if A = 0 then ((0, 0, 0, []), (u &&& (18446744073709551615 - u), a, p, q)) else if A = 1 then ((0, 0, 0, []), (u &&& (18446744073709551615 - v), a, p, q)) else ((3, 0, 0, []), (u, a, p, q)))
  else if K = 10 then ((0, 0, 0, []), (18446744073709551615 ^^^ u, a, p, q))
  else if K = 11 then (if A < -64 ∨ 64 < A then ((2, 0, 0, []), (u, a, p, q)) else if 0 ≤ A then ((0, 0, 0, []), (shlB u A.toNat, a, p, q)) else ((0, 0, 0, []), (shrB u (-A).toNat, a, p, q)))
  else if K = 12 then ((0, 0, 0, []), (rotB u (A % 64).toNat, a, p, q))
  else if K = 13 then ((0, (popU u : Nat), 0, []), (u, a, p, q))
  else if K = 14 then ((0, (lowN u : Nat), b2i (someB u), []), (u, a, p, q))
  else if K = 15 then ((0, (hiN u : Nat), b2i (someB u), []), (u, a, p, q))
  else if K = 16 then (((calcP A B C a p q).1, 0, 0, []), (u, (calcP A B C a p q).2))
  else if K = 17 then (((moveP A B a p q).1, 0, 0, []), (u, (moveP A B a p q).2))
  else if K = 18 then ((0, sgnI (regAt A a p q), 0, []), (u, a, p, q))
  else if K = 19 then ((0, a, p, itoa q), (u, a, p, q))
  else if K = 20 then ((0, 0, 0, []), (0, 0, 0, 0))
  else if K = 21 then ((0, 0, 0, showW u a p q), (u, a, p, q))
  else if K = 22 then ((0, 1, 0, []), (u, a, p, q))
  else ((0, 0, 0, []), (u, a, p, q))

theorem MbR.rowlt' {w : World} {b : Nat} {ad : Option Addr} {cap u : Nat} {a p q : Int} (h : MbR w b ad cap u a p q) : ∀ g, blk? ad = some g → g < w.heap.size := by
  intro g hg
  rcases h.own.2 with ⟨hv, -⟩ | ⟨g', c, cur, hv, h1, hB, h2⟩
  · simp only [Value.slice.injEq] at hv
    rw [hv.1] at hg
    cases hg
  · have e : ad = some ⟨g', 0, none⟩ := by simp only [Value.slice.injEq] at hv; exact hv.1
    rw [e] at hg
    obtain rfl : g' = g := by simpa [blk?] using hg
    exact Blk.lt (w := w) (c := cur) (t := 3) hB
def RealQ (w : World) (bm : Nat) (s : BrdT) (v : World) : Prop := BdR v bm s.1 s.2.1 s.2.2.1 s.2.2.2 ∧ Upd [bm] w v
theorem realU (bm : Nat) (s : BrdT) : ∀ a v, RealQ a bm s v → Upd [bm] a v := fun _ _ h => h.2
theorem realQ (w : World) (bm : Nat) (lm : bm < w.heap.size) (s : BrdT) : ∀ a v v', Below w.heap.size w a → w.heap.size + 2 ≤ a.heap.size → RealQ a bm s v → Upd [w.heap.size + 1] v v' → RealQ w bm s v' := by
  intro a v v' b1 _ h k
  exact ⟨h.1.upd k (by simp; omega), ((Upd.of_below b1).trans h.2).fresh k (Nat.le_succ _)⟩
def ModQ (w : World) (bm : Nat) (ad : Option Addr) (s : BrdT) (v : World) : Prop := Mod w bm ad s.1 s.2.1 s.2.2.1 s.2.2.2 v
theorem modU (bm : Nat) (ad : Option Addr) (s : BrdT) : ∀ a v, ModQ a bm ad s v → Upd [bm] a v := by
  rintro a v ⟨_, _, _, _, h⟩
  exact h
theorem modQ (w : World) (bm : Nat) (lm : bm < w.heap.size) (ad : Option Addr) (ha : ∀ g, blk? ad = some g → g < w.heap.size) (s : BrdT) : ∀ a v v', Below w.heap.size w a → w.heap.size + 2 ≤ a.heap.size → ModQ a bm ad s v → Upd [w.heap.size + 1] v v' → ModQ w bm ad s v' := by
  rintro a v v' b1 h2 ⟨ad', cap', h, hd, hu⟩ k
  have hne : ∀ g, blk? ad' = some g → g ∉ [w.heap.size + 1] := by
    intro g hg hm
    have e := List.mem_singleton.1 hm
    rcases hd with rfl | hd
    · have := ha g hg; omega
    · have := hd g hg; omega
  refine ⟨ad', cap', h.upd k (by simp; omega) hne, ?_, ((Upd.of_below b1).trans hu).fresh k (Nat.le_succ _)⟩
  rcases hd with e | e
  · exact .inl e
  · exact .inr fun g hg => by have := e g hg; omega

set_option maxHeartbeats 1000000 in
theorem do_any (w : World) (xb bm bo wi oi : Nat) (hX : Pair w xb bm bo wi oi) (u : Nat) (a p q : Int) (hm : BdR w bm u a p q) (v : Nat) (a2 p2 q2 : Int) (ho : BdR w bo v a2 p2 q2) (K A B C : Int) (s t : ByteArray) (r : AnsT × BrdT) (hr : actW K A B C u a p q v = r) :
    Calls Try.prog 19 #[.slice (some ⟨xb, 0, none⟩) 2 2, I wi, OpV K A B C s t] w fun e w' => e = .returned (AnsV r.1.1 r.1.2.1 r.1.2.2.1 r.1.2.2.2) ∧ RealQ w bm r.2 w' := by
  subst hr
  have lm := hX.lm
  have QQ := fun s => realQ w bm lm s
  have low : ∀ v, Below w.heap.size w v → RealQ w bm (u, a, p, q) v := fun v b => ⟨hm.later b, Upd.of_below b⟩
  have same : ∀ (g : Nat) (args : Array Value) (V : Value), (∀ v, BdR v bm u a p q → Calls Try.prog g args v fun e w' => e = .returned V ∧ Below v.heap.size v w') → ∀ v, Below w.heap.size w v → Calls Try.prog g args v fun e w' => e = .returned V ∧ RealQ v bm (u, a, p, q) w' := by
    intro g args V hg v bv
    refine (hg v (hm.later bv)).mono ?_
    rintro e w' ⟨rfl, b'⟩
    exact ⟨rfl, (hm.later bv).later b', Upd.of_below b'⟩
  have stay : ∀ (g : Nat) (args : Array Value) (V : Value), (∀ v, BdR v bm u a p q → Calls Try.prog g args v fun e w' => e = .returned V ∧ w' = v) → ∀ v, Below w.heap.size w v → Calls Try.prog g args v fun e w' => e = .returned V ∧ RealQ v bm (u, a, p, q) w' := by
    intro g args V hg v bv
    exact same g args V (fun v hv => (hg v hv).mono (by rintro e w' ⟨rfl, rfl⟩; exact ⟨rfl, Below.refl _ _⟩)) v bv
  unfold actW
  by_cases k3 : K = 3
  · subst k3
    rw [if_pos rfl]
    by_cases hA : 0 ≤ A ∧ A < 64
    · rw [if_pos hA]
      obtain ⟨n, rfl⟩ := Int.eq_ofNat_of_zero_le hA.1
      rw [Int.toNat_natCast]
      exact do_3 w xb bm bo wi oi hX (n : Int) B C s t _ (realU bm _) (QQ _) (fun v bv => add_ok v bm u a p q (hm.later bv) n (by omega))
    · rw [if_neg hA]
      exact do_3 w xb bm bo wi oi hX A B C s t _ (realU bm _) (QQ _) (stay _ _ _ (fun v _ => add_no v bm A hA))
  rw [if_neg k3]
  by_cases k4 : K = 4
  · subst k4
    rw [if_pos rfl]
    by_cases hA : 0 ≤ A ∧ A < 64
    · rw [if_pos hA]
      obtain ⟨n, rfl⟩ := Int.eq_ofNat_of_zero_le hA.1
      rw [Int.toNat_natCast]
      exact do_4 w xb bm bo wi oi hX (n : Int) B C s t _ (realU bm _) (QQ _) (fun v bv => remove_ok v bm u a p q (hm.later bv) n (by omega))
    · rw [if_neg hA]
      exact do_4 w xb bm bo wi oi hX A B C s t _ (realU bm _) (QQ _) (stay _ _ _ (fun v _ => remove_no v bm A hA))
  rw [if_neg k4]
  by_cases k5 : K = 5
  · subst k5
    rw [if_pos rfl]
    by_cases hA : 0 ≤ A ∧ A < 64
    · rw [if_pos hA]
      obtain ⟨n, rfl⟩ := Int.eq_ofNat_of_zero_le hA.1
      rw [Int.toNat_natCast]
      exact do_5 w xb bm bo wi oi hX (n : Int) B C s t _ (realU bm _) (QQ _) (fun v bv => toggle_ok v bm u a p q (hm.later bv) n (by omega))
    · rw [if_neg hA]
      exact do_5 w xb bm bo wi oi hX A B C s t _ (realU bm _) (QQ _) (stay _ _ _ (fun v _ => toggle_no v bm A hA))
  rw [if_neg k5]
  by_cases k6 : K = 6
  · subst k6
    rw [if_pos rfl]
    exact do_6 w xb bm bo wi oi hX A B C s t _ (realU bm _) (QQ _) (stay _ _ _ (fun v hv => has_any v bm u a p q hv A))
  rw [if_neg k6]
  by_cases k7 : K = 7
  · subst k7
    rw [if_pos rfl]
    by_cases a0 : A = 0
    · subst a0
      rw [if_pos rfl]
      exact do_7s w xb bm bo wi oi hX B C s t _ (realU bm _) (QQ _) (fun v bv => join_ok v bm u a p q (hm.later bv) bm u a p q (hm.later bv))
    rw [if_neg a0]
    by_cases a1 : A = 1
    · subst a1
      rw [if_pos rfl]
      exact do_7o w xb bm bo wi oi hX B C s t _ (realU bm _) (QQ _) (fun v bv => join_ok v bm u a p q (hm.later bv) bo _ a2 p2 q2 (ho.later bv))
    rw [if_neg a1]
    exact do_7n w xb bm bo wi oi hX A B C s t a0 a1 _ (realU bm _) (QQ _) (stay _ _ _ (fun v _ => join_no v bm))
  rw [if_neg k7]
  by_cases k8 : K = 8
  · subst k8
    rw [if_pos rfl]
    by_cases a0 : A = 0
    · subst a0
      rw [if_pos rfl]
      exact do_8s w xb bm bo wi oi hX B C s t _ (realU bm _) (QQ _) (fun v bv => meet_ok v bm u a p q (hm.later bv) bm u a p q (hm.later bv))
    rw [if_neg a0]
    by_cases a1 : A = 1
    · subst a1
      rw [if_pos rfl]
      exact do_8o w xb bm bo wi oi hX B C s t _ (realU bm _) (QQ _) (fun v bv => meet_ok v bm u a p q (hm.later bv) bo _ a2 p2 q2 (ho.later bv))
    rw [if_neg a1]
    exact do_8n w xb bm bo wi oi hX A B C s t a0 a1 _ (realU bm _) (QQ _) (stay _ _ _ (fun v _ => meet_no v bm))
  rw [if_neg k8]
  by_cases k9 : K = 9
  · subst k9
    rw [if_pos rfl]
    by_cases a0 : A = 0
    · subst a0
      rw [if_pos rfl]
      exact do_9s w xb bm bo wi oi hX B C s t _ (realU bm _) (QQ _) (fun v bv => minus_ok v bm u a p q (hm.later bv) bm u a p q (hm.later bv))
    rw [if_neg a0]
    by_cases a1 : A = 1
    · subst a1
      rw [if_pos rfl]
      exact do_9o w xb bm bo wi oi hX B C s t _ (realU bm _) (QQ _) (fun v bv => minus_ok v bm u a p q (hm.later bv) bo _ a2 p2 q2 (ho.later bv))
    rw [if_neg a1]
    exact do_9n w xb bm bo wi oi hX A B C s t a0 a1 _ (realU bm _) (QQ _) (stay _ _ _ (fun v _ => minus_no v bm))
  rw [if_neg k9]
  by_cases k10 : K = 10
  · subst k10
    rw [if_pos rfl]
    exact do_10 w xb bm bo wi oi hX A B C s t (realU bm _) (QQ _) (fun v bv => flip_any v bm u a p q (hm.later bv) )
  rw [if_neg k10]
  by_cases k11 : K = 11
  · subst k11
    rw [if_pos rfl]
    by_cases hA : A < -64 ∨ 64 < A
    · rw [if_pos hA]
      exact do_11 w xb bm bo wi oi hX A B C s t _ (realU bm _) (QQ _) (stay _ _ _ (fun v _ => shift_no v bm A hA))
    rw [if_neg hA]
    by_cases h0 : 0 ≤ A
    · rw [if_pos h0]
      obtain ⟨n, rfl⟩ := Int.eq_ofNat_of_zero_le h0
      rw [Int.toNat_natCast]
      exact do_11 w xb bm bo wi oi hX (n : Int) B C s t _ (realU bm _) (QQ _) (fun v bv => shift_up v bm u a p q (hm.later bv) n (by omega))
    · rw [if_neg h0]
      obtain ⟨n, hn⟩ := Int.eq_ofNat_of_zero_le (show 0 ≤ -A by omega)
      obtain rfl : A = -(n : Int) := by omega
      rw [Int.neg_neg, Int.toNat_natCast]
      exact do_11 w xb bm bo wi oi hX (-(n : Int)) B C s t _ (realU bm _) (QQ _) (fun v bv => shift_dn v bm u a p q (hm.later bv) n (by omega) (by omega))
  rw [if_neg k11]
  by_cases k12 : K = 12
  · subst k12
    rw [if_pos rfl]
    exact do_12 w xb bm bo wi oi hX A B C s t (realU bm _) (QQ _) (fun v bv => rotate_any v bm u a p q (hm.later bv) A)
  rw [if_neg k12]
  by_cases k13 : K = 13
  · subst k13
    rw [if_pos rfl]
    exact do_13 w xb bm bo wi oi hX A B C s t _ (realU bm _) (QQ _) (stay _ _ _ (fun v hv => count_any v bm u a p q hv ))
  rw [if_neg k13]
  by_cases k14 : K = 14
  · subst k14
    rw [if_pos rfl]
    exact do_14 w xb bm bo wi oi hX A B C s t _ _ (realU bm _) (QQ _) (same _ _ _ (fun v hv => lowest_fun v bm u a p q hv ))
  rw [if_neg k14]
  by_cases k15 : K = 15
  · subst k15
    rw [if_pos rfl]
    exact do_15 w xb bm bo wi oi hX A B C s t _ _ (realU bm _) (QQ _) (same _ _ _ (fun v hv => highest_fun v bm u a p q hv ))
  rw [if_neg k15]
  by_cases k16 : K = 16
  · subst k16
    rw [if_pos rfl]
    exact do_16 w xb bm bo wi oi hX A B C s t _ (realU bm _) (QQ _) (fun v bv => calc_any v bm u a p q (hm.later bv) A B C _ _ _ _ rfl)
  rw [if_neg k16]
  by_cases k17 : K = 17
  · subst k17
    rw [if_pos rfl]
    exact do_17 w xb bm bo wi oi hX A B C s t _ (realU bm _) (QQ _) (fun v bv => move_any v bm u a p q (hm.later bv) A B _ _ _ _ rfl)
  rw [if_neg k17]
  by_cases k18 : K = 18
  · subst k18
    rw [if_pos rfl]
    exact do_18 w xb bm bo wi oi hX A B C s t _ (realU bm _) (QQ _) (same _ _ _ (fun v hv => sign_any v bm u a p q hv A))
  rw [if_neg k18]
  by_cases k19 : K = 19
  · subst k19
    rw [if_pos rfl]
    exact do_19 w xb bm bo wi oi hX A B C s t a p q (by have := hm.hq; omega) (by have := hm.hq; omega) (realU bm _) (QQ _) (same _ _ _ (fun v hv => regs_any v bm u a p q hv ))
  rw [if_neg k19]
  by_cases k20 : K = 20
  · subst k20
    rw [if_pos rfl]
    exact do_20 w xb bm bo wi oi hX A B C s t (realU bm _) (QQ _) (fun v bv => reset_any v bm u a p q (hm.later bv) )
  rw [if_neg k20]
  by_cases k21 : K = 21
  · subst k21
    rw [if_pos rfl]
    exact do_21 w xb bm bo wi oi hX A B C s t _ (realU bm _) (QQ _) (same _ _ _ (fun v hv => show_any v bm u a p q hv ))
  rw [if_neg k21]
  by_cases k22 : K = 22
  · subst k22
    rw [if_pos rfl]
    exact do_22 w xb bm bo wi oi hX A B C s t true (realU bm _) (QQ _) (stay _ _ _ (fun v _ => check_any v bm))
  rw [if_neg k22]
  exact do_o w xb bm bo wi oi hX K A B C s t k3 k4 k5 k6 k7 k8 k9 k10 k11 k12 k13 k14 k15 k16 k17 k18 k19 k20 k21 k22 low

set_option maxHeartbeats 1000000 in
theorem dom_any (w : World) (xb bm bo wi oi : Nat) (hX : Pair w xb bm bo wi oi) (u : Nat) (a p q : Int) (ad : Option Addr) (cap : Nat) (hm : MbR w bm ad cap u a p q) (v : Nat) (a2 p2 q2 : Int) (ad2 : Option Addr) (cap2 : Nat) (ho : MbR w bo ad2 cap2 v a2 p2 q2) (K A B C : Int) (s t : ByteArray) (r : AnsT × BrdT) (hr : actW K A B C u a p q v = r) :
    Calls Try.prog 56 #[.slice (some ⟨xb, 0, none⟩) 2 2, I wi, OpV K A B C s t] w fun e w' => e = .returned (AnsV r.1.1 r.1.2.1 r.1.2.2.1 r.1.2.2.2) ∧ ModQ w bm ad r.2 w' := by
  subst hr
  have lm := hX.lm
  have QQ := fun s => modQ w bm lm ad hm.rowlt' s
  have low : ∀ v, Below w.heap.size w v → ModQ w bm ad (u, a, p, q) v := fun v b => ⟨ad, cap, hm.later b, .inl rfl, Upd.of_below b⟩
  have same : ∀ (g : Nat) (args : Array Value) (V : Value), (∀ v, MbR v bm ad cap u a p q → Calls Try.prog g args v fun e w' => e = .returned V ∧ Below v.heap.size v w') → ∀ v, Below w.heap.size w v → Calls Try.prog g args v fun e w' => e = .returned V ∧ ModQ v bm ad (u, a, p, q) w' := by
    intro g args V hg v bv
    refine (hg v (hm.later bv)).mono ?_
    rintro e w' ⟨rfl, b'⟩
    exact ⟨rfl, ad, cap, (hm.later bv).later b', .inl rfl, Upd.of_below b'⟩
  have stay : ∀ (g : Nat) (args : Array Value) (V : Value), (∀ v, MbR v bm ad cap u a p q → Calls Try.prog g args v fun e w' => e = .returned V ∧ w' = v) → ∀ v, Below w.heap.size w v → Calls Try.prog g args v fun e w' => e = .returned V ∧ ModQ v bm ad (u, a, p, q) w' := by
    intro g args V hg v bv
    exact same g args V (fun v hv => (hg v hv).mono (by rintro e w' ⟨rfl, rfl⟩; exact ⟨rfl, Below.refl _ _⟩)) v bv
  unfold actW
  by_cases k3 : K = 3
  · subst k3
    rw [if_pos rfl]
    by_cases hA : 0 ≤ A ∧ A < 64
    · rw [if_pos hA]
      obtain ⟨n, rfl⟩ := Int.eq_ofNat_of_zero_le hA.1
      rw [Int.toNat_natCast]
      exact dom_3 w xb bm bo wi oi hX (n : Int) B C s t _ (modU bm ad _) (QQ _) (fun v bv => madd_ok v bm ad cap u a p q (hm.later bv) n (by omega))
    · rw [if_neg hA]
      exact dom_3 w xb bm bo wi oi hX A B C s t _ (modU bm ad _) (QQ _) (stay _ _ _ (fun v _ => madd_no v bm A hA))
  rw [if_neg k3]
  by_cases k4 : K = 4
  · subst k4
    rw [if_pos rfl]
    by_cases hA : 0 ≤ A ∧ A < 64
    · rw [if_pos hA]
      obtain ⟨n, rfl⟩ := Int.eq_ofNat_of_zero_le hA.1
      rw [Int.toNat_natCast]
      exact dom_4 w xb bm bo wi oi hX (n : Int) B C s t _ (modU bm ad _) (QQ _) (fun v bv => mremove_ok v bm ad cap u a p q (hm.later bv) n (by omega))
    · rw [if_neg hA]
      exact dom_4 w xb bm bo wi oi hX A B C s t _ (modU bm ad _) (QQ _) (stay _ _ _ (fun v _ => mremove_no v bm A hA))
  rw [if_neg k4]
  by_cases k5 : K = 5
  · subst k5
    rw [if_pos rfl]
    by_cases hA : 0 ≤ A ∧ A < 64
    · rw [if_pos hA]
      obtain ⟨n, rfl⟩ := Int.eq_ofNat_of_zero_le hA.1
      rw [Int.toNat_natCast]
      exact dom_5 w xb bm bo wi oi hX (n : Int) B C s t _ (modU bm ad _) (QQ _) (fun v bv => mtoggle_ok v bm ad cap u a p q (hm.later bv) n (by omega))
    · rw [if_neg hA]
      exact dom_5 w xb bm bo wi oi hX A B C s t _ (modU bm ad _) (QQ _) (stay _ _ _ (fun v _ => mtoggle_no v bm A hA))
  rw [if_neg k5]
  by_cases k6 : K = 6
  · subst k6
    rw [if_pos rfl]
    exact dom_6 w xb bm bo wi oi hX A B C s t _ (modU bm ad _) (QQ _) (stay _ _ _ (fun v hv => mhas_any v bm ad cap u a p q hv A))
  rw [if_neg k6]
  by_cases k7 : K = 7
  · subst k7
    rw [if_pos rfl]
    by_cases a0 : A = 0
    · subst a0
      rw [if_pos rfl]
      exact dom_7s w xb bm bo wi oi hX B C s t _ (modU bm ad _) (QQ _) (fun v bv => mjoin_ok v bm ad cap u a p q (hm.later bv) bm ad cap u a p q (hm.later bv))
    rw [if_neg a0]
    by_cases a1 : A = 1
    · subst a1
      rw [if_pos rfl]
      exact dom_7o w xb bm bo wi oi hX B C s t _ (modU bm ad _) (QQ _) (fun v bv => mjoin_ok v bm ad cap u a p q (hm.later bv) bo ad2 cap2 _ a2 p2 q2 (ho.later bv))
    rw [if_neg a1]
    exact dom_7n w xb bm bo wi oi hX A B C s t a0 a1 _ (modU bm ad _) (QQ _) (stay _ _ _ (fun v _ => mjoin_no v bm))
  rw [if_neg k7]
  by_cases k8 : K = 8
  · subst k8
    rw [if_pos rfl]
    by_cases a0 : A = 0
    · subst a0
      rw [if_pos rfl]
      exact dom_8s w xb bm bo wi oi hX B C s t _ (modU bm ad _) (QQ _) (fun v bv => mmeet_ok v bm ad cap u a p q (hm.later bv) bm ad cap u a p q (hm.later bv))
    rw [if_neg a0]
    by_cases a1 : A = 1
    · subst a1
      rw [if_pos rfl]
      exact dom_8o w xb bm bo wi oi hX B C s t _ (modU bm ad _) (QQ _) (fun v bv => mmeet_ok v bm ad cap u a p q (hm.later bv) bo ad2 cap2 _ a2 p2 q2 (ho.later bv))
    rw [if_neg a1]
    exact dom_8n w xb bm bo wi oi hX A B C s t a0 a1 _ (modU bm ad _) (QQ _) (stay _ _ _ (fun v _ => mmeet_no v bm))
  rw [if_neg k8]
  by_cases k9 : K = 9
  · subst k9
    rw [if_pos rfl]
    by_cases a0 : A = 0
    · subst a0
      rw [if_pos rfl]
      exact dom_9s w xb bm bo wi oi hX B C s t _ (modU bm ad _) (QQ _) (fun v bv => mminus_ok v bm ad cap u a p q (hm.later bv) bm ad cap u a p q (hm.later bv))
    rw [if_neg a0]
    by_cases a1 : A = 1
    · subst a1
      rw [if_pos rfl]
      exact dom_9o w xb bm bo wi oi hX B C s t _ (modU bm ad _) (QQ _) (fun v bv => mminus_ok v bm ad cap u a p q (hm.later bv) bo ad2 cap2 _ a2 p2 q2 (ho.later bv))
    rw [if_neg a1]
    exact dom_9n w xb bm bo wi oi hX A B C s t a0 a1 _ (modU bm ad _) (QQ _) (stay _ _ _ (fun v _ => mminus_no v bm))
  rw [if_neg k9]
  by_cases k10 : K = 10
  · subst k10
    rw [if_pos rfl]
    exact dom_10 w xb bm bo wi oi hX A B C s t (modU bm ad _) (QQ _) (fun v bv => mflip_any v bm ad cap u a p q (hm.later bv) )
  rw [if_neg k10]
  by_cases k11 : K = 11
  · subst k11
    rw [if_pos rfl]
    by_cases hA : A < -64 ∨ 64 < A
    · rw [if_pos hA]
      exact dom_11 w xb bm bo wi oi hX A B C s t _ (modU bm ad _) (QQ _) (stay _ _ _ (fun v _ => mshift_no v bm A hA))
    rw [if_neg hA]
    by_cases h0 : 0 ≤ A
    · rw [if_pos h0]
      obtain ⟨n, rfl⟩ := Int.eq_ofNat_of_zero_le h0
      rw [Int.toNat_natCast]
      exact dom_11 w xb bm bo wi oi hX (n : Int) B C s t _ (modU bm ad _) (QQ _) (fun v bv => mshift_ok v bm ad cap u a p q (hm.later bv) (n : Int) (by omega) (by omega) (shlB u n) (shlB_lt _ _) (fun x hx => shl_has u n x hx))
    · rw [if_neg h0]
      obtain ⟨n, hn⟩ := Int.eq_ofNat_of_zero_le (show 0 ≤ -A by omega)
      obtain rfl : A = -(n : Int) := by omega
      rw [Int.neg_neg, Int.toNat_natCast]
      exact dom_11 w xb bm bo wi oi hX (-(n : Int)) B C s t _ (modU bm ad _) (QQ _) (fun v bv => mshift_ok v bm ad cap u a p q (hm.later bv) (-(n : Int)) (by omega) (by omega) (shrB u n) (shrB_lt _ _ hm.hu) (fun x _ => shr_has u n x hm.hu))
  rw [if_neg k11]
  by_cases k12 : K = 12
  · subst k12
    rw [if_pos rfl]
    exact dom_12 w xb bm bo wi oi hX A B C s t (modU bm ad _) (QQ _) (fun v bv => mrotate_any v bm ad cap u a p q (hm.later bv) A)
  rw [if_neg k12]
  by_cases k13 : K = 13
  · subst k13
    rw [if_pos rfl]
    exact dom_13 w xb bm bo wi oi hX A B C s t _ (modU bm ad _) (QQ _) (stay _ _ _ (fun v hv => mcount_any v bm ad cap u a p q hv ))
  rw [if_neg k13]
  by_cases k14 : K = 14
  · subst k14
    rw [if_pos rfl]
    exact dom_14 w xb bm bo wi oi hX A B C s t _ _ (modU bm ad _) (QQ _) (same _ _ _ (fun v hv => mlowest_any v bm ad cap u a p q hv ))
  rw [if_neg k14]
  by_cases k15 : K = 15
  · subst k15
    rw [if_pos rfl]
    exact dom_15 w xb bm bo wi oi hX A B C s t _ _ (modU bm ad _) (QQ _) (same _ _ _ (fun v hv => mhighest_any v bm ad cap u a p q hv ))
  rw [if_neg k15]
  by_cases k16 : K = 16
  · subst k16
    rw [if_pos rfl]
    exact dom_16 w xb bm bo wi oi hX A B C s t _ (modU bm ad _) (QQ _) (fun v bv => mcalc_any v bm ad cap u a p q (hm.later bv) A B C _ _ _ _ rfl)
  rw [if_neg k16]
  by_cases k17 : K = 17
  · subst k17
    rw [if_pos rfl]
    exact dom_17 w xb bm bo wi oi hX A B C s t _ (modU bm ad _) (QQ _) (fun v bv => mmove_any v bm ad cap u a p q (hm.later bv) A B _ _ _ _ rfl)
  rw [if_neg k17]
  by_cases k18 : K = 18
  · subst k18
    rw [if_pos rfl]
    exact dom_18 w xb bm bo wi oi hX A B C s t _ (modU bm ad _) (QQ _) (same _ _ _ (fun v hv => msign_any v bm ad cap u a p q hv A))
  rw [if_neg k18]
  by_cases k19 : K = 19
  · subst k19
    rw [if_pos rfl]
    exact dom_19 w xb bm bo wi oi hX A B C s t a p q (by have := hm.hq; omega) (by have := hm.hq; omega) (modU bm ad _) (QQ _) (same _ _ _ (fun v hv => mregs_any v bm ad cap u a p q hv ))
  rw [if_neg k19]
  by_cases k20 : K = 20
  · subst k20
    rw [if_pos rfl]
    exact dom_20 w xb bm bo wi oi hX A B C s t (modU bm ad _) (QQ _) (fun v bv => mreset_any v bm ad cap u a p q (hm.later bv) )
  rw [if_neg k20]
  by_cases k21 : K = 21
  · subst k21
    rw [if_pos rfl]
    exact dom_21 w xb bm bo wi oi hX A B C s t _ (modU bm ad _) (QQ _) (same _ _ _ (fun v hv => mshow_any v bm ad cap u a p q hv ))
  rw [if_neg k21]
  by_cases k22 : K = 22
  · subst k22
    rw [if_pos rfl]
    exact dom_22 w xb bm bo wi oi hX A B C s t low
  rw [if_neg k22]
  exact dom_o w xb bm bo wi oi hX K A B C s t k3 k4 k5 k6 k7 k8 k9 k10 k11 k12 k13 k14 k15 k16 k17 k18 k19 k20 k21 k22 low
end Go.Proofs.Qxb6500469a
