import Derived.RangeFuncNested
import Derived.RangeFuncBound
import Derived.RangeFuncCalls
import Derived.RangeFuncLeaves
import Derived.Shelf.Abstract
import Derived.Shelf.RegionOpen
import Derived.OwnWalkIn
import Derived.TacticsInMore
import Derived.LoopNIn
import Derived.LoopIn
import Derived.Test.Qxb6500470aTv6
namespace Go.Proofs.Qxb6500470a
open Go.RowKit Go.Shelf
attribute [local go_sem] Oper.semAt_some
/-- A value that an iterator hands out, as it lay in the world w0. -/
abbrev El (K : Nat → Prop) (w0 : World) : Type := { xv : TV × Value // RV K w0 xv.1 xv.2 ∧ (text xv.1).length ≤ 30 }
/-- The blocks of K lie as they lay. -/
def KK (K : Nat → Prop) (A B : World) : Prop := ∀ q, K q → B.heap[q]? = A.heap[q]?
theorem KK.trans {K : Nat → Prop} {A B C : World} (h : KK K A B) (k : KK K B C) : KK K A C := fun q hq => (k q hq).trans (h q hq)
theorem KK.of_kept {K : Nat → Prop} {A B : World} (h : Kept K A B) : KK K A B := h.block
theorem KK.put {K : Nat → Prop} {w : World} (ks : ∀ k, K k → k < w.heap.size) (W : World) (l : Nat) (o' : Obj) (hl : w.heap.size ≤ l) : KK K W (W.putObj l o') := fun q hq => World.putObj_heap_other (by have := ks q hq; omega)
theorem Blk.kk {K : Nat → Prop} {w w' : World} {b : Nat} {c : Array Value} {t : TypeId} (k : Blk w b c t) (h : KK K w w') (hn : K b) : Blk w' b c t := by
  unfold Blk at *; rw [h b hn]; exact k
/-- The cells from tp on hold vs, in blocks of K. -/
def Ch {α : Type} (enc : α → Value) (n0 : Nat → Prop) (W : World) : Option Addr → List α → Prop
  | tp, [] => tp = none
  | tp, v :: vs => ∃ (q : Nat) (tq : Option Addr), tp = some ⟨q, 0, none⟩ ∧ n0 q ∧ Blk W q #[enc v, .pointer tq] 72 ∧ Ch enc n0 W tq vs
theorem Ch.below {α : Type} {enc : α → Value} {n0 : Nat → Prop} {A B : World} (h : KK n0 A B) : ∀ {tp : Option Addr} {vs : List α}, Ch enc n0 A tp vs → Ch enc n0 B tp vs
  | _, [], hl => hl
  | _, _ :: _, ⟨q, tq, hp, hb, hv, hr⟩ => ⟨q, tq, hp, hb, hv.kk h hb, Ch.below h hr⟩
theorem Ch.len {α : Type} {enc : α → Value} {n0 : Nat → Prop} {W : World} : ∀ {tp : Option Addr} {xs ys : List α}, Ch enc n0 W tp xs → Ch enc n0 W tp ys → xs.length = ys.length
  | _, [], [], _, _ => rfl
  | _, [], _ :: _, h, ⟨_, _, hp, _⟩ => by rw [h] at hp; cases hp
  | _, _ :: _, [], ⟨_, _, hp, _⟩, h => by rw [h] at hp; cases hp
  | _, x :: xs, y :: ys, ⟨q, tq, hp, _, hv, hr⟩, ⟨q', tq', hp', _, hv', hr'⟩ => by
    rw [hp] at hp'; cases hp'
    have := hv.inj hv'
    simp at this
    obtain ⟨-, rfl⟩ := this
    simp [Ch.len hr hr']
open Classical in
/-- How many cells are still to come, read off the world: for the loop's measure. -/
noncomputable def leftC {α : Type} (enc : α → Value) (n0 : Nat → Prop) (W : World) (v : Value) : Nat :=
  if h : ∃ r : Option Addr × List α, v = .pointer r.1 ∧ Ch enc n0 W r.1 r.2 then (Classical.choose h).2.length else 0
theorem leftC_eq {α : Type} {enc : α → Value} {n0 : Nat → Prop} {W : World} {q : Option Addr} {xs : List α} (h : Ch enc n0 W q xs) : leftC enc n0 W (.pointer q) = xs.length := by
  have hex : ∃ r : Option Addr × List α, Value.pointer q = .pointer r.1 ∧ Ch enc n0 W r.1 r.2 := ⟨(q, xs), rfl, h⟩
  unfold leftC
  rw [dif_pos hex]
  obtain ⟨e, hl⟩ := Classical.choose_spec hex
  have e' : q = (Classical.choose hex).1 := by simpa using e
  rw [← e'] at hl
  exact Ch.len hl h
set_option maxRecDepth 100000 in
set_option maxHeartbeats 1000000 in
/-- The closure that (*List).All hands back: whatever the rounds do, so long as they keep what lay below n0. -/
theorem all1_in {α : Type} (enc : α → Value) (F : Fence) (n : Nat) (h6 : F.fn 139) (hro : F.round = none) (hn : 1 ≤ n) (l Bn : Nat) (n0 : Nat → Prop) (p0 : Option Addr) (xs : List α) (J Jx : List α → World → Prop) (Pn : List PanicEntry → World → Prop)
    (hY : ∀ pre x W, J pre W → pre.length < xs.length → YieldAt F (n - 1) Try.prog l #[enc x] W fun e W' =>
      (e = .returned (.bool true) ∧ J (pre ++ [x]) W' ∧ KK n0 W W') ∨ (e = .returned (.bool false) ∧ Jx (pre ++ [x]) W') ∨ (∃ c, e = .panicked c ∧ Pn c W'))
    (W : World) (hBn : W.cell? ⟨Bn, 0, none⟩ = some (.pointer p0)) (hL : Ch enc n0 W p0 xs) (h0 : J [] W) :
    CallsIn F n Try.prog 139 #[.func (.yield l) #[] #[], .pointer (some ⟨Bn, 0, none⟩)] W fun e W' =>
      ((∃ v, e = .returned v) ∧ ((∃ ys, ys = xs ∧ J ys W') ∨ (∃ pre, pre <+: xs ∧ Jx pre W'))) ∨ (∃ c, e = .panicked c ∧ Pn c W') := by
  refine callsIn_of_wp Try.func139 rfl h6 ?_ hro
  simp only [Try.ntmps139, List.size_toArray, List.length_cons, List.length_nil, Nat.reduceAdd, Nat.reduceSub, Array.replicate_succ, Array.replicate_zero, List.push_toArray, List.append_toArray, List.nil_append, List.cons_append]
  gi_wp2
  gi_loopw [3] (fun p wr => ∃ (pre rest : List α) (q : Option Addr), p = .pointer q ∧ xs = pre ++ rest ∧ Ch enc n0 wr q rest ∧ J pre wr)
    (fun p wr => leftC enc n0 wr p)
  case atStart =>
    exact ⟨[], xs, p0, rfl, rfl, hL, h0⟩
  case round =>
    obtain ⟨pre, rest, q, rfl, hx, hl, hJs⟩ := hrel
    cases rest with
    | nil =>
      obtain rfl : q = none := hl
      gi_wp2
      go_end0
      exact .inl ⟨⟨_, rfl⟩, .inl ⟨pre, by simp [hx], hJs⟩⟩
    | cons x rest =>
      have hl' := hl
      obtain ⟨b, q', rfl, hb, hv, hr⟩ := hl
      obtain ⟨c1, c2, c3⟩ := hv.facts
      obtain ⟨fn, tmps, assign, body, hy, hR⟩ := hY pre x wr hJs (by rw [hx]; simp)
      gi_wp2
      refine hR.mono ?_
      rintro e W3 (⟨rfl, hJ3, hk3⟩ | ⟨rfl, hJx3⟩ | ⟨c, rfl, hp⟩)
      · have hv3 := hv.kk hk3 hb
        clear c1 c2 c3
        obtain ⟨c1, c2, c3⟩ := hv3.facts
        gi_wp2
        go_roundw
        case rel => exact ⟨pre ++ [x], rest, q', rfl, by simp [hx], hr.below hk3, hJ3⟩
        case measure => rw [leftC_eq (hr.below hk3), leftC_eq hl']; simp
      · gi_wp2
        refine bodyPost_ret (results_none rfl _ _ _) rfl ?_
        exact .inl ⟨⟨_, rfl⟩, .inr ⟨pre ++ [x], ⟨rest, by simp [hx]⟩, hJx3⟩⟩
      · gi_wp2
        exact ⟨rfl, .inr ⟨c, rfl, hp⟩⟩
end Go.Proofs.Qxb6500470a
