import Derived.Test.Qxb6500470aVm7
import Derived.Deep.RegionWith
namespace Go.Proofs.Qxb6500470a
open Go.RowKit
set_option maxRecDepth 100000 in
set_option maxHeartbeats 16000000 in
theorem mPair_some (K : Nat → Prop) (w : World) (p : Nat) (y x : TV) (r : List TV) (h : MT K w p (y :: x :: r)) (hy : (text y).length ≤ 30) (hx : (text x).length ≤ 30) : Calls Try.prog 109 #[ptr p] w (Wm K w p (wPutM 2 (.pair x y) (y :: x :: r))) := by
  have h5 := h.len
  obtain ⟨g, cap, c0, c1, c2, c3, hp, hg, kg, lg, lp, hle, fp, h0, h1, h2, h3, hmy⟩ := h.val (r.length + 1) 0 (by simp)
  obtain ⟨g', cap', d0, d1, d2, d3, hp', -, -, -, -, -, -, k0, k1, k2, k3, hmx⟩ := h.val r.length 1 (by simp)
  have e := hp.symm.trans hp'
  simp only [Option.some.injEq, Value.slice.injEq, Addr.mk.injEq, and_true, true_and] at e
  obtain ⟨rfl, rfl⟩ := e
  have hmy : MR K w y c0 c1 c2 c3 := hmy
  have hmx : MR K w x d0 d1 d2 d3 := hmx
  have hone1 := (MRs.one hmy).cells1
  have hone2 := (MRs.one hmx).cells1
  have PP := fun W g => put_pair K w W p 2 g (y :: x :: r) h (by simp) x y d0 d1 d2 d3 c0 c1 c2 c3 hmx hmy hx hy
  have B1 : Below w.heap.size w ((w.alloc (.cells #[d0, d1, d2, d3, c0, c1, c2, c3] 137)).drew) := ((Below.refl _ _).alloc (Nat.le_refl _) _).drew
  have X1 : Blk ((w.alloc (.cells #[d0, d1, d2, d3, c0, c1, c2, c3] 137)).drew) w.heap.size #[d0, d1, d2, d3, c0, c1, c2, c3] 137 := (Blk.new rfl).drew
  generalize wPutM 2 (.pair x y) (y :: x :: r) = R at *
  have hl : (y :: x :: r).length = r.length + 2 := rfl
  rw [hl] at hp hle h5
  clear hmx hmy h hp'
  generalize r.length = m at *
  have w1 := wr64 (m : Int) (by omega) (by omega)
  have w2 := wr64 ((m : Int) + 1) (by omega) (by omega)
  have q1 : ¬ ((m : Int) + 2) < 2 := by omega
  have e1 : (m : Int) + 2 - 1 = (m : Int) + 1 := by omega
  have e2 : (m : Int) + 2 - 2 = (m : Int) := by omega
  have q3 : (m : Int) < (m : Int) + 2 := by omega
  have q4 : (m : Int) + 1 < (m : Int) + 2 := by omega
  have q5 : 0 ≤ (m : Int) + 1 := by omega
  go_enter Try.func109, Try.ntmps109
  go_wp2_with fail
  go_region_with (go_at_call 114; refine (PP _ w.heap.size B1 (Nat.le_refl _) X1).mono ?_; rintro e w' ⟨rfl, tn⟩)
  all_goals
    go_wp2
    go_ret
    exact ⟨rfl, tn⟩
theorem put2 (y x z : TV) (r : List TV) (h5 : (y :: x :: r).length ≤ 5) (k : Int) (hk : k = if 30 < (text z).length then 7 else 0) : wPutM 2 z (y :: x :: r) = (if 30 < (text z).length then y :: x :: r else z :: r, k) := by
  subst hk
  unfold wPutM
  split
  · rfl
  · rw [if_neg (by simp at h5 ⊢; omega)]; rfl
theorem mPair_w (K : Nat → Prop) (w : World) (p : Nat) (st : List TV) (h : MT K w p st) (hf : Fine st) : Calls Try.prog 109 #[ptr p] w (Wm K w p (wPair st)) := by
  match st, h, hf with
  | [], h, _ => refine (mpair_under K w p _ (by decide) h).mono ?_; rintro e w' ⟨rfl, rfl⟩; exact ⟨rfl, .refl h⟩
  | [_], h, _ => refine (mpair_under K w p _ (by simp) h).mono ?_; rintro e w' ⟨rfl, rfl⟩; exact ⟨rfl, .refl h⟩
  | y :: x :: r, h, hf =>
    have := mPair_some K w p y x r h hf.head hf.tail.head
    rw [put2 y x _ r h.len _ rfl] at this
    unfold wPair
    dsimp only
    by_cases hl : (text (.pair x y)).length ≤ 30
    · rw [if_neg (by omega), if_neg (by omega)] at this; rw [if_pos hl]; exact this
    · rw [if_pos (by omega), if_pos (by omega)] at this; rw [if_neg hl]; exact this
end Go.Proofs.Qxb6500470a
