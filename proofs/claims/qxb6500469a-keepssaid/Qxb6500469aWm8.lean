import Derived.Test.Qxb6500469aWm7
import Derived.Test.Qxb6500469aOpAt
namespace Go.Proofs.Qxb6500469a
open Go.RowKit

def sl {α : Type} (i : Nat) (x y : α) : α := if i = 0 then x else y
def frR (w : World) (b : Nat) (s : BrdT) : Prop := BdR w b s.1 s.2.1 s.2.2.1 s.2.2.2
def apart (ad : Option Addr) (b0 b1 m0 m1 : Nat) : Prop := ∀ g, blk? ad = some g → g ≠ b0 ∧ g ≠ b1 ∧ g ≠ m0 ∧ g ≠ m1
def frM (w : World) (b : Nat) (s : BrdT) (b0 b1 m0 m1 : Nat) : Prop := ∃ ad cap, MbR w b ad cap s.1 s.2.1 s.2.2.1 s.2.2.2 ∧ apart ad b0 b1 m0 m1
structure Two (N : Nat) (w : World) (xb b0 b1 yb m0 m1 : Nat) (s0 s1 t0 t1 : BrdT) : Prop where
  xs : Blk w xb #[ptr b0, ptr b1] 34
  ys : Blk w yb #[ptr m0, ptr m1] 73
  r0 : frR w b0 s0
  r1 : frR w b1 s1
  k0 : frM w m0 t0 b0 b1 m0 m1
  k1 : frM w m1 t1 b0 b1 m0 m1
  n0 : N ≤ b0
  n1 : N ≤ b1
  n2 : N ≤ m0
  n3 : N ≤ m1
  d : b0 ≠ b1 ∧ b0 ≠ m0 ∧ b0 ≠ m1 ∧ b1 ≠ m0 ∧ b1 ≠ m1 ∧ m0 ≠ m1
  dx : xb ≠ b0 ∧ xb ≠ b1 ∧ xb ≠ m0 ∧ xb ≠ m1
  dy : yb ≠ b0 ∧ yb ≠ b1 ∧ yb ≠ m0 ∧ yb ≠ m1
theorem frR.upd {bs : List Nat} {w w' : World} {b : Nat} {s : BrdT} (h : frR w b s) (k : Upd bs w w') (hb : b ∉ bs) : frR w' b s := BdR.upd h k hb
theorem frM.upd {w w' : World} {b : Nat} {s : BrdT} {b0 b1 m0 m1 y : Nat} (h : frM w b s b0 b1 m0 m1) (k : Upd [y] w w') (hb : b ≠ y) (hy : y = b0 ∨ y = b1 ∨ y = m0 ∨ y = m1) : frM w' b s b0 b1 m0 m1 := by
  obtain ⟨ad, cap, h1, h2⟩ := h
  refine ⟨ad, cap, h1.upd k (fun e => hb (List.mem_singleton.1 e)) ?_, h2⟩
  intro g hg hm
  have e := List.mem_singleton.1 hm
  obtain ⟨q0, q1, q2, q3⟩ := h2 g hg
  rcases hy with rfl | rfl | rfl | rfl
  · exact q0 e
  · exact q1 e
  · exact q2 e
  · exact q3 e
theorem frM.later {w w' : World} {b : Nat} {s : BrdT} {b0 b1 m0 m1 : Nat} (h : frM w b s b0 b1 m0 m1) (k : Below w.heap.size w w') : frM w' b s b0 b1 m0 m1 := by
  obtain ⟨ad, cap, h1, h2⟩ := h
  exact ⟨ad, cap, h1.later k, h2⟩
section
variable {N : Nat} {w w' : World} {xb b0 b1 yb m0 m1 : Nat} {s0 s1 t0 t1 : BrdT}
theorem Two.later (h : Two N w xb b0 b1 yb m0 m1 s0 s1 t0 t1) (k : Below w.heap.size w w') : Two N w' xb b0 b1 yb m0 m1 s0 s1 t0 t1 :=
  ⟨h.xs.below k h.xs.lt, h.ys.below k h.ys.lt, BdR.later h.r0 k, BdR.later h.r1 k, h.k0.later k, h.k1.later k, h.n0, h.n1, h.n2, h.n3, h.d, h.dx, h.dy⟩
theorem Two.zs (h : Two N w xb b0 b1 yb m0 m1 s0 s1 t0 t1) : xb < w.heap.size ∧ yb < w.heap.size ∧ b0 < w.heap.size ∧ b1 < w.heap.size ∧ m0 < w.heap.size ∧ m1 < w.heap.size := by
  obtain ⟨_, _, h0, _⟩ := h.k0
  obtain ⟨_, _, h1, _⟩ := h.k1
  exact ⟨h.xs.lt, h.ys.lt, BdR.head h.r0 |>.lt, BdR.head h.r1 |>.lt, h0.head.lt, h1.head.lt⟩
theorem Two.pairR (h : Two N w xb b0 b1 yb m0 m1 s0 s1 t0 t1) (i o : Nat) (hi : i + o = 1) : Pair w xb (sl i b0 b1) (sl i b1 b0) i o := by
  obtain ⟨z0, z1, z2, z3, z4, z5⟩ := h.zs
  have : (i = 0 ∧ o = 1) ∨ (i = 1 ∧ o = 0) := by omega
  rcases this with ⟨rfl, rfl⟩ | ⟨rfl, rfl⟩
  · exact ⟨rfl, h.xs.cell 0, h.xs.cell 1, z0, z2⟩
  · exact ⟨rfl, h.xs.cell 1, h.xs.cell 0, z0, z3⟩
theorem Two.pairM (h : Two N w xb b0 b1 yb m0 m1 s0 s1 t0 t1) (i o : Nat) (hi : i + o = 1) : Pair w yb (sl i m0 m1) (sl i m1 m0) i o := by
  obtain ⟨z0, z1, z2, z3, z4, z5⟩ := h.zs
  have : (i = 0 ∧ o = 1) ∨ (i = 1 ∧ o = 0) := by omega
  rcases this with ⟨rfl, rfl⟩ | ⟨rfl, rfl⟩
  · exact ⟨rfl, h.ys.cell 0, h.ys.cell 1, z1, z4⟩
  · exact ⟨rfl, h.ys.cell 1, h.ys.cell 0, z1, z5⟩
theorem Two.me (h : Two N w xb b0 b1 yb m0 m1 s0 s1 t0 t1) (i : Nat) : frR w (sl i b0 b1) (sl i s0 s1) := by
  unfold sl; split
  · exact h.r0
  · exact h.r1
theorem Two.ot (h : Two N w xb b0 b1 yb m0 m1 s0 s1 t0 t1) (i : Nat) : frR w (sl i b1 b0) (sl i s1 s0) := by
  unfold sl; split
  · exact h.r1
  · exact h.r0
theorem Two.mme (h : Two N w xb b0 b1 yb m0 m1 s0 s1 t0 t1) (i : Nat) : frM w (sl i m0 m1) (sl i t0 t1) b0 b1 m0 m1 := by
  unfold sl; split
  · exact h.k0
  · exact h.k1
theorem Two.mot (h : Two N w xb b0 b1 yb m0 m1 s0 s1 t0 t1) (i : Nat) : frM w (sl i m1 m0) (sl i t1 t0) b0 b1 m0 m1 := by
  unfold sl; split
  · exact h.k1
  · exact h.k0
theorem Two.real (h : Two N w xb b0 b1 yb m0 m1 s0 s1 t0 t1) (hN : N ≤ w.heap.size) (i : Nat) {r : BrdT} (q : RealQ w (sl i b0 b1) r w') : Two N w' xb b0 b1 yb m0 m1 (sl i r s0) (sl i s1 r) t0 t1 ∧ Below N w w' ∧ Upd [sl i b0 b1] w w' := by
  obtain ⟨e1, e2, e3, e4, e5, e6⟩ := h.d
  obtain ⟨x1, x2, x3, x4⟩ := h.dx
  obtain ⟨y1, y2, y3, y4⟩ := h.dy
  have hb := h.n0
  have hb1 := h.n1
  obtain ⟨q1, k⟩ := q
  unfold sl at *
  split at q1
  · rename_i hi
    rw [if_pos hi] at k ⊢
    rw [if_pos hi, if_pos hi]
    exact ⟨⟨h.xs.upd k (by simp; exact x1), h.ys.upd k (by simp; exact y1), q1, h.r1.upd k (by simp; exact fun e => e1 e.symm), h.k0.upd k (fun e => e2 e.symm) (.inl rfl), h.k1.upd k (fun e => e3 e.symm) (.inl rfl), h.n0, h.n1, h.n2, h.n3, h.d, h.dx, h.dy⟩, k.below hN (fun z hz => by rw [List.mem_singleton.1 hz]; exact hb), k⟩
  · rename_i hi
    rw [if_neg hi] at k ⊢
    rw [if_neg hi, if_neg hi]
    exact ⟨⟨h.xs.upd k (by simp; exact x2), h.ys.upd k (by simp; exact y2), h.r0.upd k (by simp; exact e1), q1, h.k0.upd k (fun e => e4 e.symm) (.inr (.inl rfl)), h.k1.upd k (fun e => e5 e.symm) (.inr (.inl rfl)), h.n0, h.n1, h.n2, h.n3, h.d, h.dx, h.dy⟩, k.below hN (fun z hz => by rw [List.mem_singleton.1 hz]; exact hb1), k⟩
theorem Two.model (h : Two N w xb b0 b1 yb m0 m1 s0 s1 t0 t1) (hN : N ≤ w.heap.size) (i : Nat) {r : BrdT} {ad : Option Addr} (ha : apart ad b0 b1 m0 m1) (q : ModQ w (sl i m0 m1) ad r w') : Two N w' xb b0 b1 yb m0 m1 s0 s1 (sl i r t0) (sl i t1 r) ∧ Below N w w' ∧ Upd [sl i m0 m1] w w' := by
  obtain ⟨e1, e2, e3, e4, e5, e6⟩ := h.d
  obtain ⟨x1, x2, x3, x4⟩ := h.dx
  obtain ⟨y1, y2, y3, y4⟩ := h.dy
  obtain ⟨z0, z1, z2, z3, z4, z5⟩ := h.zs
  have hb := h.n2
  have hb1 := h.n3
  obtain ⟨ad', cap', q1, qd, k⟩ := q
  have ha' : apart ad' b0 b1 m0 m1 := by
    rcases qd with rfl | qd
    · exact ha
    · intro g hg
      have := qd g hg
      exact ⟨by omega, by omega, by omega, by omega⟩
  unfold sl at *
  split at q1
  · rename_i hi
    rw [if_pos hi] at k ⊢
    rw [if_pos hi, if_pos hi]
    exact ⟨⟨h.xs.upd k (by simp; exact x3), h.ys.upd k (by simp; exact y3), h.r0.upd k (by simp; exact e2), h.r1.upd k (by simp; exact e4), ⟨ad', cap', q1, ha'⟩, h.k1.upd k (fun e => e6 e.symm) (.inr (.inr (.inl rfl))), h.n0, h.n1, h.n2, h.n3, h.d, h.dx, h.dy⟩, k.below hN (fun z hz => by rw [List.mem_singleton.1 hz]; exact hb), k⟩
  · rename_i hi
    rw [if_neg hi] at k ⊢
    rw [if_neg hi, if_neg hi]
    exact ⟨⟨h.xs.upd k (by simp; exact x4), h.ys.upd k (by simp; exact y4), h.r0.upd k (by simp; exact e3), h.r1.upd k (by simp; exact e5), h.k0.upd k e6 (.inr (.inr (.inr rfl))), ⟨ad', cap', q1, ha'⟩, h.n0, h.n1, h.n2, h.n3, h.d, h.dx, h.dy⟩, k.below hN (fun z hz => by rw [List.mem_singleton.1 hz]; exact hb1), k⟩
end
abbrev z4 : BrdT := (0, 0, 0, 0)
abbrev slc (b : Nat) : Value := .slice (some ⟨b, 0, none⟩) 2 2
set_option maxHeartbeats 1000000 in
theorem fresh_any (w : World) : Calls Try.prog 14 #[] w fun e w' => ∃ xb b0 b1, e = .returned (slc xb) ∧ Blk w' xb #[ptr b0, ptr b1] 34 ∧ frR w' b0 z4 ∧ frR w' b1 z4 ∧ w.heap.size ≤ b0 ∧ b0 < b1 ∧ b1 < xb ∧ Below w.heap.size w w' := by
  go_enter Try.func14, Try.ntmps14
  go_wp2_with fail
  refine (wNew_any w).mono ?_
  rintro e w1 ⟨rfl, r1, d1⟩
  go_wp2_with fail
  refine (wNew_any w1).mono ?_
  rintro e w2 ⟨rfl, r2, d2⟩
  have l1 := r1.head.lt
  have l2 := r2.head.lt
  have r1' := r1.later d2
  have bb := d1.trans (d2.mono d1.size)
  have hz := d1.size
  go_wp2
  go_ret
  have aB := (Below.refl w2.heap.size w2).alloc (Nat.le_refl _) (.cells #[ptr w.heap.size, ptr w1.heap.size] 34)
  exact ⟨w2.heap.size, w.heap.size, w1.heap.size, rfl, Blk.new rfl, r1'.later aB, r2.later aB, Nat.le_refl _, l1, l2, bb.alloc bb.size _⟩
set_option maxHeartbeats 1000000 in
theorem freshM_any (w : World) : Calls Try.prog 55 #[] w fun e w' => ∃ xb b0 b1, e = .returned (slc xb) ∧ Blk w' xb #[ptr b0, ptr b1] 73 ∧ MbR w' b0 none 0 0 0 0 0 ∧ MbR w' b1 none 0 0 0 0 0 ∧ w.heap.size ≤ b0 ∧ b0 < b1 ∧ b1 < xb ∧ Below w.heap.size w w' := by
  go_enter Try.func55, Try.ntmps55
  go_wp2_with fail
  refine (mNew_any w).mono ?_
  rintro e w1 ⟨rfl, r1, d1⟩
  go_wp2_with fail
  refine (mNew_any w1).mono ?_
  rintro e w2 ⟨rfl, r2, d2⟩
  have l1 := r1.head.lt
  have l2 := r2.head.lt
  have r1' := r1.later d2
  have bb := d1.trans (d2.mono d1.size)
  have hz := d1.size
  go_wp2
  go_ret
  have aB := (Below.refl w2.heap.size w2).alloc (Nat.le_refl _) (.cells #[ptr w.heap.size, ptr w1.heap.size] 73)
  exact ⟨w2.heap.size, w.heap.size, w1.heap.size, rfl, Blk.new rfl, r1'.later aB, r2.later aB, Nat.le_refl _, l1, l2, bb.alloc bb.size _⟩
theorem Two.make {N : Nat} {w : World} {xb b0 b1 yb m0 m1 : Nat} (xs : Blk w xb #[ptr b0, ptr b1] 34) (r0 : frR w b0 z4) (r1 : frR w b1 z4) (ys : Blk w yb #[ptr m0, ptr m1] 73) (k0 : MbR w m0 none 0 0 0 0 0) (k1 : MbR w m1 none 0 0 0 0 0) (h1 : N ≤ b0) (h2 : b0 < b1) (h3 : b1 < xb) (h4 : xb < m0) (h5 : m0 < m1) (h6 : m1 < yb) : Two N w xb b0 b1 yb m0 m1 z4 z4 z4 z4 :=
  ⟨xs, ys, r0, r1, ⟨none, 0, k0, fun g hg => by cases hg⟩, ⟨none, 0, k1, fun g hg => by cases hg⟩, h1, by omega, by omega, by omega, ⟨by omega, by omega, by omega, by omega, by omega, by omega⟩, ⟨by omega, by omega, by omega, by omega⟩, ⟨by omega, by omega, by omega, by omega⟩⟩
def nextW (i : Nat) (K : Int) : Nat := if K = 1 then 0 else if K = 2 then 1 - i else i
theorem nextW_le (i : Nat) (K : Int) (h : i ≤ 1) : nextW i K ≤ 1 := by unfold nextW; split; omega; split <;> omega
set_option maxHeartbeats 1000000 in
theorem next_any (w : World) (i : Nat) (hi : i ≤ 1) (K A B C : Int) (s t : ByteArray) : Calls Try.prog 15 #[I i, OpV K A B C s t] w fun e w' => e = .returned (I (nextW i K : Nat)) ∧ Below w.heap.size w w' := by
  unfold nextW
  by_cases k1 : K = 1
  · subst k1
    rw [if_pos rfl]
    go_enter Try.func15, Try.ntmps15
    go_wp2
    go_ret
    exact ⟨rfl, (Below.refl _ _).alloc (Nat.le_refl _) _⟩
  rw [if_neg k1]
  have e1 : (K == 1) = false := by simpa using k1
  by_cases k2 : K = 2
  · subst k2
    rw [if_pos rfl]
    have q1 : (1 : Int) - (i : Int) = ((1 - i : Nat) : Int) := by omega
    have q2 := wr64 (((1 - i : Nat) : Int)) (by omega) (by omega)
    go_enter Try.func15, Try.ntmps15
    go_wp2
    go_ret
    exact ⟨rfl, (Below.refl _ _).alloc (Nat.le_refl _) _⟩
  rw [if_neg k2]
  have e2 : (K == 2) = false := by simpa using k2
  go_enter Try.func15, Try.ntmps15
  go_wp2
  go_ret
  exact ⟨rfl, (Below.refl _ _).alloc (Nat.le_refl _) _⟩
set_option maxHeartbeats 1000000 in
theorem ground_any (w : World) : Calls Try.prog 54 #[] w fun e w' => e = .returned (.agg #[]) ∧ Below w.heap.size w w' := by
  go_enter Try.func54, Try.ntmps54
  go_wp2
  have BR : Blk (w.alloc (.cells #[] 68)) w.heap.size #[] 68 := Blk.new rfl
  exact ret_row Try.results54 rfl rfl BR Try.underlying68 rfl (by kernel_rfl) ⟨rfl, (Below.refl _ _).alloc (Nat.le_refl _) _⟩
end Go.Proofs.Qxb6500469a
