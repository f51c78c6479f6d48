import Derived.Test.Qxb6500470aTw1
namespace Go.Proofs.Qxb6500470a
open Go.RowKit
/-- Inside Do, behind the call: the machines, and the two answers' cells. -/
structure DoS (L : Nat → Prop) (w W : World) (m1 p1 m2 : Nat) (acc : Int) (st : List TV) (acc2 : Int) (st2 : List TV) : Prop where
  two : TwoC L W m1 p1 m2 acc st acc2 st2
  kept : Kept L w W
  t1 : ∃ c, Blk W (w.heap.size + 1) c 57
  t2 : ∃ c, Blk W (w.heap.size + 1 + 1) c 57
  lt : ∀ k, L k → k < w.heap.size
section
variable {L : Nat → Prop} {w W : World} {m1 p1 m2 : Nat} {acc acc2 : Int} {st st2 : List TV}
theorem DoS.s1 (h : DoS L w W m1 p1 m2 acc st acc2 st2) (i : Nat) (v : Value) : DoS L w (W.setCell ⟨w.heap.size + 1, i, none⟩ v) m1 p1 m2 acc st acc2 st2 := by
  obtain ⟨c1, h1⟩ := h.t1
  obtain ⟨c2, h2⟩ := h.t2
  exact ⟨h.two.set h1 i v, h.kept.setCell (fun e => by have := h.lt _ e; dsimp only at this; omega) v, ⟨_, h1.set (i := i) v⟩, ⟨_, h2.other (by dsimp only; omega) v⟩, h.lt⟩
theorem DoS.s2 (h : DoS L w W m1 p1 m2 acc st acc2 st2) (i : Nat) (v : Value) : DoS L w (W.setCell ⟨w.heap.size + 1 + 1, i, none⟩ v) m1 p1 m2 acc st acc2 st2 := by
  obtain ⟨c1, h1⟩ := h.t1
  obtain ⟨c2, h2⟩ := h.t2
  exact ⟨h.two.set h2 i v, h.kept.setCell (fun e => by have := h.lt _ e; dsimp only at this; omega) v, ⟨_, h1.other (by dsimp only; omega) v⟩, ⟨_, h2.set (i := i) v⟩, h.lt⟩
theorem DoS.out (h : DoS L w W m1 p1 m2 acc st acc2 st2) : TwoC L W m1 p1 m2 acc st acc2 st2 ∧ Kept L w W := ⟨h.two, h.kept⟩
def LL (L : Nat → Prop) (w : World) (k : Nat) : Prop := L k ∨ (w.heap.size ≤ k ∧ k < w.heap.size + 3)
theorem dos_pre (h : TwoC L w m1 p1 m2 acc st acc2 st2) (o1 o2 o3 : Obj) : TwoC (LL L w) (((w.alloc o1).alloc o2).alloc o3) m1 p1 m2 acc st acc2 st2 := by
  have b : Below w.heap.size w (((w.alloc o1).alloc o2).alloc o3) := (((Below.refl _ _).alloc (Nat.le_refl _) _).alloc (by simp) _).alloc (by simp; omega) _
  refine (h.grow b).weak ?_
  rintro k (hk | hk)
  · exact .inl hk
  · exact .inr ⟨hk.1, by simp; omega⟩
theorem dos_aft {w1 : World} {o1 : Obj} {z : Array Value} {acc0 acc20 : Int} {st0 st20 : List TV} (h0 : TwoC L w m1 p1 m2 acc0 st0 acc20 st20) (h : TwoC (LL L w) w1 m1 p1 m2 acc st acc2 st2) (kk : Kept (LL L w) (((w.alloc o1).alloc (.cells z 57)).alloc (.cells z 57)) w1) :
    DoS L w w1 m1 p1 m2 acc st acc2 st2 ∧ Blk w1 (w.heap.size + 1) z 57 ∧ Blk w1 (w.heap.size + 1 + 1) z 57 := by
  have b : Below w.heap.size w (((w.alloc o1).alloc (.cells z 57)).alloc (.cells z 57)) := (((Below.refl _ _).alloc (Nat.le_refl _) _).alloc (by simp) _).alloc (by simp; omega) _
  have b1 : Blk ((w.alloc o1).alloc (.cells z 57)) (w.heap.size + 1) z 57 := Blk.new (by simp)
  have b1' := (b1.old (.cells z 57)).kept kk (.inr ⟨by omega, by omega⟩)
  have b2 : Blk (((w.alloc o1).alloc (.cells z 57)).alloc (.cells z 57)) (w.heap.size + 1 + 1) z 57 := Blk.new (by simp)
  have b2' := b2.kept kk (.inr ⟨by omega, by omega⟩)
  exact ⟨⟨h.weak (fun _ h => .inl h), (Kept.of_below b h0.lt).trans (kk.weak (fun _ h => .inl h)), ⟨z, b1'⟩, ⟨z, b2'⟩, h0.lt⟩, b1', b2'⟩
end
set_option maxRecDepth 100000 in
set_option maxHeartbeats 2000000 in
theorem do_run {L : Nat → Prop} {w : World} {m1 p1 m2 : Nat} {acc acc2 : Int} {st st2 : List TV} (h : TwoC L w m1 p1 m2 acc st acc2 st2) (a b c : Int) (s : List UInt8) (t : ByteArray) (hs : s.length < 9223372036854775808) (R : ResT) (hR : runAllT s acc st = R) :
    Calls Try.prog 52 #[ptr m1, .agg #[I 1, I a, I b, I c, S s, .string t]] w fun e w' => e = .returned (.agg #[I R.2.1, I R.1, I 0, S []]) ∧ TwoC L w' m1 p1 m2 R.2.2.1 R.2.2.2 acc2 st2 ∧ Kept L w w' := by
  go_enter Try.func52, Try.ntmps52
  go_wp2_with fail
  refine (two_run (dos_pre h _ _ _) s hs R hR).mono ?_
  rintro e w1 ⟨rfl, t1, k1⟩
  obtain ⟨D, T1, T2⟩ := dos_aft h t1 k1
  obtain ⟨f1, f2, f3⟩ := T1.facts
  obtain ⟨g1, g2, g3⟩ := T2.facts
  have ne1 : w.heap.size + 1 ≠ w.heap.size + 1 + 1 := by omega
  have ne2 : w.heap.size + 1 + 1 ≠ w.heap.size + 1 := by omega
  go_wp2
  exact ret_row Try.results52 rfl rfl (T1.other (a := ⟨w.heap.size + 1 + 1, 1, none⟩) ne1 _ |>.other (a := ⟨w.heap.size + 1 + 1, 0, none⟩) ne1 _ |>.set (i := 0) _ |>.set (i := 1) _ |>.set (i := 2) _ |>.set (i := 3) _) Try.underlying57 rfl (by kernel_rfl) ⟨rfl, (D.s2 1 _ |>.s2 0 _ |>.s1 0 _ |>.s1 1 _ |>.s1 2 _ |>.s1 3 _).out⟩
set_option maxRecDepth 100000 in
set_option maxHeartbeats 2000000 in
theorem do_show {L : Nat → Prop} {w : World} {m1 p1 m2 : Nat} {acc acc2 : Int} {st st2 : List TV} (h : TwoC L w m1 p1 m2 acc st acc2 st2) (a b c : Int) (s : List UInt8) (t : ByteArray) :
    Calls Try.prog 52 #[ptr m1, .agg #[I 2, I a, I b, I c, S s, .string t]] w fun e w' => e = .returned (.agg #[I 0, I 0, I 0, S (macTx acc st)]) ∧ TwoC L w' m1 p1 m2 acc st acc2 st2 ∧ Kept L w w' := by
  go_enter Try.func52, Try.ntmps52
  go_wp2_with fail
  refine (two_show (dos_pre h _ _ _)).mono ?_
  rintro e w1 ⟨rfl, t1, k1⟩
  obtain ⟨D, T1, T2⟩ := dos_aft h t1 k1
  obtain ⟨f1, f2, f3⟩ := T1.facts
  obtain ⟨g1, g2, g3⟩ := T2.facts
  have ne1 : w.heap.size + 1 ≠ w.heap.size + 1 + 1 := by omega
  have ne2 : w.heap.size + 1 + 1 ≠ w.heap.size + 1 := by omega
  go_wp2
  exact ret_row Try.results52 rfl rfl (T1.other (a := ⟨w.heap.size + 1 + 1, 3, none⟩) ne1 _ |>.set (i := 0) _ |>.set (i := 1) _ |>.set (i := 2) _ |>.set (i := 3) _) Try.underlying57 rfl (by kernel_rfl) ⟨rfl, (D.s2 3 _ |>.s1 0 _ |>.s1 1 _ |>.s1 2 _ |>.s1 3 _).out⟩
set_option maxRecDepth 100000 in
set_option maxHeartbeats 2000000 in
theorem do_check {L : Nat → Prop} {w : World} {m1 p1 m2 : Nat} {acc acc2 : Int} {st st2 : List TV} (h : TwoC L w m1 p1 m2 acc st acc2 st2) (a b c : Int) (s : List UInt8) (t : ByteArray) :
    Calls Try.prog 52 #[ptr m1, .agg #[I 3, I a, I b, I c, S s, .string t]] w fun e w' => e = .returned (.agg #[I 0, I 1, I 0, S []]) ∧ TwoC L w' m1 p1 m2 acc st acc2 st2 ∧ Kept L w w' := by
  go_enter Try.func52, Try.ntmps52
  go_wp2_with fail
  refine (two_check (dos_pre h _ _ _)).mono ?_
  rintro e w1 ⟨rfl, t1, k1⟩
  obtain ⟨D, T1, T2⟩ := dos_aft h t1 k1
  obtain ⟨f1, f2, f3⟩ := T1.facts
  obtain ⟨g1, g2, g3⟩ := T2.facts
  have ne1 : w.heap.size + 1 ≠ w.heap.size + 1 + 1 := by omega
  have ne2 : w.heap.size + 1 + 1 ≠ w.heap.size + 1 := by omega
  go_wp2
  exact ret_row Try.results52 rfl rfl (T1.other (a := ⟨w.heap.size + 1 + 1, 1, none⟩) ne1 _ |>.set (i := 0) _ |>.set (i := 1) _ |>.set (i := 2) _ |>.set (i := 3) _) Try.underlying57 rfl (by kernel_rfl) ⟨rfl, (D.s2 1 _ |>.s1 0 _ |>.s1 1 _ |>.s1 2 _ |>.s1 3 _).out⟩
set_option maxRecDepth 100000 in
set_option maxHeartbeats 2000000 in
theorem do_other {L : Nat → Prop} {w : World} {m1 p1 m2 : Nat} {acc acc2 : Int} {st st2 : List TV} (h : TwoC L w m1 p1 m2 acc st acc2 st2) (a b c : Int) (s : List UInt8) (t : ByteArray) (K : Int) (k1 : K ≠ 1) (k2 : K ≠ 2) (k3 : K ≠ 3) :
    Calls Try.prog 52 #[ptr m1, .agg #[I K, I a, I b, I c, S s, .string t]] w fun e w' => e = .returned (.agg #[I 0, I 0, I 0, S []]) ∧ TwoC L w' m1 p1 m2 acc st acc2 st2 ∧ Kept L w w' := by
  have q1 : (K == 1) = false := by simpa using k1
  have q2 : (K == 2) = false := by simpa using k2
  have q3 : (K == 3) = false := by simpa using k3
  go_enter Try.func52, Try.ntmps52
  go_wp2
  have T1 : Blk (((w.alloc (.cells #[I K, I a, I b, I c, S s, .string t] 50)).alloc (.cells #[I 0, I 0, I 0, S []] 57)).alloc (.cells #[I 0, I 0, I 0, S []] 57)) (w.heap.size + 1) #[I 0, I 0, I 0, S []] 57 := (Blk.new (by simp)).old _
  obtain ⟨D, -, -⟩ := dos_aft h (dos_pre h (.cells #[I K, I a, I b, I c, S s, .string t] 50) (.cells #[I 0, I 0, I 0, S []] 57) (.cells #[I 0, I 0, I 0, S []] 57)) (Kept.refl _ _)
  exact ret_row Try.results52 rfl rfl T1 Try.underlying57 rfl (by kernel_rfl) ⟨rfl, D.out⟩
end Go.Proofs.Qxb6500470a
