import Derived.Test.Qxb6500470aTw2
namespace Go.Proofs.Qxb6500470a
open Go.RowKit
set_option maxRecDepth 100000 in
set_option maxHeartbeats 2000000 in
theorem doM_run {L : Nat → Prop} {w : World} {m1 p1 m2 : Nat} {acc acc2 : Int} {st st2 : List TV} (h : TwoC L w m1 p1 m2 acc st acc2 st2) (a b c : Int) (s : List UInt8) (t : ByteArray) (hs : s.length < 9223372036854775808) (R : ResT) (hR : runAllT s acc2 st2 = R) :
    Calls Try.prog 53 #[ptr m2, .agg #[I 1, I a, I b, I c, S s, .string t]] w fun e w' => e = .returned (.agg #[I R.2.1, I R.1, I 0, S []]) ∧ TwoC L w' m1 p1 m2 acc st R.2.2.1 R.2.2.2 ∧ Kept L w w' := by
  go_enter Try.func53, Try.ntmps53
  go_wp2_with fail
  refine (two_runM (dos_pre h _ _ _) s hs R hR).mono ?_
  rintro e w1 ⟨rfl, t1, k1⟩
  obtain ⟨D, T1, T2⟩ := dos_aft h t1 k1
  obtain ⟨f1, f2, f3⟩ := T1.facts
  obtain ⟨g1, g2, g3⟩ := T2.facts
  have ne1 : w.heap.size + 1 ≠ w.heap.size + 1 + 1 := by omega
  have ne2 : w.heap.size + 1 + 1 ≠ w.heap.size + 1 := by omega
  go_wp2
  exact ret_row Try.results53 rfl rfl (T1.other (a := ⟨w.heap.size + 1 + 1, 1, none⟩) ne1 _ |>.other (a := ⟨w.heap.size + 1 + 1, 0, none⟩) ne1 _ |>.set (i := 0) _ |>.set (i := 1) _ |>.set (i := 2) _ |>.set (i := 3) _) Try.underlying57 rfl (by kernel_rfl) ⟨rfl, (D.s2 1 _ |>.s2 0 _ |>.s1 0 _ |>.s1 1 _ |>.s1 2 _ |>.s1 3 _).out⟩
set_option maxRecDepth 100000 in
set_option maxHeartbeats 2000000 in
theorem doM_show {L : Nat → Prop} {w : World} {m1 p1 m2 : Nat} {acc acc2 : Int} {st st2 : List TV} (h : TwoC L w m1 p1 m2 acc st acc2 st2) (a b c : Int) (s : List UInt8) (t : ByteArray) :
    Calls Try.prog 53 #[ptr m2, .agg #[I 2, I a, I b, I c, S s, .string t]] w fun e w' => e = .returned (.agg #[I 0, I 0, I 0, S (macTx acc2 st2)]) ∧ TwoC L w' m1 p1 m2 acc st acc2 st2 ∧ Kept L w w' := by
  go_enter Try.func53, Try.ntmps53
  go_wp2_with fail
  refine (two_showM (dos_pre h _ _ _)).mono ?_
  rintro e w1 ⟨rfl, t1, k1⟩
  obtain ⟨D, T1, T2⟩ := dos_aft h t1 k1
  obtain ⟨f1, f2, f3⟩ := T1.facts
  obtain ⟨g1, g2, g3⟩ := T2.facts
  have ne1 : w.heap.size + 1 ≠ w.heap.size + 1 + 1 := by omega
  have ne2 : w.heap.size + 1 + 1 ≠ w.heap.size + 1 := by omega
  go_wp2
  exact ret_row Try.results53 rfl rfl (T1.other (a := ⟨w.heap.size + 1 + 1, 3, none⟩) ne1 _ |>.set (i := 0) _ |>.set (i := 1) _ |>.set (i := 2) _ |>.set (i := 3) _) Try.underlying57 rfl (by kernel_rfl) ⟨rfl, (D.s2 3 _ |>.s1 0 _ |>.s1 1 _ |>.s1 2 _ |>.s1 3 _).out⟩
set_option maxRecDepth 100000 in
set_option maxHeartbeats 2000000 in
theorem doM_check {L : Nat → Prop} {w : World} {m1 p1 m2 : Nat} {acc acc2 : Int} {st st2 : List TV} (h : TwoC L w m1 p1 m2 acc st acc2 st2) (a b c : Int) (s : List UInt8) (t : ByteArray) :
    Calls Try.prog 53 #[ptr m2, .agg #[I 3, I a, I b, I c, S s, .string t]] w fun e w' => e = .returned (.agg #[I 0, I 1, I 0, S []]) ∧ TwoC L w' m1 p1 m2 acc st acc2 st2 ∧ Kept L w w' := by
  go_enter Try.func53, Try.ntmps53
  go_wp2_with fail
  refine (two_checkM (dos_pre h _ _ _)).mono ?_
  rintro e w1 ⟨rfl, t1, k1⟩
  obtain ⟨D, T1, T2⟩ := dos_aft h t1 k1
  obtain ⟨f1, f2, f3⟩ := T1.facts
  obtain ⟨g1, g2, g3⟩ := T2.facts
  have ne1 : w.heap.size + 1 ≠ w.heap.size + 1 + 1 := by omega
  have ne2 : w.heap.size + 1 + 1 ≠ w.heap.size + 1 := by omega
  go_wp2
  exact ret_row Try.results53 rfl rfl (T1.other (a := ⟨w.heap.size + 1 + 1, 1, none⟩) ne1 _ |>.set (i := 0) _ |>.set (i := 1) _ |>.set (i := 2) _ |>.set (i := 3) _) Try.underlying57 rfl (by kernel_rfl) ⟨rfl, (D.s2 1 _ |>.s1 0 _ |>.s1 1 _ |>.s1 2 _ |>.s1 3 _).out⟩
set_option maxRecDepth 100000 in
set_option maxHeartbeats 2000000 in
theorem doM_other {L : Nat → Prop} {w : World} {m1 p1 m2 : Nat} {acc acc2 : Int} {st st2 : List TV} (h : TwoC L w m1 p1 m2 acc st acc2 st2) (a b c : Int) (s : List UInt8) (t : ByteArray) (K : Int) (k1 : K ≠ 1) (k2 : K ≠ 2) (k3 : K ≠ 3) :
    Calls Try.prog 53 #[ptr m2, .agg #[I K, I a, I b, I c, S s, .string t]] w fun e w' => e = .returned (.agg #[I 0, I 0, I 0, S []]) ∧ TwoC L w' m1 p1 m2 acc st acc2 st2 ∧ Kept L w w' := by
  have q1 : (K == 1) = false := by simpa using k1
  have q2 : (K == 2) = false := by simpa using k2
  have q3 : (K == 3) = false := by simpa using k3
  go_enter Try.func53, Try.ntmps53
  go_wp2
  have T1 : Blk (((w.alloc (.cells #[I K, I a, I b, I c, S s, .string t] 50)).alloc (.cells #[I 0, I 0, I 0, S []] 57)).alloc (.cells #[I 0, I 0, I 0, S []] 57)) (w.heap.size + 1) #[I 0, I 0, I 0, S []] 57 := (Blk.new (by simp)).old _
  obtain ⟨D, -, -⟩ := dos_aft h (dos_pre h (.cells #[I K, I a, I b, I c, S s, .string t] 50) (.cells #[I 0, I 0, I 0, S []] 57) (.cells #[I 0, I 0, I 0, S []] 57)) (Kept.refl _ _)
  exact ret_row Try.results53 rfl rfl T1 Try.underlying57 rfl (by kernel_rfl) ⟨rfl, D.out⟩
end Go.Proofs.Qxb6500470a
