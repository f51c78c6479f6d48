import Derived.Test.Qxb6500468aPm1
namespace Go.Proofs.Qxb6500468a
open Go.RowKit

set_option maxHeartbeats 2000000 in
set_option maxRecDepth 100000 in
theorem mpack_any (k d l f s : Int) (h : goodH k d l f s) (w : World) : Calls Try.prog 23 #[HdV k d l f s] w fun e w' => e = .returned (W64 (packN k d l f s)) ∧ Below w.heap.size w w' := by
  obtain ⟨g0, g1, g2, g3, g4, g5, g6, g7, g8, g9⟩ := h
  obtain ⟨k1, hk1⟩ : ∃ k1, k1 = (k + 0) % 256 - 0 := ⟨_, rfl⟩
  obtain ⟨d1, hd1⟩ : ∃ d1, d1 = (d + 0) % 65536 - 0 := ⟨_, rfl⟩
  have hv : ((packN k d l f s : Nat) : Int) = k1 + d1 * 256 + l * 16777216 + f * 1099511627776 + s * 35184372088832 := by unfold packN; omega
  have hlt := packN_lt k d l f s
  obtain ⟨P, hP⟩ : ∃ P, P = packN k d l f s := ⟨_, rfl⟩
  rw [← hP] at hv hlt
  rw [← hP]
  have b0 := (Below.refl w.heap.size w).alloc (Nat.le_refl _) (.cells #[I k, I d, I l, I f, I s] 27)
  have BH : Blk (w.alloc (.cells #[I k, I d, I l, I f, I s] 27)) w.heap.size #[I k, I d, I l, I f, I s] 27 := Blk.new rfl
  have hu : IntKind.u64.wrap (k1 + d1 * 256 + l * 16777216 + f * 1099511627776 + s * 35184372088832) = (P : Int) := by rw [IntKind.wrap_u64]; omega
  have W1 := wrap_u8 k
  have W2 := wrap_u16 d
  rw [← hk1] at W1
  rw [← hd1] at W2
  have a1 := wr64 (d1 * 256) (by omega) (by omega)
  have a2 := wr64 (k1 + d1 * 256) (by omega) (by omega)
  have a3 := wr64 (l * 16777216) (by omega) (by omega)
  have a4 := wr64 (k1 + d1 * 256 + l * 16777216) (by omega) (by omega)
  have a5 := wr64 (f * 1099511627776) (by omega) (by omega)
  have a6 := wr64 (k1 + d1 * 256 + l * 16777216 + f * 1099511627776) (by omega) (by omega)
  have a7 := wr64 (s * 35184372088832) (by omega) (by omega)
  have a8 := wr64 (k1 + d1 * 256 + l * 16777216 + f * 1099511627776 + s * 35184372088832) (by omega) (by omega)
  clear hk1 hd1 hv hlt hP g0 g1 g2 g3 g4 g5 g6 g7 g8 g9
  go_enter Try.func23, Try.ntmps23
  go_wp2_with fail
  refine (W1 _).mono ?_
  rintro e w1 ⟨rfl, b1⟩
  have BH1 := BH.below b1 BH.lt
  have bb1 := b0.trans (b1.mono b0.size)
  clear W1 BH b0 b1
  obtain ⟨c0, c1, c2⟩ := BH1.facts
  go_wp2_with fail
  refine (W2 _).mono ?_
  rintro e w2 ⟨rfl, b2⟩
  have BH2 := BH1.below b2 BH1.lt
  have bb2 := bb1.trans (b2.mono bb1.size)
  clear W2 c0 c1 c2 BH1 bb1 b2
  obtain ⟨c0, c1, c2⟩ := BH2.facts
  go_wp2
  go_ret
  exact ⟨rfl, bb2⟩

set_option maxHeartbeats 2000000 in
set_option maxRecDepth 100000 in
theorem munpack_any (n : Nat) (hn : n < 72057594037927936) (w : World) : Calls Try.prog 25 #[W64 n] w fun e w' => e = .returned (HdV (unK n) (unD n) (unL n) (unF n) (unS n)) ∧ Below w.heap.size w w' := by
  obtain ⟨n0, h0⟩ : ∃ x : Int, x = (n : Int) % 256 := ⟨_, rfl⟩
  obtain ⟨n1, h1⟩ : ∃ x : Int, x = (n : Int) / 256 := ⟨_, rfl⟩
  obtain ⟨n2, h2⟩ : ∃ x : Int, x = n1 % 65536 := ⟨_, rfl⟩
  obtain ⟨n3, h3⟩ : ∃ x : Int, x = n1 / 65536 := ⟨_, rfl⟩
  obtain ⟨n4, h4⟩ : ∃ x : Int, x = n3 % 65536 := ⟨_, rfl⟩
  obtain ⟨n5, h5⟩ : ∃ x : Int, x = n3 / 65536 := ⟨_, rfl⟩
  obtain ⟨n6, h6⟩ : ∃ x : Int, x = n5 % 32 := ⟨_, rfl⟩
  obtain ⟨n7, h7⟩ : ∃ x : Int, x = n5 / 32 := ⟨_, rfl⟩
  have eL : unL n = n4 := by unfold unL; omega
  have eF : unF n = n6 := by unfold unF; omega
  have eS : unS n = n7 := by unfold unS; omega
  have eK : (n0 + 128) % 256 - 128 = unK n := by unfold unK; omega
  have eD : (n2 + 32768) % 65536 - 32768 = unD n := by unfold unD; omega
  have W1 := wrap_i8 n0
  have W2 := wrap_i16 n2
  rw [eK] at W1
  rw [eD] at W2
  rw [eL, eF, eS]
  have t0 : (n : Int).tmod 72057594037927936 = (n : Int) := by rw [Int.tmod_eq_emod_of_nonneg (by omega)]; omega
  have t1 : (n : Int).tmod 256 = n0 := by rw [Int.tmod_eq_emod_of_nonneg (by omega)]; omega
  have t2 : (n : Int).tdiv 256 = n1 := by rw [Int.tdiv_eq_ediv_of_nonneg (by omega)]; omega
  have t3 : n1.tmod 65536 = n2 := by rw [Int.tmod_eq_emod_of_nonneg (by omega)]; omega
  have t4 : n1.tdiv 65536 = n3 := by rw [Int.tdiv_eq_ediv_of_nonneg (by omega)]; omega
  have t5 : n3.tmod 65536 = n4 := by rw [Int.tmod_eq_emod_of_nonneg (by omega)]; omega
  have t6 : n3.tdiv 65536 = n5 := by rw [Int.tdiv_eq_ediv_of_nonneg (by omega)]; omega
  have t7 : n5.tmod 32 = n6 := by rw [Int.tmod_eq_emod_of_nonneg (by omega)]; omega
  have t8 : n5.tdiv 32 = n7 := by rw [Int.tdiv_eq_ediv_of_nonneg (by omega)]; omega
  have i0 := wr64 (n : Int) (by omega) (by omega)
  have i1 := wr64 n1 (by omega) (by omega)
  have i3 := wr64 n3 (by omega) (by omega)
  have i5 := wr64 n5 (by omega) (by omega)
  have i7 := wr64 n7 (by omega) (by omega)
  have iu : IntKind.u64.wrap (n : Int) = (n : Int) := by rw [IntKind.wrap_u64]; omega
  clear h0 h1 h2 h3 h4 h5 h6 h7 eL eF eS eK eD
  generalize unK n = zk at *
  generalize unD n = zd at *
  have b0 := ((Below.refl w.heap.size w).alloc (Nat.le_refl _) (.cells #[I 0, I 0, I 0, I 0, I 0] 27)).alloc (by simp) (.cells #[I 0, I 0, I 0, I 0, I 0] 27)
  have BR : Blk ((w.alloc (.cells #[I 0, I 0, I 0, I 0, I 0] 27)).alloc (.cells #[I 0, I 0, I 0, I 0, I 0] 27)) w.heap.size #[I 0, I 0, I 0, I 0, I 0] 27 := (Blk.new rfl).old _
  have BH : Blk ((w.alloc (.cells #[I 0, I 0, I 0, I 0, I 0] 27)).alloc (.cells #[I 0, I 0, I 0, I 0, I 0] 27)) (w.heap.size + 1) #[I 0, I 0, I 0, I 0, I 0] 27 := Blk.new (by simp)
  go_enter Try.func25, Try.ntmps25
  go_wp2_with fail
  refine (W1 _).mono ?_
  rintro e w1 ⟨rfl, b1⟩
  have BR1 := BR.below b1 BR.lt
  have BH1 := BH.below b1 BH.lt
  have bb1 := b0.trans (b1.mono b0.size)
  clear W1 BR BH b0 b1
  obtain ⟨c0, c1, c2⟩ := BH1.facts
  have U1 : Upd [w.heap.size + 1] w1 _ := (Upd.refl _ w1).setCell (p := ⟨w.heap.size + 1, 0, none⟩) (by simp) (I zk)
  have BR2 := BR1.upd U1 (by simp)
  have BH2 := BH1.set (i := 0) (I zk)
  have bb2 := bb1.setCell (p := ⟨w.heap.size + 1, 0, none⟩) (by simp) (I zk)
  go_wp2_with fail
  clear c0 c1 c2 U1 BR1 BH1 bb1
  generalize w1.setCell ⟨w.heap.size + 1, 0, none⟩ (I zk) = v2 at *
  refine (W2 _).mono ?_
  rintro e w3 ⟨rfl, b3⟩
  have BR3 := BR2.below b3 BR2.lt
  have BH3 := BH2.below b3 BH2.lt
  have bb3 := bb2.trans (b3.mono bb2.size)
  clear W2 BR2 BH2 bb2 b3
  obtain ⟨c0, c1, c2⟩ := BH3.facts
  obtain ⟨r0, r1, r2⟩ := BR3.facts
  go_wp2
  have hne : w.heap.size ≠ w.heap.size + 1 := by omega
  have BRF := ((((((((BR3.other (a := ⟨w.heap.size + 1, 1, none⟩) hne (I zd)).other (a := ⟨w.heap.size + 1, 2, none⟩) hne (I n4)).other (a := ⟨w.heap.size + 1, 3, none⟩) hne (I n6)).other (a := ⟨w.heap.size + 1, 4, none⟩) hne (I n7)).set (i := 0) (I zk)).set (i := 1) (I zd)).set (i := 2) (I n4)).set (i := 3) (I n6)).set (i := 4) (I n7)
  exact ret_row Try.results25 rfl rfl BRF Try.underlying27 rfl (by kernel_rfl) ⟨rfl, ((((((((bb3.setCell (by simp) _).setCell (by simp) _).setCell (by simp) _).setCell (by simp) _).setCell (Nat.le_refl _) _).setCell (Nat.le_refl _) _).setCell (Nat.le_refl _) _).setCell (Nat.le_refl _) _).setCell (Nat.le_refl _) _⟩
end Go.Proofs.Qxb6500468a
