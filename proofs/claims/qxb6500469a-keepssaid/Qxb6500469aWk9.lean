import Derived.Test.Qxb6500469aWk8
import Derived.Test.Qxb6500469aWk3a
import Derived.Test.Qxb6500469aWk3b
import Derived.Test.Qxb6500469aWk3c
namespace Go.Proofs.Qxb6500469a
open Go.RowKit

/-- The error that a step on the set owes. -/
def dueE (K A : Int) : Int := if K = 3 ∨ K = 4 ∨ K = 5 then (if 0 ≤ A ∧ A < 64 then 0 else 2) else if K = 7 ∨ K = 8 ∨ K = 9 then (if A = 0 ∨ A = 1 then 0 else 3) else if K = 11 then (if A < -64 ∨ 64 < A then 2 else 0) else 0
def KsOk (w : World) (b : Nat) (K A B C : Int) (s t : ByteArray) (u v : Nat) (r : AnsT × BrdT) : Prop :=
  Calls Try.prog 20 #[ptr b, OpV K A B C s t, AnsV r.1.1 r.1.2.1 r.1.2.2.1 r.1.2.2.2, S (imgF u.testBit 64), S (imgF v.testBit 64)] w fun e w' => e = .returned (.bool true) ∧ Below w.heap.size w w'
theorem cnt_o (W : World) (b U : Nat) (a p q : Int) (h : BdR W b U a p q) (K A B C : Int) (s t : ByteArray) (E N M : Int) (T : List UInt8) (k : K ≠ 13 ∧ K ≠ 14 ∧ K ≠ 15 ∧ K ≠ 6) : Calls Try.prog 48 #[ptr b, S (imgF U.testBit 64), OpV K A B C s t, AnsV E N M T] W fun e' w' => e' = .returned (.bool true) ∧ Below W.heap.size W w' :=
  counted_o W b U a p q h K A B C s t E N M T k.1 k.2.1 k.2.2.1 k.2.2.2
set_option maxHeartbeats 1000000 in
theorem keptSet_any (w : World) (b : Nat) (K A B C : Int) (s t : ByteArray) (u : Nat) (a p q : Int) (v : Nat) (hu : u < 18446744073709551616) (hv : v < 18446744073709551616) (r : AnsT × BrdT) (hr : actW K A B C u a p q v = r) (h : BdR w b r.2.1 r.2.2.1 r.2.2.2.1 r.2.2.2.2) (h1 : K = 1 → u = 0) : KsOk w b K A B C s t u v r := by
  have hD : ∀ W, Calls Try.prog 46 #[OpV K A B C s t] W fun e' w' => e' = .returned (I (dueE K A)) ∧ Below W.heap.size W w' := fun W => dueSet_any W K A B C s t _ rfl
  unfold KsOk
  subst hr
  unfold dueE at hD
  unfold actW at h ⊢
  by_cases k3 : K = 3
  · subst k3
    rw [if_pos rfl] at h ⊢
    rw [if_pos (by simp)] at hD
    by_cases hA : 0 ≤ A ∧ A < 64
    · rw [if_pos hA] at h hD ⊢
      obtain ⟨n, rfl⟩ := Int.eq_ofNat_of_zero_le hA.1
      rw [Int.toNat_natCast] at h ⊢
      exact keptSet_gen w b _ _ _ _ h 3 _ B C s t _ _ _ _ u.testBit v.testBit 0 hD (.inr (.inr rfl)) (fun _ W => owes_3 W _ B C s t _ _ _ (fun k hk => by rw [dec_nat]; exact bit_add u n k)) (fun e => absurd rfl e) (fun W hW => cnt_o W b _ _ _ _ hW _ _ B C s t _ _ _ _ (by decide))
    · rw [if_neg hA] at h hD ⊢
      exact keptSet_gen w b _ _ _ _ h 3 A B C s t _ _ _ _ u.testBit v.testBit 2 hD (.inr (.inr rfl)) (fun e => by cases e) (fun _ => rfl) (fun W hW => cnt_o W b _ _ _ _ hW _ A B C s t _ _ _ _ (by decide))
  rw [if_neg k3] at h ⊢
  by_cases k4 : K = 4
  · subst k4
    rw [if_pos rfl] at h ⊢
    rw [if_pos (by simp)] at hD
    by_cases hA : 0 ≤ A ∧ A < 64
    · rw [if_pos hA] at h hD ⊢
      obtain ⟨n, rfl⟩ := Int.eq_ofNat_of_zero_le hA.1
      rw [Int.toNat_natCast] at h ⊢
      exact keptSet_gen w b _ _ _ _ h 4 _ B C s t _ _ _ _ u.testBit v.testBit 0 hD (.inr (.inr rfl)) (fun _ W => owes_4 W _ B C s t _ _ _ (fun k hk => by rw [dec_nat]; exact bit_rm u n k (by omega) hk)) (fun e => absurd rfl e) (fun W hW => cnt_o W b _ _ _ _ hW _ _ B C s t _ _ _ _ (by decide))
    · rw [if_neg hA] at h hD ⊢
      exact keptSet_gen w b _ _ _ _ h 4 A B C s t _ _ _ _ u.testBit v.testBit 2 hD (.inr (.inr rfl)) (fun e => by cases e) (fun _ => rfl) (fun W hW => cnt_o W b _ _ _ _ hW _ A B C s t _ _ _ _ (by decide))
  rw [if_neg k4] at h ⊢
  by_cases k5 : K = 5
  · subst k5
    rw [if_pos rfl] at h ⊢
    rw [if_pos (by simp)] at hD
    by_cases hA : 0 ≤ A ∧ A < 64
    · rw [if_pos hA] at h hD ⊢
      obtain ⟨n, rfl⟩ := Int.eq_ofNat_of_zero_le hA.1
      rw [Int.toNat_natCast] at h ⊢
      exact keptSet_gen w b _ _ _ _ h 5 _ B C s t _ _ _ _ u.testBit v.testBit 0 hD (.inr (.inr rfl)) (fun _ W => owes_5 W _ B C s t _ _ _ (fun k hk => by rw [dec_nat]; exact bit_tg u n k)) (fun e => absurd rfl e) (fun W hW => cnt_o W b _ _ _ _ hW _ _ B C s t _ _ _ _ (by decide))
    · rw [if_neg hA] at h hD ⊢
      exact keptSet_gen w b _ _ _ _ h 5 A B C s t _ _ _ _ u.testBit v.testBit 2 hD (.inr (.inr rfl)) (fun e => by cases e) (fun _ => rfl) (fun W hW => cnt_o W b _ _ _ _ hW _ A B C s t _ _ _ _ (by decide))
  rw [if_neg k5] at h ⊢
  by_cases k6 : K = 6
  · subst k6
    rw [if_pos rfl] at h ⊢
    rw [if_neg (by decide), if_neg (by decide), if_neg (by decide)] at hD
    exact keptSet_gen w b _ _ _ _ h 6 A B C s t _ _ _ _ u.testBit v.testBit 0 hD (.inr (.inr rfl)) (fun _ W => owes_o W 6 A B C s t _ _ _ (by decide) (by decide) (by decide) (by decide) (by decide) (by decide) (by decide) (by decide) (by decide) (by decide) (by decide) (fun k _ => rfl)) (fun e => absurd rfl e) (fun W hW => counted_6 W b _ _ _ _ hW A B C s t)
  rw [if_neg k6] at h ⊢
  by_cases k7 : K = 7
  · subst k7
    rw [if_pos rfl] at h ⊢
    rw [if_neg (by decide), if_pos (by simp)] at hD
    by_cases a0 : A = 0
    · subst a0
      rw [if_pos (.inl rfl)] at hD
      rw [if_pos rfl] at h ⊢
      exact keptSet_gen w b _ _ _ _ h 7 0 B C s t _ _ _ _ u.testBit v.testBit 0 hD (.inr (.inr rfl)) (fun _ W => by rw [if_pos rfl]; exact owes_7 W 0 B C s t _ _ _ (fun k hk => Nat.testBit_or _ _ _)) (fun e => absurd rfl e) (fun W hW => cnt_o W b _ _ _ _ hW _ _ B C s t _ _ _ _ (by decide))
    rw [if_neg a0] at h ⊢
    by_cases a1 : A = 1
    · subst a1
      rw [if_pos (.inr rfl)] at hD
      rw [if_pos rfl] at h ⊢
      exact keptSet_gen w b _ _ _ _ h 7 1 B C s t _ _ _ _ u.testBit v.testBit 0 hD (.inr (.inr rfl)) (fun _ W => by rw [if_neg (by decide)]; exact owes_7 W 1 B C s t _ _ _ (fun k hk => Nat.testBit_or _ _ _)) (fun e => absurd rfl e) (fun W hW => cnt_o W b _ _ _ _ hW _ _ B C s t _ _ _ _ (by decide))
    rw [if_neg a1] at h ⊢
    rw [if_neg (by omega)] at hD
    exact keptSet_gen w b _ _ _ _ h 7 A B C s t _ _ _ _ u.testBit v.testBit 3 hD (.inr (.inr rfl)) (fun e => by cases e) (fun _ => rfl) (fun W hW => cnt_o W b _ _ _ _ hW _ A B C s t _ _ _ _ (by decide))
  rw [if_neg k7] at h ⊢
  by_cases k8 : K = 8
  · subst k8
    rw [if_pos rfl] at h ⊢
    rw [if_neg (by decide), if_pos (by simp)] at hD
    by_cases a0 : A = 0
    · subst a0
      rw [if_pos (.inl rfl)] at hD
      rw [if_pos rfl] at h ⊢
      exact keptSet_gen w b _ _ _ _ h 8 0 B C s t _ _ _ _ u.testBit v.testBit 0 hD (.inr (.inr rfl)) (fun _ W => by rw [if_pos rfl]; exact owes_8 W 0 B C s t _ _ _ (fun k hk => Nat.testBit_and _ _ _)) (fun e => absurd rfl e) (fun W hW => cnt_o W b _ _ _ _ hW _ _ B C s t _ _ _ _ (by decide))
    rw [if_neg a0] at h ⊢
    by_cases a1 : A = 1
    · subst a1
      rw [if_pos (.inr rfl)] at hD
      rw [if_pos rfl] at h ⊢
      exact keptSet_gen w b _ _ _ _ h 8 1 B C s t _ _ _ _ u.testBit v.testBit 0 hD (.inr (.inr rfl)) (fun _ W => by rw [if_neg (by decide)]; exact owes_8 W 1 B C s t _ _ _ (fun k hk => Nat.testBit_and _ _ _)) (fun e => absurd rfl e) (fun W hW => cnt_o W b _ _ _ _ hW _ _ B C s t _ _ _ _ (by decide))
    rw [if_neg a1] at h ⊢
    rw [if_neg (by omega)] at hD
    exact keptSet_gen w b _ _ _ _ h 8 A B C s t _ _ _ _ u.testBit v.testBit 3 hD (.inr (.inr rfl)) (fun e => by cases e) (fun _ => rfl) (fun W hW => cnt_o W b _ _ _ _ hW _ A B C s t _ _ _ _ (by decide))
  rw [if_neg k8] at h ⊢
  by_cases k9 : K = 9
  · subst k9
    rw [if_pos rfl] at h ⊢
    rw [if_neg (by decide), if_pos (by simp)] at hD
    by_cases a0 : A = 0
    · subst a0
      rw [if_pos (.inl rfl)] at hD
      rw [if_pos rfl] at h ⊢
      exact keptSet_gen w b _ _ _ _ h 9 0 B C s t _ _ _ _ u.testBit v.testBit 0 hD (.inr (.inr rfl)) (fun _ W => by rw [if_pos rfl]; exact owes_9 W 0 B C s t _ _ _ (fun k hk => bit_minus u u k hu hk)) (fun e => absurd rfl e) (fun W hW => cnt_o W b _ _ _ _ hW _ _ B C s t _ _ _ _ (by decide))
    rw [if_neg a0] at h ⊢
    by_cases a1 : A = 1
    · subst a1
      rw [if_pos (.inr rfl)] at hD
      rw [if_pos rfl] at h ⊢
      exact keptSet_gen w b _ _ _ _ h 9 1 B C s t _ _ _ _ u.testBit v.testBit 0 hD (.inr (.inr rfl)) (fun _ W => by rw [if_neg (by decide)]; exact owes_9 W 1 B C s t _ _ _ (fun k hk => bit_minus u v k hv hk)) (fun e => absurd rfl e) (fun W hW => cnt_o W b _ _ _ _ hW _ _ B C s t _ _ _ _ (by decide))
    rw [if_neg a1] at h ⊢
    rw [if_neg (by omega)] at hD
    exact keptSet_gen w b _ _ _ _ h 9 A B C s t _ _ _ _ u.testBit v.testBit 3 hD (.inr (.inr rfl)) (fun e => by cases e) (fun _ => rfl) (fun W hW => cnt_o W b _ _ _ _ hW _ A B C s t _ _ _ _ (by decide))
  rw [if_neg k9] at h ⊢
  by_cases k10 : K = 10
  · subst k10
    rw [if_pos rfl] at h ⊢
    rw [if_neg (by decide), if_neg (by decide), if_neg (by decide)] at hD
    exact keptSet_gen w b _ _ _ _ h 10 A B C s t _ _ _ _ u.testBit v.testBit 0 hD (.inr (.inr rfl)) (fun _ W => owes_10 W A B C s t _ _ _ (fun k hk => bit_flip u k hk)) (fun e => absurd rfl e) (fun W hW => cnt_o W b _ _ _ _ hW _ A B C s t _ _ _ _ (by decide))
  rw [if_neg k10] at h ⊢
  by_cases k11 : K = 11
  · subst k11
    rw [if_pos rfl] at h ⊢
    rw [if_neg (by decide), if_neg (by decide), if_pos rfl] at hD
    by_cases hA : A < -64 ∨ 64 < A
    · rw [if_pos hA] at h hD ⊢
      exact keptSet_gen w b _ _ _ _ h 11 A B C s t _ _ _ _ u.testBit v.testBit 2 hD (.inr (.inr rfl)) (fun e => by cases e) (fun _ => rfl) (fun W hW => cnt_o W b _ _ _ _ hW _ A B C s t _ _ _ _ (by decide))
    rw [if_neg hA] at h hD ⊢
    by_cases h0 : 0 ≤ A
    · rw [if_pos h0] at h ⊢
      obtain ⟨n, rfl⟩ := Int.eq_ofNat_of_zero_le h0
      rw [Int.toNat_natCast] at h ⊢
      exact keptSet_gen w b _ _ _ _ h 11 _ B C s t _ _ _ _ u.testBit v.testBit 0 hD (.inr (.inr rfl)) (fun _ W => owes_11 W _ B C s t _ _ _ (by omega) (fun k hk => shl_has u n k hk)) (fun e => absurd rfl e) (fun W hW => cnt_o W b _ _ _ _ hW _ _ B C s t _ _ _ _ (by decide))
    · rw [if_neg h0] at h ⊢
      obtain ⟨n, hn⟩ := Int.eq_ofNat_of_zero_le (show 0 ≤ -A by omega)
      obtain rfl : A = -(n : Int) := by omega
      rw [Int.neg_neg, Int.toNat_natCast] at h ⊢
      exact keptSet_gen w b _ _ _ _ h 11 _ B C s t _ _ _ _ u.testBit v.testBit 0 hD (.inr (.inr rfl)) (fun _ W => owes_11 W _ B C s t _ _ _ (by omega) (fun k _ => shr_has u n k hu)) (fun e => absurd rfl e) (fun W hW => cnt_o W b _ _ _ _ hW _ _ B C s t _ _ _ _ (by decide))
  rw [if_neg k11] at h ⊢
  by_cases k12 : K = 12
  · subst k12
    rw [if_pos rfl] at h ⊢
    rw [if_neg (by decide), if_neg (by decide), if_neg (by decide)] at hD
    exact keptSet_gen w b _ _ _ _ h 12 A B C s t _ _ _ _ u.testBit v.testBit 0 hD (.inr (.inr rfl)) (fun _ W => owes_12 W A B C s t _ _ _ (fun k hk => by
      rw [bit_rot u _ k hu (by omega) hk]
      congr 1
      omega)) (fun e => absurd rfl e) (fun W hW => cnt_o W b _ _ _ _ hW _ A B C s t _ _ _ _ (by decide))
  rw [if_neg k12] at h ⊢
  by_cases k13 : K = 13
  · subst k13
    rw [if_pos rfl] at h ⊢
    rw [if_neg (by decide), if_neg (by decide), if_neg (by decide)] at hD
    exact keptSet_gen w b _ _ _ _ h 13 A B C s t _ _ _ _ u.testBit v.testBit 0 hD (.inr (.inr rfl)) (fun _ W => owes_o W 13 A B C s t _ _ _ (by decide) (by decide) (by decide) (by decide) (by decide) (by decide) (by decide) (by decide) (by decide) (by decide) (by decide) (fun k _ => rfl)) (fun e => absurd rfl e) (fun W hW => counted_13 W b _ _ _ _ hW A B C s t)
  rw [if_neg k13] at h ⊢
  by_cases k14 : K = 14
  · subst k14
    rw [if_pos rfl] at h ⊢
    rw [if_neg (by decide), if_neg (by decide), if_neg (by decide)] at hD
    exact keptSet_gen w b _ _ _ _ h 14 A B C s t _ _ _ _ u.testBit v.testBit 0 hD (.inr (.inr rfl)) (fun _ W => owes_o W 14 A B C s t _ _ _ (by decide) (by decide) (by decide) (by decide) (by decide) (by decide) (by decide) (by decide) (by decide) (by decide) (by decide) (fun k _ => rfl)) (fun e => absurd rfl e) (fun W hW => counted_14 W b _ _ _ _ hW A B C s t)
  rw [if_neg k14] at h ⊢
  by_cases k15 : K = 15
  · subst k15
    rw [if_pos rfl] at h ⊢
    rw [if_neg (by decide), if_neg (by decide), if_neg (by decide)] at hD
    exact keptSet_gen w b _ _ _ _ h 15 A B C s t _ _ _ _ u.testBit v.testBit 0 hD (.inr (.inr rfl)) (fun _ W => owes_o W 15 A B C s t _ _ _ (by decide) (by decide) (by decide) (by decide) (by decide) (by decide) (by decide) (by decide) (by decide) (by decide) (by decide) (fun k _ => rfl)) (fun e => absurd rfl e) (fun W hW => counted_15 W b _ _ _ _ hW A B C s t)
  rw [if_neg k15] at h ⊢
  by_cases k16 : K = 16
  · subst k16
    rw [if_pos rfl] at h ⊢
    rw [if_neg (by decide), if_neg (by decide), if_neg (by decide)] at hD
    exact keptSet_gen w b _ _ _ _ h 16 A B C s t _ _ _ _ u.testBit v.testBit 0 hD (.inl rfl) (fun _ W => owes_o W 16 A B C s t _ _ _ (by decide) (by decide) (by decide) (by decide) (by decide) (by decide) (by decide) (by decide) (by decide) (by decide) (by decide) (fun k _ => rfl)) (fun e => absurd rfl e) (fun W hW => cnt_o W b _ _ _ _ hW _ A B C s t _ _ _ _ (by decide))
  rw [if_neg k16] at h ⊢
  by_cases k17 : K = 17
  · subst k17
    rw [if_pos rfl] at h ⊢
    rw [if_neg (by decide), if_neg (by decide), if_neg (by decide)] at hD
    exact keptSet_gen w b _ _ _ _ h 17 A B C s t _ _ _ _ u.testBit v.testBit 0 hD (.inr (.inl rfl)) (fun _ W => owes_o W 17 A B C s t _ _ _ (by decide) (by decide) (by decide) (by decide) (by decide) (by decide) (by decide) (by decide) (by decide) (by decide) (by decide) (fun k _ => rfl)) (fun e => absurd rfl e) (fun W hW => cnt_o W b _ _ _ _ hW _ A B C s t _ _ _ _ (by decide))
  rw [if_neg k17] at h ⊢
  by_cases k18 : K = 18
  · subst k18
    rw [if_pos rfl] at h ⊢
    rw [if_neg (by decide), if_neg (by decide), if_neg (by decide)] at hD
    exact keptSet_gen w b _ _ _ _ h 18 A B C s t _ _ _ _ u.testBit v.testBit 0 hD (.inr (.inr rfl)) (fun _ W => owes_o W 18 A B C s t _ _ _ (by decide) (by decide) (by decide) (by decide) (by decide) (by decide) (by decide) (by decide) (by decide) (by decide) (by decide) (fun k _ => rfl)) (fun e => absurd rfl e) (fun W hW => cnt_o W b _ _ _ _ hW _ A B C s t _ _ _ _ (by decide))
  rw [if_neg k18] at h ⊢
  by_cases k19 : K = 19
  · subst k19
    rw [if_pos rfl] at h ⊢
    rw [if_neg (by decide), if_neg (by decide), if_neg (by decide)] at hD
    exact keptSet_gen w b _ _ _ _ h 19 A B C s t _ _ _ _ u.testBit v.testBit 0 hD (.inr (.inr rfl)) (fun _ W => owes_o W 19 A B C s t _ _ _ (by decide) (by decide) (by decide) (by decide) (by decide) (by decide) (by decide) (by decide) (by decide) (by decide) (by decide) (fun k _ => rfl)) (fun e => absurd rfl e) (fun W hW => cnt_o W b _ _ _ _ hW _ A B C s t _ _ _ _ (by decide))
  rw [if_neg k19] at h ⊢
  by_cases k20 : K = 20
  · subst k20
    rw [if_pos rfl] at h ⊢
    rw [if_neg (by decide), if_neg (by decide), if_neg (by decide)] at hD
    exact keptSet_gen w b _ _ _ _ h 20 A B C s t _ _ _ _ u.testBit v.testBit 0 hD (.inr (.inr rfl)) (fun _ W => owes_20 W A B C s t _ _ _ (fun k _ => Nat.zero_testBit k)) (fun e => absurd rfl e) (fun W hW => cnt_o W b _ _ _ _ hW _ A B C s t _ _ _ _ (by decide))
  rw [if_neg k20] at h ⊢
  by_cases k21 : K = 21
  · subst k21
    rw [if_pos rfl] at h ⊢
    rw [if_neg (by decide), if_neg (by decide), if_neg (by decide)] at hD
    exact keptSet_gen w b _ _ _ _ h 21 A B C s t _ _ _ _ u.testBit v.testBit 0 hD (.inr (.inr rfl)) (fun _ W => owes_o W 21 A B C s t _ _ _ (by decide) (by decide) (by decide) (by decide) (by decide) (by decide) (by decide) (by decide) (by decide) (by decide) (by decide) (fun k _ => rfl)) (fun e => absurd rfl e) (fun W hW => cnt_o W b _ _ _ _ hW _ A B C s t _ _ _ _ (by decide))
  rw [if_neg k21] at h ⊢
  by_cases k22 : K = 22
  · subst k22
    rw [if_pos rfl] at h ⊢
    rw [if_neg (by decide), if_neg (by decide), if_neg (by decide)] at hD
    exact keptSet_gen w b _ _ _ _ h 22 A B C s t _ _ _ _ u.testBit v.testBit 0 hD (.inr (.inr rfl)) (fun _ W => owes_o W 22 A B C s t _ _ _ (by decide) (by decide) (by decide) (by decide) (by decide) (by decide) (by decide) (by decide) (by decide) (by decide) (by decide) (fun k _ => rfl)) (fun e => absurd rfl e) (fun W hW => cnt_o W b _ _ _ _ hW _ A B C s t _ _ _ _ (by decide))
  rw [if_neg k22] at h ⊢
  rw [if_neg (by omega), if_neg (by omega), if_neg k11] at hD
  by_cases k1 : K = 1
  · have hu0 := h1 k1
    subst k1
    subst hu0
    exact keptSet_gen w b _ _ _ _ h 1 A B C s t _ _ _ _ (Nat.testBit 0) v.testBit 0 hD (.inr (.inr rfl)) (fun _ W => owes_1 W A B C s t _ _ _ (fun k _ => Nat.zero_testBit k)) (fun e => absurd rfl e) (fun W hW => cnt_o W b _ _ _ _ hW _ A B C s t _ _ _ _ (by decide))
  exact keptSet_gen w b _ _ _ _ h K A B C s t _ _ _ _ u.testBit v.testBit 0 hD (.inr (.inr rfl)) (fun _ W => owes_o W K A B C s t _ _ _ k3 k4 k5 k7 k8 k9 k10 k11 k12 k20 k1 (fun k _ => rfl)) (fun e => absurd rfl e) (fun W hW => cnt_o W b _ _ _ _ hW _ A B C s t _ _ _ _ ⟨k13, k14, k15, k6⟩)
end Go.Proofs.Qxb6500469a
