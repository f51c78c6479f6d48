import Derived.Test.Qxb6500468aStr
import Derived.Test.Qxb6500468aRows
import Derived.Laws.BitsAllLaws
namespace Go.Proofs.Qxb6500468a
open Go.RowKit
abbrev ptr (p : Nat) : Value := .pointer (some ⟨p, 0, none⟩)
abbrev W64 (n : Nat) : Value := .int .u64 (n : Int)
abbrev HdV (k d l f s : Int) : Value := .agg #[I k, I d, I l, I f, I s]

/-! ### bits -/
theorem testBit_mulAdd (sh a b j : Nat) (hb : b < 2 ^ sh) : (b + 2 ^ sh * a).testBit j = if j < sh then b.testBit j else a.testBit (j - sh) := by
  rw [Nat.add_comm]; exact Nat.testBit_two_pow_mul_add a hb j
theorem mask_bit (sh wd j : Nat) (h : sh + wd ≤ 64) : (2 ^ 64 - 1 - (2 ^ wd - 1) * 2 ^ sh).testBit j = (decide (j < 64) && !(decide (sh ≤ j) && decide (j < sh + wd))) := by
  have e : 2 ^ 64 - 1 - (2 ^ wd - 1) * 2 ^ sh = (2 ^ sh - 1) + 2 ^ sh * (2 ^ wd * (2 ^ (64 - sh - wd) - 1)) := by
    obtain ⟨r, rfl⟩ : ∃ r, r = 64 - sh - wd := ⟨_, rfl⟩
    have h1 : (2 : Nat) ^ 64 = 2 ^ sh * (2 ^ wd * 2 ^ (64 - sh - wd)) := by rw [← Nat.pow_add, ← Nat.pow_add]; congr 1; omega
    have p1 := Nat.two_pow_pos sh
    have p2 := Nat.two_pow_pos wd
    have p3 := Nat.two_pow_pos (64 - sh - wd)
    rw [h1, Nat.mul_sub, Nat.mul_sub, Nat.mul_one, Nat.sub_mul, Nat.one_mul, Nat.mul_comm (2 ^ wd) (2 ^ sh)]
    have q1 : 2 ^ sh * 2 ^ wd ≤ 2 ^ sh * (2 ^ wd * 2 ^ (64 - sh - wd)) := Nat.mul_le_mul_left _ (Nat.le_mul_of_pos_right _ p3)
    have q2 : 2 ^ sh ≤ 2 ^ sh * 2 ^ wd := Nat.le_mul_of_pos_right _ p2
    omega
  rw [e, testBit_mulAdd _ _ _ _ (by have := Nat.two_pow_pos sh; omega)]
  by_cases h1 : j < sh
  · rw [if_pos h1, Nat.testBit_two_pow_sub_one, decide_eq_true h1, decide_eq_true (show j < 64 by omega), decide_eq_false (show ¬ sh ≤ j by omega)]
    rfl
  · rw [if_neg h1, ← Nat.zero_add (2 ^ wd * _), testBit_mulAdd _ _ _ _ (Nat.two_pow_pos _)]
    by_cases h2 : j - sh < wd
    · rw [if_pos h2, Nat.zero_testBit, decide_eq_true (show sh ≤ j by omega), decide_eq_true (show j < sh + wd by omega)]
      simp
    · rw [if_neg h2, Nat.testBit_two_pow_sub_one, decide_eq_false (show ¬ j < sh + wd by omega)]
      simp only [Bool.and_false, Bool.not_false, Bool.and_true, decide_eq_decide]
      omega
theorem field_clear (n sh wd : Nat) (h : sh + wd ≤ 64) (hn : n < 2 ^ 64) : n &&& (2 ^ 64 - 1 - (2 ^ wd - 1) * 2 ^ sh) = n % 2 ^ sh + 2 ^ sh * (2 ^ wd * (n / 2 ^ (sh + wd))) := by
  apply Nat.eq_of_testBit_eq
  intro j
  rw [Nat.testBit_and, mask_bit _ _ _ h, testBit_mulAdd _ _ _ _ (Nat.mod_lt _ (Nat.two_pow_pos _)), ← Nat.zero_add (2 ^ wd * _)]
  by_cases h1 : j < sh
  · rw [if_pos h1, Nat.testBit_mod_two_pow]
    rw [decide_eq_true h1, decide_eq_true (show j < 64 by omega), decide_eq_false (show ¬ sh ≤ j by omega)]
    simp
  · rw [if_neg h1, testBit_mulAdd _ _ _ _ (Nat.two_pow_pos _)]
    by_cases h2 : j - sh < wd
    · rw [if_pos h2, Nat.zero_testBit, decide_eq_true (show sh ≤ j by omega), decide_eq_true (show j < sh + wd by omega)]
      simp
    · rw [if_neg h2, Nat.testBit_div_two_pow, show j - sh - wd + (sh + wd) = j from by omega, decide_eq_false (show ¬ j < sh + wd by omega)]
      by_cases h3 : j < 64
      · rw [decide_eq_true h3]; simp
      · rw [Nat.testBit_lt_two_pow (Nat.lt_of_lt_of_le hn (Nat.pow_le_pow_right (by decide) (by omega)))]; rfl
theorem field_set (n sh wd v : Nat) (h : sh + wd ≤ 64) (hn : n < 2 ^ 64) (hv : v < 2 ^ wd) : (n &&& (2 ^ 64 - 1 - (2 ^ wd - 1) * 2 ^ sh)) ||| (v * 2 ^ sh) = n % 2 ^ sh + 2 ^ sh * (v + 2 ^ wd * (n / 2 ^ (sh + wd))) := by
  rw [field_clear n sh wd h hn]
  apply Nat.eq_of_testBit_eq
  intro j
  rw [Nat.testBit_or, testBit_mulAdd _ _ _ _ (Nat.mod_lt _ (Nat.two_pow_pos _)), testBit_mulAdd _ _ _ _ (Nat.mod_lt _ (Nat.two_pow_pos _)), Nat.mul_comm v, ← Nat.zero_add (2 ^ sh * v), testBit_mulAdd _ _ _ _ (Nat.two_pow_pos _)]
  by_cases h1 : j < sh
  · simp [h1]
  · simp only [if_neg h1]
    rw [← Nat.zero_add (2 ^ wd * _), testBit_mulAdd _ _ _ _ (Nat.two_pow_pos _), Nat.zero_add, testBit_mulAdd _ _ _ _ hv]
    by_cases h2 : j - sh < wd
    · simp [h2]
    · simp only [if_neg h2]
      rw [Nat.testBit_lt_two_pow (Nat.lt_of_lt_of_le hv (Nat.pow_le_pow_right (by decide) (by omega)))]
      simp
theorem or_put (a v sh M : Nat) (hM : M = 2 ^ sh) (ha : a < M) (h64 : a + v * M < 18446744073709551616) : bits .or .u64 (a : Int) ((v * M : Nat) : Int) = ((a + v * M : Nat) : Int) := by
  rw [u64_or_nat _ _ (by omega) (by omega)]
  subst hM
  congr 1
  rw [Nat.or_comm, Nat.mul_comm, ← Nat.two_pow_add_eq_or_of_lt ha, Nat.add_comm]
theorem and_low (x : Int) (h0 : 0 ≤ x) (h1 : x < 18446744073709551616) (n M : Nat) (hM : M + 1 = 2 ^ n) (h2 : M < 18446744073709551616) : bits .and .u64 x (M : Int) = x % ((M + 1 : Nat) : Int) := by
  obtain ⟨a, rfl⟩ := Int.eq_ofNat_of_zero_le h0
  rw [u64_and_nat a M (by omega) h2, show M = 2 ^ n - 1 from by omega, Nat.and_two_pow_sub_one_eq_mod, show 2 ^ n - 1 + 1 = 2 ^ n from by omega]
  rfl
theorem wr_i8 (n : Int) : IntKind.i8.wrap n = (n + 128) % 256 - 128 := by
  have e : IntKind.i8.wrap n = if (128 : Int) ≤ n % 256 then n % 256 - 256 else n % 256 := by simp [IntKind.wrap, IntKind.bits, IntKind.signed]
  rw [e]; split <;> omega
theorem wr_i16 (n : Int) : IntKind.i16.wrap n = (n + 32768) % 65536 - 32768 := by
  have e : IntKind.i16.wrap n = if (32768 : Int) ≤ n % 65536 then n % 65536 - 65536 else n % 65536 := by simp [IntKind.wrap, IntKind.bits, IntKind.signed]
  rw [e]; split <;> omega

/-! ### the packed word -/
def packN (k d l f s : Int) : Nat := (k % 256).toNat + (d % 65536).toNat * 256 + (l % 65536).toNat * 16777216 + (f % 32).toNat * 1099511627776 + (s % 2048).toNat * 35184372088832
theorem packN_lt (k d l f s : Int) : packN k d l f s < 72057594037927936 := by unfold packN; omega
def unK (n : Nat) : Int := ((n : Int) + 128) % 256 - 128
def unD (n : Nat) : Int := ((n : Int) / 256 + 32768) % 65536 - 32768
def unL (n : Nat) : Int := (n : Int) / 16777216 % 65536
def unF (n : Nat) : Int := (n : Int) / 1099511627776 % 32
def unS (n : Nat) : Int := (n : Int) / 35184372088832 % 2048
def goodH (k d l f s : Int) : Prop := -128 ≤ k ∧ k ≤ 127 ∧ -32768 ≤ d ∧ d ≤ 32767 ∧ 0 ≤ l ∧ l ≤ 65535 ∧ 0 ≤ f ∧ f ≤ 31 ∧ 0 ≤ s ∧ s ≤ 2047
theorem un_good (n : Nat) : goodH (unK n) (unD n) (unL n) (unF n) (unS n) := by unfold goodH unK unD unL unF unS; omega
theorem un_pack (k d l f s : Int) (h : goodH k d l f s) : unK (packN k d l f s) = k ∧ unD (packN k d l f s) = d ∧ unL (packN k d l f s) = l ∧ unF (packN k d l f s) = f ∧ unS (packN k d l f s) = s := by
  unfold goodH at h
  unfold unK unD unL unF unS packN
  omega
theorem pack_un (n : Nat) (hn : n < 72057594037927936) : packN (unK n) (unD n) (unL n) (unF n) (unS n) = n := by
  have a1 : (unK n % 256).toNat = n % 256 := by unfold unK; omega
  have a2 : (unD n % 65536).toNat = n / 256 % 65536 := by unfold unD; omega
  have a3 : (unL n % 65536).toNat = n / 16777216 % 65536 := by unfold unL; omega
  have a4 : (unF n % 32).toNat = n / 1099511627776 % 32 := by unfold unF; omega
  have a5 : (unS n % 2048).toNat = n / 35184372088832 % 2048 := by unfold unS; omega
  unfold packN
  rw [a1, a2, a3, a4, a5]
  omega

set_option maxHeartbeats 1000000 in
theorem pack_any (w : World) (k d l f s : Int) : Calls Try.prog 22 #[HdV k d l f s] w fun e w' => e = .returned (W64 (packN k d l f s)) ∧ Below w.heap.size w w' := by
  have f1 : bits .or .u64 0 (IntKind.i8.wrap k % 256) = (((k % 256).toNat : Nat) : Int) := by
    rw [wr_i8, show ((k + 128) % 256 - 128) % 256 = (((k % 256).toNat : Nat) : Int) from by omega]
    exact (u64_or_nat 0 _ (by omega) (by omega)).trans (by rw [Nat.zero_or])
  have f2 : bits .or .u64 (((k % 256).toNat : Nat) : Int) (IntKind.u64.wrap (IntKind.u64.wrap (IntKind.u16.wrap (IntKind.i16.wrap d)) * 256)) = (((k % 256).toNat + (d % 65536).toNat * 256 : Nat) : Int) := by
    rw [← or_put _ _ 8 256 rfl (by omega) (by omega), wr_i16, IntKind.wrap_u16, IntKind.wrap_u64, IntKind.wrap_u64]
    congr 1
    omega
  have f3 : bits .or .u64 (((k % 256).toNat + (d % 65536).toNat * 256 : Nat) : Int) (IntKind.u64.wrap (IntKind.u64.wrap (IntKind.u16.wrap l) * 16777216)) = (((k % 256).toNat + (d % 65536).toNat * 256 + (l % 65536).toNat * 16777216 : Nat) : Int) := by
    rw [← or_put _ _ 24 16777216 rfl (by omega) (by omega), IntKind.wrap_u16, IntKind.wrap_u64, IntKind.wrap_u64]
    congr 1
    omega
  have f4 : bits .or .u64 (((k % 256).toNat + (d % 65536).toNat * 256 + (l % 65536).toNat * 16777216 : Nat) : Int) (IntKind.u64.wrap (bits .and .u64 (IntKind.u64.wrap f) 31 * 1099511627776)) = (((k % 256).toNat + (d % 65536).toNat * 256 + (l % 65536).toNat * 16777216 + (f % 32).toNat * 1099511627776 : Nat) : Int) := by
    rw [← or_put _ _ 40 1099511627776 rfl (by omega) (by omega), IntKind.wrap_u64, IntKind.wrap_u64, show (31 : Int) = ((31 : Nat) : Int) from rfl, and_low _ (by omega) (by omega) 5 31 rfl (by omega)]
    congr 1
    omega
  have f5 : bits .or .u64 (((k % 256).toNat + (d % 65536).toNat * 256 + (l % 65536).toNat * 16777216 + (f % 32).toNat * 1099511627776 : Nat) : Int) (IntKind.u64.wrap (bits .and .u64 (IntKind.u64.wrap s) 2047 * 35184372088832)) = ((packN k d l f s : Nat) : Int) := by
    unfold packN
    rw [← or_put _ _ 45 35184372088832 rfl (by omega) (by omega), IntKind.wrap_u64, IntKind.wrap_u64, show (2047 : Int) = ((2047 : Nat) : Int) from rfl, and_low _ (by omega) (by omega) 11 2047 rfl (by omega)]
    congr 1
    omega
  have HE : Hid (_ ∧ _ ∧ _ ∧ _ ∧ _) := ⟨f1, f2, f3, f4, f5⟩
  clear f1 f2 f3 f4 f5
  go_enter Try.func22, Try.ntmps22
  go_wp2
  go_ret
  obtain ⟨f1, f2, f3, f4, f5⟩ := HE.out
  refine ⟨?_, (Below.refl _ _).alloc (Nat.le_refl _) _⟩
  show Ending.returned (.int .u64 (bits .or .u64 (bits .or .u64 (bits .or .u64 (bits .or .u64 (bits .or .u64 0 (IntKind.i8.wrap k % 256)) (IntKind.u64.wrap (IntKind.u64.wrap (IntKind.u16.wrap (IntKind.i16.wrap d)) * 256))) (IntKind.u64.wrap (IntKind.u64.wrap (IntKind.u16.wrap l) * 16777216))) (IntKind.u64.wrap (bits .and .u64 (IntKind.u64.wrap f) 31 * 1099511627776))) (IntKind.u64.wrap (bits .and .u64 (IntKind.u64.wrap s) 2047 * 35184372088832)))) = _
  rw [f1, f2, f3, f4, f5]

set_option maxHeartbeats 1000000 in
theorem unpack_any (w : World) (n : Nat) (hn : n < 18446744073709551616) : Calls Try.prog 24 #[W64 n] w fun e w' => e = .returned (HdV (unK n) (unD n) (unL n) (unF n) (unS n)) ∧ Below w.heap.size w w' := by
  have e1 : wrap64 (IntKind.i8.wrap (n : Int)) = unK n := by rw [wr_i8]; unfold wrap64 unK; omega
  have e2 : wrap64 (IntKind.i16.wrap ((n : Int) / 256)) = unD n := by rw [wr_i16]; unfold wrap64 unD; omega
  have e3 : wrap64 (IntKind.u16.wrap ((n : Int) / 16777216)) = unL n := by rw [IntKind.wrap_u16]; unfold wrap64 unL; omega
  have e4 : wrap64 (bits .and .u64 ((n : Int) / 1099511627776) 31) = unF n := by
    rw [show (31 : Int) = ((31 : Nat) : Int) from rfl, and_low _ (by omega) (by omega) 5 31 rfl (by omega)]
    unfold wrap64 unF
    show (((n : Int) / 1099511627776) % 32 + 9223372036854775808) % 18446744073709551616 - 9223372036854775808 = _
    omega
  have e5 : wrap64 (bits .and .u64 ((n : Int) / 35184372088832) 2047) = unS n := by
    rw [show (2047 : Int) = ((2047 : Nat) : Int) from rfl, and_low _ (by omega) (by omega) 11 2047 rfl (by omega)]
    unfold wrap64 unS
    show (((n : Int) / 35184372088832) % 2048 + 9223372036854775808) % 18446744073709551616 - 9223372036854775808 = _
    omega
  have HE : Hid (_ ∧ _ ∧ _ ∧ _ ∧ _) := ⟨e1, e2, e3, e4, e5⟩
  clear e1 e2 e3 e4 e5
  go_enter Try.func24, Try.ntmps24
  go_wp2
  obtain ⟨e1, e2, e3, e4, e5⟩ := HE.out
  refine ret_row Try.results24 rfl rfl ((Blk.new rfl).old _) Try.underlying27 rfl (by kernel_rfl) ⟨?_, ((Below.refl _ _).alloc (Nat.le_refl _) _).alloc (by simp) _⟩
  rw [e1, e2, e3, e4, e5]
end Go.Proofs.Qxb6500468a
