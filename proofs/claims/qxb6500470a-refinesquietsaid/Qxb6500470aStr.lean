import Derived.Test.Qxb6500470aBase
import Derived.WalkLawsBesides
namespace Go.Proofs.Qxb6500470a
open Go.RowKit

/-! ### strings as lists of bytes -/
def str (l : List UInt8) : ByteArray := ⟨l.toArray⟩
abbrev S (l : List UInt8) : Value := .string (str l)
theorem str_size (l : List UInt8) : (str l).size = l.length := by simp [str, ByteArray.size]
theorem str_append (l m : List UInt8) : str l ++ str m = str (l ++ m) := by
  apply ByteArray.ext
  simp [str, ByteArray.data_append]
theorem str_toList (l : List UInt8) : (str l).toList = l := ByteArray.toList_mk l
theorem str_inj {l m : List UInt8} (h : str l = str m) : l = m := by
  have := congrArg ByteArray.data h; simpa [str] using this
theorem str_data (l : List UInt8) : (str l).data.toList = l := by simp [str]

/-! ### decimal -/
/-- The digits of k, none for 0. -/
def dg (k : Nat) : List UInt8 := if _h : k = 0 then [] else dg (k / 10) ++ [UInt8.ofNat (48 + k % 10)]
theorem dg_zero : dg 0 = [] := by rw [dg]; simp
theorem dg_pos (k : Nat) (h : k ≠ 0) : dg k = dg (k / 10) ++ [UInt8.ofNat (48 + k % 10)] := by rw [dg]; simp [h]
theorem dg_ne (k : Nat) (h : k ≠ 0) : 1 ≤ (dg k).length := by rw [dg_pos k h]; simp
def itoa (n : Int) : List UInt8 := if n = 0 then [48] else if n < 0 then 45 :: dg n.natAbs else dg n.natAbs
theorem dg_len (j : Nat) : ∀ k, k < 10 ^ j → (dg k).length ≤ j := by
  induction j with
  | zero => intro k hk; have : k = 0 := by simpa using hk
            subst this; rw [dg_zero]; simp
  | succ j ih =>
    intro k hk
    by_cases h : k = 0
    · subst h; rw [dg_zero]; simp
    · rw [dg_pos k h, List.length_append]
      have := ih (k / 10) (by rw [Nat.div_lt_iff_lt_mul (by decide), ← Nat.pow_succ]; exact hk)
      simp; omega
theorem itoa_len (n : Int) (h1 : -9223372036854775808 ≤ n) (h2 : n ≤ 9223372036854775807) : (itoa n).length ≤ 20 := by
  unfold itoa
  split
  · simp
  · split
    · have := dg_len 19 n.natAbs (by have : (10 : Nat) ^ 19 = 10000000000000000000 := rfl
                                     omega)
      simp; omega
    · have := dg_len 19 n.natAbs (by have : (10 : Nat) ^ 19 = 10000000000000000000 := rfl
                                     omega)
      omega
end Go.Proofs.Qxb6500470a
