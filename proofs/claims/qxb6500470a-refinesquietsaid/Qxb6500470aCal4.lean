import Derived.Test.Qxb6500470aCal3
namespace Go.Proofs.Qxb6500470a
open Go.RowKit

theorem w64_bounds (n : Int) : -9223372036854775808 ≤ wrap64 n ∧ wrap64 n ≤ 9223372036854775807 := by unfold wrap64; omega
/-! ### the kinds' methods -/
theorem mNegI (n : Int) (w : World) : (method 260 80 (I n) "Neg").run Try.prog w = .ok (141, I n) w := by kernel_rfl
theorem mAddI (n : Int) (w : World) : (method 260 80 (I n) "Add").run Try.prog w = .ok (140, I n) w := by kernel_rfl
theorem mShowI (n : Int) (w : World) : (method 260 80 (I n) "Show").run Try.prog w = .ok (142, I n) w := by kernel_rfl
theorem mShowS (s : ByteArray) (w : World) : (method 260 112 (.string s) "Show").run Try.prog w = .ok (150, .string s) w := by kernel_rfl
theorem mShowL (a : Option Addr) (w : World) : (method 260 69 (.pointer a) "Show").run Try.prog w = .ok (138, .pointer a) w := by kernel_rfl
theorem mLenL (a : Option Addr) (w : World) : (method 260 69 (.pointer a) "Len").run Try.prog w = .ok (137, .pointer a) w := by kernel_rfl

set_option maxHeartbeats 400000 in
theorem intNeg (n : Int) (w : World) : Calls Try.prog 141 #[I n] w fun e w' => e = .returned (VI (wrap64 (-n))) ∧ w' = w := by
  go_enter Try.func141, Try.ntmps141
  go_wp2
  go_ret
  exact ⟨rfl, rfl⟩
set_option maxHeartbeats 400000 in
theorem intAdd (n m : Int) (w : World) : Calls Try.prog 140 #[I n, VI m] w fun e w' => e = .returned (.tuple #[VI (wrap64 (n + m)), I 0]) ∧ w' = w := by
  have ta : ∀ w, (Instr.typeAssert (VI m) 64 80 true).run Try.prog w = .ok (.tuple #[I m, .bool true]) w := fun _ => by kernel_rfl
  go_enter Try.func140, Try.ntmps140
  go_wp2
  go_ret2
  exact ⟨rfl, rfl⟩
set_option maxHeartbeats 400000 in
theorem intShow (n : Int) (h1 : -9223372036854775808 ≤ n) (h2 : n ≤ 9223372036854775807) (w : World) : Calls Try.prog 142 #[I n] w fun e w' => e = .returned (S (itoa n)) ∧ Below w.heap.size w w' := by
  go_enter Try.func142, Try.ntmps142
  go_wp2_with fail
  refine (itoa_any n h1 h2 w).mono ?_
  rintro e w1 ⟨rfl, b1⟩
  go_wp2
  go_ret
  exact ⟨rfl, b1⟩
set_option maxHeartbeats 400000 in
theorem strShow (s : List UInt8) (hs : s.length ≤ 30) (w : World) : Calls Try.prog 150 #[S s] w fun e w' => e = .returned (S (itoa s.length ++ [58] ++ s)) ∧ Below w.heap.size w w' := by
  have hz : (str s).size = s.length := str_size s
  have hl := itoa_len (s.length : Nat) (by omega) (by omega)
  rw [← str_size] at hl
  have hs' : (str s).size ≤ 30 := by omega
  go_enter Try.func150, Try.ntmps150
  go_wp2_with fail
  refine (itoa_any (s.length : Nat) (by omega) (by omega) w).mono ?_
  rintro e w1 ⟨rfl, b1⟩
  go_wp2
  go_ret
  refine ⟨?_, b1⟩
  show Ending.returned (.string (str (itoa (s.length : Nat)) ++ str [58] ++ str s)) = _
  rw [str_append, str_append]
set_option maxHeartbeats 400000 in
theorem nilShow (w : World) : Calls Try.prog 138 #[.pointer none] w fun e w' => e = .returned (S [91, 93]) ∧ w' = w := by
  go_enter Try.func138, Try.ntmps138
  go_wp2
  go_loopw [3, 4] (fun t c wr => t = S [91] ∧ c = .pointer none ∧ wr = w) (fun _ _ _ => 0)
  case atStart => exact ⟨rfl, rfl, rfl⟩
  case round =>
    obtain ⟨rfl, rfl, rfl⟩ := hrel
    go_wp2
    go_ret
    exact ⟨rfl, rfl⟩
set_option maxHeartbeats 400000 in
theorem nilLen (w : World) : Calls Try.prog 137 #[.pointer none] w fun e w' => e = .returned (I 0) ∧ w' = w := by
  go_enter Try.func137, Try.ntmps137
  go_wp2
  go_loopw [3, 4] (fun t c wr => t = I 0 ∧ c = .pointer none ∧ wr = w) (fun _ _ _ => 0)
  case atStart => exact ⟨rfl, rfl, rfl⟩
  case round =>
    obtain ⟨rfl, rfl, rfl⟩ := hrel
    go_wp2
    go_ret
    exact ⟨rfl, rfl⟩
end Go.Proofs.Qxb6500470a
