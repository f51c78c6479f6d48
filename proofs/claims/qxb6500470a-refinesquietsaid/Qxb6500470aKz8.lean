import Derived.Test.Qxb6500470aKz7
import Derived.Deep.RegionHeld3
namespace Go.Proofs.Qxb6500470a
open Go.RowKit
/-- What Held answers. -/
def HP (L : Nat → Prop) (w : World) (m2 p2 p3 : Nat) (E A : Int) (ST : List TV) : Ending → World → Prop := fun e w' => e = .returned (.tuple #[I E, I A, .bool true]) ∧ YZ L w' m2 p2 p3 A ST ST ∧ Kp L w w'
theorem str_tl (c : UInt8) (s : List UInt8) (_hs : s.length < 24) : ∀ W, (Instr.slice 9 (S (c :: s)) (some (.int .i64 1)) none none).run Try.prog W = .ok (S s) W := by
  intro W
  have hz : (str (c :: s)).size = s.length + 1 := by rw [str_size]; simp
  rw [run_slice_string_from_if (P := Try.prog) W 9 (str (c :: s)) .i64 1 Try.underlying9, if_pos ⟨by omega, by rw [hz]; omega⟩]
  have e : (str (c :: s)).extract (1 : Int).toNat (str (c :: s)).size = str s := by
    rw [hz]
    apply ByteArray.ext
    rw [ByteArray.data_extract]
    show (c :: s).toArray.extract 1 (s.length + 1) = s.toArray
    rw [List.extract_toArray, List.extract_eq_take_drop]
    simp
  rw [e]
theorem ne8 (c k : UInt8) (h : c ≠ k) : ((c.toNat : Int) == (k.toNat : Int)) = false := by
  have : c.toNat ≠ k.toNat := fun e => h (UInt8.toNat_inj.1 e)
  simp
  omega
theorem mac_eq (acc : Int) (st : List TV) : ({ data := #[97, 99, 99, 61] } : ByteArray) ++ str (itoa acc) ++ { data := #[32, 124, 32] } ++ str (stText st) = str (macTx acc st) := by
  show str [97, 99, 99, 61] ++ str (itoa acc) ++ str [32, 124, 32] ++ str (stText st) = _
  rw [str_append, str_append, str_append]
  rfl
end Go.Proofs.Qxb6500470a
