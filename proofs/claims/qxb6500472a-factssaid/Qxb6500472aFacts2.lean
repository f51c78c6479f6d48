import Derived.Test.Qxb6500472aFacts
namespace Go.Proofs.Qxb6500472a
open Go.RowKit

def L2 (a b : Int) : Lvl := nextL (some (nextL none (ratioF a 1))) (ratioF b 1)
def AX : Ax := spanF (L2 0 4).l (L2 0 4).h
def AY : Ax := spanF (L2 0 8).l (L2 0 8).h
theorem fits_all : (∀ i : Fin 10, fits32 (ratioF i.val 1) = true) ∧ (∀ i : Fin 33, fits32 (ratioF i.val 4) = true) ∧ fits32 (ratioF (-5) 1) = true := by decide +kernel
theorem cells_1 : ∀ i : Fin 4, ∀ j : Fin 4, cellF AX AY (coordF i.val 1) (coordF (2 * (j.val : Int)) 1) = ((j.val : Int) * 4 + i.val, 0) := by decide +kernel
theorem cells_2 : ∀ i : Fin 4, ∀ j : Fin 4, cellF AX AY (coordF (4 * (i.val : Int) + 3) 4) (coordF (8 * (j.val : Int) + 6) 4) = ((j.val : Int) * 4 + i.val, 0) := by decide +kernel
theorem cells_3 : cellF AX AY (coordF 4 1) (coordF 8 1) = (15, 0) := by decide +kernel
theorem along_1 : ∀ i : Fin 4, eq32 (lerpF (coordF i.val 4) AX.lo AX.hi) (floatOfInt .f32 i.val) = true ∧ eq32 (lerpF (coordF i.val 4) AY.lo AY.hi) (floatOfInt .f32 (2 * (i.val : Int))) = true := by decide +kernel
theorem clamp_1 : eq32 (clampF (coordF 9 1) AX.lo AX.hi) 1082130432 = true ∧ eq32 (clampF (coordF (-5) 1) AY.lo AY.hi) 0 = true := by decide +kernel
end Go.Proofs.Qxb6500472a
