import Derived.Test.Qxb6500472aRows
import Derived.Test.Qxb6500472aBase
import Derived.Test.Qxb6500472aFlo
import Derived.Deep.RegionHeld3
namespace Go.Proofs.Qxb6500472a
open Go.RowKit
attribute [local go_sem] run_store_float drewN_alloc drewN_setCell
abbrev D64 (x : Nat) : Value := .float .f64 x
abbrev add64 (X Y : Nat) : Nat := fop .add .f64 X Y
abbrev quo64 (X Y : Nat) : Nat := fop .quo .f64 X Y
abbrev can64 (x : Nat) : Nat := can .f64 x
abbrev int64 (n : Int) : Nat := floatOfInt .f64 n
/-- 'float64(num) / float64(den)', all NaNs being one. -/
def ratioF (n d : Int) : Nat := quo64 (int64 n) (int64 d)
/-- 'a < b' on floats. -/
def ltF (a b : Nat) : Bool := FloatKind.f64.format.order a b == some .lt
def gtF (a b : Nat) : Bool := FloatKind.f64.format.order a b == some .gt
theorem ltF_can (a b : Nat) : ltF (can64 a) (can64 b) = ltF a b := by unfold ltF; rw [← order_can .f64 a b]
theorem gtF_can (a b : Nat) : gtF (can64 a) (can64 b) = gtF a b := by unfold gtF; rw [← order_can .f64 a b]

set_option maxHeartbeats 400000 in
theorem ratio_any (n d : Int) (w : World) :
    Calls Try.prog 63 #[I n, I d] w fun e w' => ∃ r m, e = .returned (D64 r) ∧ can64 r = ratioF n d ∧ w' = w.drewN m := by
  obtain ⟨rq, nq, hq, cq⟩ := arith_ex Try.prog .quo 80 .f64 (by simp)
  go_enter Try.func63, Try.ntmps63
  go_wp2
  go_ret
  refine ⟨_, _, rfl, ?_, rfl⟩
  exact (cq.out _ _ _).trans (by rw [can_ofInt, can_ofInt]; rfl)

/-- A level's four floats. -/
abbrev L4 (x s l h : Nat) : Value := .agg #[D64 x, D64 s, D64 l, D64 h]

set_option maxHeartbeats 400000 in
theorem first_any (x : Nat) (w : World) :
    Calls Try.prog 64 #[D64 x] w fun e w' => ∃ s, e = .returned (L4 x s x x) ∧ can64 s = add64 0 (can64 x) ∧ Below w.heap.size w w' := by
  obtain ⟨ra, na, ha, ca⟩ := arith_ex Try.prog .add 80 .f64 (by simp)
  go_enter Try.func64, Try.ntmps64
  go_wp2
  refine ret_row Try.results64 rfl rfl ((Blk.new rfl).drewN _) Try.underlying100 rfl (by kernel_rfl) ⟨_, rfl, ?_, ?_⟩
  · exact ca.out _ _ _
  · exact Below.drewN ((Below.refl _ _).alloc (Nat.le_refl _) _) _

/-- The least so far, the greatest so far. -/
def loF (l x : Nat) : Nat := if ltF x l then x else l
def hiF (h x : Nat) : Nat := if gtF x h then x else h
theorem loF_can (l x : Nat) : can64 (loF l x) = loF (can64 l) (can64 x) := by
  unfold loF; rw [ltF_can]; split <;> rfl
theorem hiF_can (l x : Nat) : can64 (hiF l x) = hiF (can64 l) (can64 x) := by
  unfold hiF; rw [gtF_can]; split <;> rfl

set_option maxHeartbeats 1000000 in
theorem step_any (x0 s l h x : Nat) (w : World) :
    Calls Try.prog 65 #[L4 x0 s l h, D64 x] w fun e w' => ∃ s', e = .returned (L4 x s' (loF l x) (hiF h x)) ∧ can64 s' = add64 (can64 s) (can64 x) ∧ Below w.heap.size w w' := by
  obtain ⟨ra, na, ha, ca⟩ := arith_ex Try.prog .add 80 .f64 (by simp)
  have key : ∀ L H, L = loF l x → H = hiF h x → Calls Try.prog 65 #[L4 x0 s l h, D64 x] w fun e w' => ∃ s', e = .returned (L4 x s' L H) ∧ can64 s' = add64 (can64 s) (can64 x) ∧ Below w.heap.size w w' := by
    intro L H hL hH
    unfold loF ltF at hL
    unfold hiF gtF at hH
    by_cases c1 : (FloatKind.f64.format.order x l == some .lt) = true
    · rw [if_pos c1] at hL
      subst hL
      by_cases c2 : (FloatKind.f64.format.order L h == some .gt) = true
      · rw [if_pos c2] at hH
        subst hH
        go_enter Try.func65, Try.ntmps65
        go_wp2
        refine ret_row Try.results65 rfl rfl (((Blk.new (World.size_alloc _ _).symm).old _).drewN _) Try.underlying100 rfl (by kernel_rfl) ⟨_, rfl, ca.out _ _ _, ?_⟩
        exact Below.drewN ((((Below.refl _ _).alloc (Nat.le_refl _) _).alloc (by simp) _).alloc (by simp; omega) _) _
      · rw [if_neg c2] at hH
        subst hH
        replace c2 : (FloatKind.f64.format.order L H == some .gt) = false := by simpa using c2
        go_enter Try.func65, Try.ntmps65
        go_wp2
        refine ret_row Try.results65 rfl rfl (((Blk.new (World.size_alloc _ _).symm).old _).drewN _) Try.underlying100 rfl (by kernel_rfl) ⟨_, rfl, ca.out _ _ _, ?_⟩
        exact Below.drewN ((((Below.refl _ _).alloc (Nat.le_refl _) _).alloc (by simp) _).alloc (by simp; omega) _) _
    · rw [if_neg c1] at hL
      subst hL
      replace c1 : (FloatKind.f64.format.order x L == some .lt) = false := by simpa using c1
      by_cases c2 : (FloatKind.f64.format.order x h == some .gt) = true
      · rw [if_pos c2] at hH
        subst hH
        go_enter Try.func65, Try.ntmps65
        go_wp2
        refine ret_row Try.results65 rfl rfl (((Blk.new (World.size_alloc _ _).symm).old _).drewN _) Try.underlying100 rfl (by kernel_rfl) ⟨_, rfl, ca.out _ _ _, ?_⟩
        exact Below.drewN ((((Below.refl _ _).alloc (Nat.le_refl _) _).alloc (by simp) _).alloc (by simp; omega) _) _
      · rw [if_neg c2] at hH
        subst hH
        replace c2 : (FloatKind.f64.format.order x H == some .gt) = false := by simpa using c2
        go_enter Try.func65, Try.ntmps65
        go_wp2
        refine ret_row Try.results65 rfl rfl (((Blk.new (World.size_alloc _ _).symm).old _).drewN _) Try.underlying100 rfl (by kernel_rfl) ⟨_, rfl, ca.out _ _ _, ?_⟩
        exact Below.drewN ((((Below.refl _ _).alloc (Nat.le_refl _) _).alloc (by simp) _).alloc (by simp; omega) _) _
  exact key _ _ rfl rfl
end Go.Proofs.Qxb6500472a
