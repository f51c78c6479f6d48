import Derived.Test.Qxb6500470aVmc
import Derived.Laws.ResultCell
import Derived.Laws.Rows
namespace Go.Proofs.Qxb6500470a
open Go.RowKit
theorem ret_row2 {P : Program} {fn : Func} {R : Ending → World → Prop} {a : Act} {w : World} {p q : Tmp} {ty t : TypeId} {g : Nat} {cs : Array Value} {d : TypeDesc} {v : Value} (h : fn.results = #[.cell p ty, .tmp q]) (hdf : a.defers = []) (hp : a.tmps.getD p undef = .pointer (some ⟨g, 0, none⟩)) (hq : a.tmps.getD q undef = v) (hg : Blk w g cs t)
    (hu : P.underlying ty = some d) (hd : (match d with | .struct _ | .array _ _ => true | _ => false) = true) (hi : (P.info? ty).map (·.size) = some cs.size) (hR : R (.returned (.tuple #[.agg cs, v])) w) : bodyPost P fn R .ret a w := by
  refine bodyPost_ret (v := .tuple #[.agg cs, v]) ?_ hdf hR
  have hg' : w.heap[g]? = some (.cells cs t (0, 0)) := hg
  rw [results_cell_tmp h, hp, hq]
  simp [asAddr, Result.andThen, run_loadVar_row w g t ty cs (0, 0) d hg' hu hd hi]
theorem own_le {W : World} {g n cap : Nat} {cs : List Value} (h : W.ownsRow 0 137 4 (.slice (some ⟨g, 0, none⟩) n cap) n cs) : n ≤ cap := by
  rcases h.2 with ⟨e, -⟩ | ⟨g', c, cur, hv, -, -, hle, -⟩
  · cases e
  · simp only [Value.slice.injEq, true_and] at hv
    obtain ⟨-, rfl⟩ := hv
    exact hle
abbrev Z4 : Array Value := #[I 0, I 0, S [], .slice none 0 0]
/-- The new rows of a sum. -/
def NewK (K K' : Nat → Prop) (w w' : World) : Prop := (∀ k, K k → K' k) ∧ (∀ k, K' k → K k ∨ (w.heap.size ≤ k ∧ k < w'.heap.size))
/-- What Plus answers. -/
def PlusP (K : Nat → Prop) (w : World) (a b : TV) : Ending → World → Prop := fun e w' => match plusT a b with
  | .error k => e = .returned (.tuple #[.agg Z4, I k]) ∧ Below w.heap.size w w'
  | .ok z => ∃ (K' : Nat → Prop) (c0 c1 c2 c3 : Value), e = .returned (.tuple #[.agg #[c0, c1, c2, c3], I 0]) ∧ NewK K K' w w' ∧ MR K' w' z c0 c1 c2 c3 ∧ Below w.heap.size w w'
theorem plusVal : Try.prog.underlying 137 = Try.prog.underlying 137 := rfl
set_option maxRecDepth 100000 in
set_option maxHeartbeats 16000000 in
theorem plus_e5 (w : World) (ta na tb nb : Int) (sa sb : List UInt8) (ka kb : Value) (aa ab : Option Addr) (la ca lb cb : Nat) (hka : ka = .slice aa la ca) (hkb : kb = .slice ab lb cb) (ht : ta = 1 ∨ ta = 2 ∨ ta = 3 ∨ ta = 4) (hh : hasT ta 1 = false) :
    Calls Try.prog 115 #[.agg #[I ta, I na, S sa, ka], .agg #[I tb, I nb, S sb, kb]] w fun e w' => e = .returned (.tuple #[.agg Z4, I 5]) ∧ Below w.heap.size w w' := by
  subst hka hkb
  have HH := fun W => has_w ta 1 ht (by decide) W
  rw [hh] at HH
  have B0 : Below w.heap.size w (w.alloc (.cells #[I ta, I na, S sa, .slice aa la ca] 137)) := (Below.refl _ _).alloc (Nat.le_refl _) _
  have B1 := B0.alloc B0.size (.cells #[I tb, I nb, S sb, .slice ab lb cb] 137)
  have B2 := B1.alloc B1.size (.cells Z4 137)
  have X2 : Blk (((w.alloc (.cells #[I ta, I na, S sa, .slice aa la ca] 137)).alloc (.cells #[I tb, I nb, S sb, .slice ab lb cb] 137)).alloc (.cells Z4 137)) (w.heap.size + 2) Z4 137 := Blk.new (by rw [World.size_alloc, World.size_alloc])
  go_enter Try.func115, Try.ntmps115
  go_wp2_with fail
  refine (HH _).mono ?_
  rintro e w' ⟨rfl, rfl⟩
  go_wp2
  exact ret_row2 Try.results115 rfl rfl rfl X2 Try.underlying137 rfl (by kernel_rfl) ⟨rfl, B2⟩
set_option maxRecDepth 100000 in
set_option maxHeartbeats 16000000 in
theorem plus_e6 (w : World) (ta na tb nb : Int) (sa sb : List UInt8) (ka kb : Value) (aa ab : Option Addr) (la ca lb cb : Nat) (hka : ka = .slice aa la ca) (hkb : kb = .slice ab lb cb) (ht : ta = 1 ∨ ta = 2 ∨ ta = 3 ∨ ta = 4) (hh : hasT ta 1 = true) (hne : ta ≠ tb) :
    Calls Try.prog 115 #[.agg #[I ta, I na, S sa, ka], .agg #[I tb, I nb, S sb, kb]] w fun e w' => e = .returned (.tuple #[.agg Z4, I 6]) ∧ Below w.heap.size w w' := by
  subst hka hkb
  have HH := fun W => has_w ta 1 ht (by decide) W
  rw [hh] at HH
  have q1 : (ta != tb) = true := by simpa using hne
  have q2 : (ta == tb) = false := by simpa using hne
  have B0 : Below w.heap.size w (w.alloc (.cells #[I ta, I na, S sa, .slice aa la ca] 137)) := (Below.refl _ _).alloc (Nat.le_refl _) _
  have B1 := B0.alloc B0.size (.cells #[I tb, I nb, S sb, .slice ab lb cb] 137)
  have B2 := B1.alloc B1.size (.cells Z4 137)
  have X2 : Blk (((w.alloc (.cells #[I ta, I na, S sa, .slice aa la ca] 137)).alloc (.cells #[I tb, I nb, S sb, .slice ab lb cb] 137)).alloc (.cells Z4 137)) (w.heap.size + 2) Z4 137 := Blk.new (by rw [World.size_alloc, World.size_alloc])
  go_enter Try.func115, Try.ntmps115
  go_wp2_with fail
  refine (HH _).mono ?_
  rintro e w' ⟨rfl, rfl⟩
  go_wp2
  exact ret_row2 Try.results115 rfl rfl rfl X2 Try.underlying137 rfl (by kernel_rfl) ⟨rfl, B2⟩
end Go.Proofs.Qxb6500470a
