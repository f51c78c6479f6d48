import Derived.Test.Qxb6500468aPm4
import Derived.Deep.RegionHeld3
namespace Go.Proofs.Qxb6500468a
open Go.RowKit

/-- The first k slots of two model stores say the same. -/
def Alike (us us2 : List Bool) (hs hs2 : List Int) (k : Nat) : Prop := ∀ j, j < k → us.getD j false = us2.getD j false ∧ ∀ c, c < 5 → hs.getD (5 * j + c) 0 = hs2.getD (5 * j + c) 0
theorem Alike.tells {us us2 : List Bool} {hs hs2 : List Int} (h : Alike us us2 hs hs2 8) {U : Nat} {W : List Nat} (t : Tells U W us2 hs2) : Tells U W us hs := by
  intro i hi
  obtain ⟨a, b⟩ := h i hi
  obtain ⟨t1, t2⟩ := t i hi
  refine ⟨a.trans t1, fun e => ?_⟩
  obtain ⟨r0, r1, r2, r3, r4⟩ := t2 e
  exact ⟨(b 0 (by omega)).trans r0, (b 1 (by omega)).trans r1, (b 2 (by omega)).trans r2, (b 3 (by omega)).trans r3, (b 4 (by omega)).trans r4⟩
theorem Alike.step {us us2 : List Bool} {hs hs2 : List Int} {k : Nat} (h : Alike us us2 hs hs2 k) (l1 : us.length = 8) (l2 : hs.length = 40) (hk : k < 8) :
    Alike (us.set k (us2.getD k false)) us2 (hset hs k (hs2.getD (k * 5) 0) (hs2.getD (k * 5 + 1) 0) (hs2.getD (k * 5 + 2) 0) (hs2.getD (k * 5 + 3) 0) (hs2.getD (k * 5 + 4) 0)) hs2 (k + 1) := by
  intro j hj
  by_cases e : k = j
  · subst e
    refine ⟨by rw [getB_set _ _ _ _ (by omega), if_pos rfl], fun c hc => ?_⟩
    rw [hset_at hs l2 k hk _ _ _ _ _ k c hc, if_pos rfl, Nat.mul_comm 5 k]
    have : c = 0 ∨ c = 1 ∨ c = 2 ∨ c = 3 ∨ c = 4 := by omega
    rcases this with rfl | rfl | rfl | rfl | rfl <;> rfl
  · obtain ⟨a, b⟩ := h j (by omega)
    refine ⟨by rw [getB_set _ _ _ _ (by omega), if_neg e, a], fun c hc => ?_⟩
    rw [hset_at hs l2 k hk _ _ _ _ _ j c hc, if_neg e]
    exact b c hc

set_option maxRecDepth 100000 in
set_option maxHeartbeats 4000000 in
theorem mtake_any (w : World) (m n : Nat) (us us2 : List Bool) (hs hs2 : List Int) (h : MoR w m us hs) (h2 : MoR w n us2 hs2) (hmn : m ≠ n) (U : Nat) (W : List Nat) (ht : Tells U W us2 hs2) :
    Calls Try.prog 76 #[ptr m, ptr n] w fun e w' => e = .returned (.tuple #[]) ∧ Mon w m U W w' := by
  go_enter Try.func76, Try.ntmps76
  go_wp2
  go_loopw [4] (fun i wr => ∃ (k : Nat) (us' : List Bool) (hs' : List Int), k ≤ 8 ∧ i = I k ∧ MoR wr m us' hs' ∧ MoR wr n us2 hs2 ∧ Alike us' us2 hs' hs2 k ∧ Upd [m] w wr) (fun i _ => (8 - intOf i).toNat)
  case atStart => exact ⟨0, us, hs, by omega, rfl, h, h2, fun j hj => by omega, Upd.refl _ _⟩
  case round =>
    clear h h2
    obtain ⟨k, us', hs', hk, rfl, hr, hr2, al, ur⟩ := hrel
    by_cases hlt : k < 8
    · have q1 : (k : Int) < 8 := by omega
      have HAL : Hid (Alike _ _ _ _ _) := al.step hr.l1 hr.l2 hlt
      have y0 : wr.cell? ⟨n, k, none⟩ = some (.bool (us2.getD k false)) := (hr2.head.cell k).trans (moC_u _ _ k (by rw [hr2.l1]; exact hlt))
      have x0 : wr.cell? ⟨m, k, none⟩ = some (.bool (us'.getD k false)) := (hr.head.cell k).trans (moC_u _ _ k (by rw [hr.l1]; exact hlt))
      have fz := hr.head.frozen k
      have hnm : n ≠ m := fun e => hmn e.symm
      clear al
      generalize us2.getD k false = b at *
      generalize us'.getD k false = b' at *
      go_wp2_with fail
      go_region
      go_wp2_with fail
      have Us : Upd [m] wr _ := ((Upd.refl [m] wr).setCell (p := ⟨m, k, none⟩) (by simp) (.bool b)).drew
      have hr3 : MoR _ m (us'.set k b) hs' := (hr.setu k b hlt).later (Below.refl _ _).drew
      have hr4 := hr2.upd Us (fun hm => hnm (List.mem_singleton.1 hm))
      have ur3 := ur.trans Us
      clear y0 x0 fz hr hr2 ur Us
      generalize (wr.setCell ⟨m, k, none⟩ (.bool b)).drew = v1 at *
      obtain ⟨x0, x1, x2, x3, x4⟩ := hr3.cellh k hlt
      obtain ⟨y0, y1, y2, y3, y4⟩ := hr4.cellh k hlt
      have fz := hr3.head.frozen
      generalize hs2.getD (k * 5) 0 = a0 at *
      generalize hs2.getD (k * 5 + 1) 0 = a1 at *
      generalize hs2.getD (k * 5 + 2) 0 = a2 at *
      generalize hs2.getD (k * 5 + 3) 0 = a3 at *
      generalize hs2.getD (k * 5 + 4) 0 = a4 at *
      have Us : Upd [m] v1 _ := ((((((Upd.refl [m] v1).setCell (p := ⟨m, 8 + k * 5, none⟩) (by simp) (I a0)).setCell (p := ⟨m, 8 + k * 5 + 1, none⟩) (by simp) (I a1)).setCell (p := ⟨m, 8 + k * 5 + 2, none⟩) (by simp) (I a2)).setCell (p := ⟨m, 8 + k * 5 + 3, none⟩) (by simp) (I a3)).setCell (p := ⟨m, 8 + k * 5 + 4, none⟩) (by simp) (I a4)).drew
      have hr5 := (hr3.lay k a0 a1 a2 a3 a4).later (Below.refl _ _).drew
      have hr6 := hr4.upd Us (fun hm => hnm (List.mem_singleton.1 hm))
      have ur6 := ur3.trans Us
      have HF : Hid (MoR _ m _ _ ∧ MoR _ n us2 hs2 ∧ Upd [m] w _) := ⟨hr5, hr6, ur6⟩
      generalize hs'.getD (k * 5) 0 = o0 at x0
      generalize hs'.getD (k * 5 + 1) 0 = o1 at x1
      generalize hs'.getD (k * 5 + 2) 0 = o2 at x2
      generalize hs'.getD (k * 5 + 3) 0 = o3 at x3
      generalize hs'.getD (k * 5 + 4) 0 = o4 at x4
      clear hr5 hr6 ur6 Us hr3 hr4 ur3
      go_region
      go_wp2
      go_roundw
      case rel => exact ⟨k + 1, us'.set k b, hset hs' k a0 a1 a2 a3 a4, by omega, by go_num, HF.out.1, HF.out.2.1, HAL.out, HF.out.2.2⟩
      case measure => simp [intOf]; omega
    · obtain rfl : k = 8 := by omega
      have T8 := al.tells ht
      go_wp2
      go_end0
      exact ⟨rfl, us', hs', hr, T8, ur⟩
end Go.Proofs.Qxb6500468a
