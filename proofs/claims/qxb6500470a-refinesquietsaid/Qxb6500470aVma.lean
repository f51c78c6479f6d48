import Derived.Test.Qxb6500470aVm9
import Derived.Deep.RegionWith
namespace Go.Proofs.Qxb6500470a
open Go.RowKit
set_option maxRecDepth 100000 in
set_option maxHeartbeats 16000000 in
theorem mNeg_pair (K : Nat → Prop) (w : World) (p : Nat) (a b : TV) (r : List TV) (h : MT K w p (.pair a b :: r)) (la : (text a).length ≤ 30) (lb : (text b).length ≤ 30) : Calls Try.prog 108 #[ptr p] w (Wm K w p (wPutM 1 (.pair b a) (.pair a b :: r))) := by
  have h5 := h.len
  obtain ⟨g, cap, c0, c1, c2, c3, hp, hg, kg, lg, lp, hle, fp, h0, h1, h2, h3, hm⟩ := h.val r.length 0 (by simp)
  have hm : MR K w (.pair a b) c0 c1 c2 c3 := hm
  obtain ⟨rfl, rfl, rfl, a0, a1, a2, a3, b0, b1, b2, b3, ha, hb, hrow⟩ := hm
  obtain ⟨gk, capk, e3, kgk, hlek, hc, lgk⟩ := RowK.form (xs := [a, b]) hrow (by simp)
  subst e3
  have hl : (TV.pair a b :: r).length = r.length + 1 := rfl
  have k0 := hc 0 _ rfl
  have k1 := hc 1 _ rfl
  have k2 := hc 2 _ rfl
  have k3 := hc 3 _ rfl
  have k4 := hc 4 _ rfl
  have k5 := hc 5 _ rfl
  have k6 := hc 6 _ rfl
  have k7 := hc 7 _ rfl
  have hone1 := (MRs.one ha).cells1
  have hone2 := (MRs.one hb).cells1
  have PP := fun W g => put_pair K w W p 1 g (.pair a b :: r) h (by simp) b a b0 b1 b2 b3 a0 a1 a2 a3 hb ha lb la
  have B0 : Below w.heap.size w (w.alloc (.cells #[I 4, I 0, S [], .slice (some ⟨gk, 0, none⟩) 2 capk] 137)) := (Below.refl _ _).alloc (Nat.le_refl _) _
  have HH := has_w 4 2 (by decide) (by decide) (w.alloc (.cells #[I 4, I 0, S [], .slice (some ⟨gk, 0, none⟩) 2 capk] 137))
  have e3 : hasT 4 2 = true := by decide
  rw [e3] at HH
  have B1 : Below w.heap.size w (((w.alloc (.cells #[I 4, I 0, S [], .slice (some ⟨gk, 0, none⟩) 2 capk] 137)).alloc (.cells #[b0, b1, b2, b3, a0, a1, a2, a3] 137)).drew) := (B0.alloc B0.size _).drew
  have X1 : Blk (((w.alloc (.cells #[I 4, I 0, S [], .slice (some ⟨gk, 0, none⟩) 2 capk] 137)).alloc (.cells #[b0, b1, b2, b3, a0, a1, a2, a3] 137)).drew) (w.heap.size + 1) #[b0, b1, b2, b3, a0, a1, a2, a3] 137 := (Blk.new (World.size_alloc _ _).symm).drew
  generalize wPutM 1 (.pair b a) (.pair a b :: r) = R at *
  rw [hl] at hp hle h5
  have hgk : gk ≠ w.heap.size := by omega
  have hcl : ([a, b] : List TV).length = 2 := rfl
  rw [hcl] at *
  clear ha hb h hrow hc
  generalize r.length = m at *
  have w1 := wr64 (m : Int) (by omega) (by omega)
  have q1 : ¬ ((m : Int) + 1) < 1 := by omega
  go_enter Try.func108, Try.ntmps108
  go_wp2_with fail
  refine HH.mono ?_
  rintro e w' ⟨rfl, rfl⟩
  go_wp2_with fail
  go_region_with (go_at_call 114; refine (PP _ (w.heap.size + 1) B1 (Nat.le_succ _) X1).mono ?_; rintro e w' ⟨rfl, tn⟩)
  all_goals
    go_wp2
    go_ret
    exact ⟨rfl, tn⟩
end Go.Proofs.Qxb6500470a
