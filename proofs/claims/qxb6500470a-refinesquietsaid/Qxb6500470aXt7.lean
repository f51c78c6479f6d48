import Derived.Test.Qxb6500470aXt6
import Derived.Maps.OwnIn
namespace Go.Proofs.Qxb6500470a
open Go.RowKit Go.Shelf
/-- Within it every function has its text. -/
def Fx : Fence := { fn := fun f => ∃ g, Try.prog.funcs[f]? = some g, depth := none, alive := false }
theorem Fx_round : Fx.round = none := rfl
attribute [local go_sem] Fx_round Oper.semAt_some
theorem Fx_depth (n : Nat) : Fx.depth.isSome = true → 1 ≤ n := fun h => Bool.noConfusion (show false = true from h)
theorem Fx.room (k : Nat) : Fence.room Fx k := fun d h => by cases h
set_option maxHeartbeats 1000000 in
theorem peekX (n : Nat) (K : Nat → Prop) (w : World) (p : Nat) (vs : List Value) (h : StQ K w p vs) (i : Nat) (hi : i < vs.length) :
    CallsIn Fx n Try.prog 54 #[ptr p, I i] w fun e w' => e = .returned (vs.getD (vs.length - 1 - i) .nilIface) ∧ w' = w := by
  obtain ⟨a, cap, h⟩ := h
  obtain ⟨c0, c1, f0, f1, lp⟩ := h.at0
  have h5 := h.le
  obtain ⟨g, rfl, hg, hle, hne, hl⟩ := h.form (by omega)
  have cg := hg (vs.length - 1 - i) (by omega)
  have e1 : ((vs.length : Int) - 1 - (i : Int)) = ((vs.length - 1 - i : Nat) : Int) := by omega
  have i0 : ¬ (i : Int) < 0 := by omega
  have i1 : ¬ (vs.length : Int) ≤ (i : Int) := by omega
  have w1 := wr64 ((vs.length : Int) - 1) (by omega) (by omega)
  have w2 := wr64 ((vs.length - 1 - i : Nat) : Int) (by omega) (by omega)
  have i2 : ((vs.length - 1 - i : Nat) : Int) < (vs.length : Int) := by omega
  generalize vs.getD (vs.length - 1 - i) .nilIface = v at *
  refine callsIn_of_wp_marks Try.func54 rfl ⟨_, Try.func54⟩ ?_ rfl
  simp only [Try.ntmps54, List.size_toArray, List.length_cons, List.length_nil, Nat.reduceAdd, Nat.reduceSub, Array.replicate_succ, Array.replicate_zero, List.push_toArray, List.append_toArray, List.nil_append, List.cons_append]
  gi_wp2
  exact ⟨_, results_tmp rfl _ _ _, rfl, rfl⟩
set_option maxHeartbeats 2000000 in
theorem takeX (n : Nat) (K : Nat → Prop) (w : World) (p : Nat) (vs : List Value) (t : TypeId) (v : Value) (h : StQ K w p (vs ++ [.iface t v])) :
    CallsIn Fx n Try.prog 94 #[ptr p] w fun e w' => e = .returned (.iface t v) ∧ StQ K w' p vs ∧ Kept K w w' := by
  have hp := peekX (n - 1) K w p _ h 0 (by simp)
  rw [getD_last] at hp
  have hz : ∀ w, (binOp .neq 64 (.iface t v) .nilIface).run Try.prog w = .ok (.bool true) w := fun _ => by kernel_rfl
  obtain ⟨a, cap, hA⟩ := h
  obtain ⟨c0, c1, f0, f1, lp⟩ := hA.at0
  have h5 := hA.le
  obtain ⟨g, rfl, -, hle, -, -⟩ := hA.form (by simp)
  have S1 := hA.pre (n := vs.length) (by simp)
  rw [List.take_left'  rfl] at S1
  rw [List.length_append, List.length_singleton] at c0 hle h5
  have HK : Kept K w (w.setCell ⟨p, 0, none⟩ (.slice (some ⟨g, 0, none⟩) vs.length cap)) := (Kept.refl K w).setCell hA.kp _
  have e2 : ((vs.length + 1 : Nat) : Int) - 1 = (vs.length : Int) := by omega
  have w1 := wr64 (vs.length : Int) (by omega) (by omega)
  have e3 : (vs.length : Int) ≤ (cap : Int) := by omega
  have HS : Hid _ := S1
  clear hA S1
  refine callsIn_of_wp_marks Try.func94 rfl ⟨_, Try.func94⟩ ?_ rfl
  simp only [Try.ntmps94, List.size_toArray, List.length_cons, List.length_nil, Nat.reduceAdd, Nat.reduceSub, Array.replicate_succ, Array.replicate_zero, List.push_toArray, List.append_toArray, List.nil_append, List.cons_append]
  gi_wp2_with fail
  refine ⟨⟨_, Try.func54⟩, Fx_depth _, hp.mono ?_⟩
  rintro e w0 ⟨rfl, hw0⟩
  rw [hw0]
  clear hw0 w0
  gi_wp2
  gi_region
  gi_wp2
  exact ⟨_, results_tmp rfl _ _ _, rfl, ⟨_, _, HS.out.kept (kdrew (fun _ => True) _) trivial (fun _ _ => trivial)⟩, HK.trans (kdrew K _)⟩
theorem own_some {w : World} {v : Value} {n : Nat} {xs : List Value} (h : w.ownsRow 0 64 1 v n xs) (h0 : 0 < n) : ∃ g cap, v = .slice (some ⟨g, 0, none⟩) n cap := by
  rcases h.2 with ⟨-, e⟩ | ⟨g, c, cur, hv, -⟩
  · omega
  · exact ⟨g, c, hv⟩
set_option maxHeartbeats 4000000 in
theorem swapX (n0 : Nat) (K : Nat → Prop) (w : World) (p : Nat) (vs : List Value) (h : StQ K w p vs) (n d : Nat) (hnd : n + d = vs.length) (hn : n < 5) (t : TypeId) (v : Value) :
    CallsIn Fx n0 Try.prog 56 #[ptr p, I d, .iface t v] w fun e w' => e = .returned (.tuple #[]) ∧ StQ K w' p (vs.take n ++ [.iface t v]) ∧ Kept K w w' := by
  obtain ⟨a, cap, h⟩ := h
  obtain ⟨c0, c1, f0, f1, lp⟩ := h.at0
  have h5 := h.le
  have e1 : ((vs.length : Int) - (d : Int)) = (n : Int) := by omega
  have w1 := wr64 (n : Int) (by omega) (by omega)
  obtain ⟨i0, hi, hz0, hz1, hz2⟩ := info_parts vInfo
  have HO := own_pre h.own (show n ≤ vs.length by omega)
  have HF := h.far
  have HH := h.head
  have n0 : ¬ (n : Int) < 0 := by omega
  have HA : Hid (StU K w p a cap vs) := h
  have hcap : (n : Int) ≤ (cap : Int) := by
    rcases h.own.2 with ⟨e, h0⟩ | ⟨g0, c, cur, hv, -, -, hle, hm, -, -⟩
    · omega
    · simp only [Value.slice.injEq] at hv
      omega
  clear h
  refine callsIn_of_wp_marks Try.func56 rfl ⟨_, Try.func56⟩ ?_ rfl
  simp only [Try.ntmps56, List.size_toArray, List.length_cons, List.length_nil, Nat.reduceAdd, Nat.reduceSub, Array.replicate_succ, Array.replicate_zero, List.push_toArray, List.append_toArray, List.nil_append, List.cons_append]
  gi_wp2_with (gi_at_builtin; go_loud (refine wpListIn_append_own_at _ rfl (.tmp 20) (.tmp 22) 60 rfl 0 64 i0 .nilIface 1 16 Try.underlying60 hi hz0 hz1 hz2 rfl (by decide) (.slice a n cap) _ _ rfl (World.ownsRow.alloc HO _) ⟨w.heap.size, 0, none⟩ 1 1 [.iface t v] rfl rfl (cell_one_new _ _ _) (by intro u hu; simp at hu; subst hu; rfl) (by unfold maxLen; omega) (by omega) (Nat.zero_le _) ?_); intro v' w2 hown hgrow hnil hat; obtain ⟨g, cap', rfl⟩ := own_some hown (by omega); go_loud (rw [own_slice] at hgrow hat); have P1 : Blk w2 p #[.slice a vs.length cap, .bool true] 62 := (hgrow.block p (by show p < (w.alloc _).heap.size; rw [World.size_alloc]; omega) (fun e => HF e.symm)).trans (HH.old _); have d0 := P1.cell 0; have d1 := P1.frozen 0)
  exact ⟨_, results_none rfl _ _ _, rfl, swap_postQ HA.out hn (by omega) hown hgrow (by
    rcases hat with e | e
    · exact .inl ((own_slice a n cap).symm.trans e.symm)
    · refine .inr ?_
      simp [blk?] at e
      exact e)⟩
set_option maxHeartbeats 1000000 in
theorem giveX_ok (n : Nat) (K : Nat → Prop) (w : World) (p : Nat) (vs : List Value) (t : TypeId) (v : Value) (h : StQ K w p vs) (hn : vs.length < 5) :
    CallsIn Fx n Try.prog 95 #[ptr p, .iface t v] w fun e w' => e = .returned (.tuple #[]) ∧ StQ K w' p (vs ++ [.iface t v]) ∧ Kept K w w' := by
  have hs := swapX (n - 1) K w p _ h vs.length 0 (by simp) hn t v
  rw [List.take_length] at hs
  obtain ⟨a, cap, hA⟩ := h
  obtain ⟨c0, c1, f0, f1, lp⟩ := hA.at0
  have h5 : ¬ (5 : Int) ≤ (vs.length : Int) := by omega
  clear hA
  refine callsIn_of_wp_marks Try.func95 rfl ⟨_, Try.func95⟩ ?_ rfl
  simp only [Try.ntmps95, List.size_toArray, List.length_cons, List.length_nil, Nat.reduceAdd, Nat.reduceSub, Array.replicate_succ, Array.replicate_zero, List.push_toArray, List.append_toArray, List.nil_append, List.cons_append]
  gi_wp2_with fail
  refine ⟨⟨_, Try.func56⟩, Fx_depth _, hs.mono ?_⟩
  rintro e w1 ⟨rfl, s1, k1⟩
  gi_wp2
  exact ⟨_, results_none rfl _ _ _, rfl, s1, k1⟩
set_option maxHeartbeats 1000000 in
theorem giveX_full (n : Nat) (K : Nat → Prop) (w : World) (p : Nat) (vs : List Value) (v : Value) (h : StQ K w p vs) (hn : vs.length = 5) :
    CallsIn Fx n Try.prog 95 #[ptr p, v] w fun e w' => e = .panicked [{ v := .iface 26 (I 3), recovered := false }] ∧ w' = w := by
  obtain ⟨a, cap, hA⟩ := h
  obtain ⟨c0, c1, f0, f1, lp⟩ := hA.at0
  rw [hn] at c0
  clear hA
  refine callsIn_of_wp_marks Try.func95 rfl ⟨_, Try.func95⟩ ?_ rfl
  simp only [Try.ntmps95, List.size_toArray, List.length_cons, List.length_nil, Nat.reduceAdd, Nat.reduceSub, Array.replicate_succ, Array.replicate_zero, List.push_toArray, List.append_toArray, List.nil_append, List.cons_append]
  gi_wp2
  exact ⟨rfl, rfl⟩
end Go.Proofs.Qxb6500470a
