import Derived.Test.Qxb6500470aCal7
import Derived.Deep.RegionHeld3
namespace Go.Proofs.Qxb6500470a
open Go.RowKit

abbrev U (c : Nat) : Value := .int .u8 c
set_option maxHeartbeats 400000 in
theorem own_S (w : World) : Calls Try.prog 59 #[U 83] w fun e w' => e = .returned (Fv 72) ∧ w' = w := by
  go_enter Try.func59, Try.ntmps59
  go_wp2
  go_ret
  exact ⟨rfl, rfl⟩
set_option maxHeartbeats 400000 in
theorem own_G (w : World) : Calls Try.prog 59 #[U 71] w fun e w' => e = .returned (Fv 73) ∧ w' = w := by
  go_enter Try.func59, Try.ntmps59
  go_wp2
  go_ret
  exact ⟨rfl, rfl⟩
set_option maxHeartbeats 400000 in
theorem own_D (w : World) : Calls Try.prog 59 #[U 68] w fun e w' => e = .returned (Fv 74) ∧ w' = w := by
  go_enter Try.func59, Try.ntmps59
  go_wp2
  go_ret
  exact ⟨rfl, rfl⟩
set_option maxHeartbeats 400000 in
theorem own_M (w : World) : Calls Try.prog 59 #[U 77] w fun e w' => e = .returned (Fv 75) ∧ w' = w := by
  go_enter Try.func59, Try.ntmps59
  go_wp2
  go_ret
  exact ⟨rfl, rfl⟩
set_option maxHeartbeats 400000 in
theorem own_A (w : World) : Calls Try.prog 59 #[U 65] w fun e w' => e = .returned .nilFunc ∧ w' = w := by
  go_enter Try.func59, Try.ntmps59
  go_wp2
  go_ret
  exact ⟨rfl, rfl⟩
set_option maxHeartbeats 400000 in
theorem own_Z (w : World) : Calls Try.prog 59 #[U 90] w fun e w' => e = .returned .nilFunc ∧ w' = w := by
  go_enter Try.func59, Try.ntmps59
  go_wp2
  go_ret
  exact ⟨rfl, rfl⟩

theorem Mac.drewN {K : Nat → Prop} {w : World} {m p : Nat} {acc : Int} {l : List V} (h : Mac K w m p acc l) (n : Nat) : Mac K (w.drewN n) m p acc l := by
  obtain ⟨a, cap, hA⟩ := h.st
  exact ⟨h.head, ⟨a, cap, hA.head, hA.own, hA.far, hA.kp, hA.ka, hA.ks, hA.le⟩, h.km, h.ok, h.a1, h.a2⟩
theorem Kept.drewN {K : Nat → Prop} {a w : World} (h : Kept K a w) (n : Nat) : Kept K a (w.drewN n) := ⟨h.os, h.tape, h.output, h.size, h.block⟩
theorem tmod_bounds (a n : Int) (hn : n ≠ 0) (n1 : -9223372036854775808 ≤ n) (n2 : n ≤ 9223372036854775807) : -9223372036854775808 ≤ a.tmod n ∧ a.tmod n ≤ 9223372036854775807 := by
  have h1 : (a.tmod n).natAbs = a.natAbs % n.natAbs := Int.natAbs_tmod a n
  have h2 : a.natAbs % n.natAbs < n.natAbs := Nat.mod_lt _ (by omega)
  omega
theorem map_last (l : List V) (v : V) : (l ++ [v]).map vOf = l.map vOf ++ [vOf v] := by simp
set_option maxRecDepth 100000 in
set_option maxHeartbeats 1000000 in
theorem set_any (K : Nat → Prop) (w : World) (m p : Nat) (acc n : Int) (l : List V) (h : Mac K w m p acc (l ++ [some (.inl n)])) :
    Calls Try.prog 72 #[ptr m] w fun e w' => e = .returned (I 0) ∧ Mac K w' m p n l ∧ Kept K w w' := by
  obtain ⟨c0, c1, f1, lm⟩ := h.at0
  obtain ⟨n1, n2⟩ : okV (some (.inl n)) := h.ok _ (by simp)
  have hs := h.st
  rw [map_last] at hs
  have hm := h.acc n1 n2
  have d0 := hm.1.at0.1
  go_enter Try.func72, Try.ntmps72
  go_wp2_with fail
  refine (topInt_int _ w p _ n hs).mono ?_
  rintro e w1 ⟨rfl, rfl⟩
  have hs2 := hm.1.st
  rw [map_last] at hs2
  go_wp2_with fail
  refine (drop_some _ _ p _ _ hs2).mono ?_
  rintro e w2 ⟨rfl, s2, k2⟩
  obtain ⟨m2, kk⟩ := hm.1.turn s2 k2 (fun v hv => h.ok v (by simp [hv]))
  go_wp2
  go_ret
  exact ⟨rfl, m2, hm.2.trans kk⟩
set_option maxRecDepth 100000 in
set_option maxHeartbeats 1000000 in
theorem get_any (K : Nat → Prop) (w : World) (m p : Nat) (acc : Int) (l : List V) (h : Mac K w m p acc l) (h5 : l.length < 5) :
    Calls Try.prog 73 #[ptr m] w fun e w' => e = .returned (I 0) ∧ Mac K w' m p acc (l ++ [some (.inl acc)]) ∧ Kept K w w' := by
  obtain ⟨c0, c1, f1, lm⟩ := h.at0
  have hok : ∀ v ∈ l ++ [some (.inl acc)], okV v := by
    intro v hv
    rcases List.mem_append.1 hv with e | e
    · exact h.ok v e
    · obtain rfl : v = some (.inl acc) := by simpa using e
      exact ⟨h.a1, h.a2⟩
  go_enter Try.func73, Try.ntmps73
  go_wp2_with fail
  go_region_held3 (fun W => W.cell? ⟨m, 0, none⟩ = some (ptr p) ∧ W.cell? ⟨m, 1, none⟩ = some (I acc)) (go_keep) (first | (go_at_call 62; refine (pushI _ _ p _ (by first | exact h.st | exact (h.drewN 1).st) (by rw [List.length_map]; exact h5) acc).mono ?_; rintro e w2 ⟨rfl, s2, k2⟩; obtain ⟨m2, kk⟩ := (h.drewN 1).turn (l' := l ++ [some (.inl acc)]) (by rw [map_last]; exact s2) k2 hok; have q0 := m2.at0.1; have q1 := m2.at0.2.1))
  go_wp2
  go_ret
  exact ⟨rfl, m2, ((Kept.refl K w).drewN 1).trans kk⟩
set_option maxRecDepth 100000 in
set_option maxHeartbeats 1000000 in
theorem div_zero (K : Nat → Prop) (w : World) (m p : Nat) (acc : Int) (l : List V) (h : Mac K w m p acc (l ++ [some (.inl 0)])) :
    Calls Try.prog 74 #[ptr m] w fun e w' => e = .returned (I 10) ∧ w' = w := by
  obtain ⟨c0, c1, f1, lm⟩ := h.at0
  have hs := h.st
  rw [map_last] at hs
  go_enter Try.func74, Try.ntmps74
  go_wp2_with fail
  refine (topInt_int _ w p _ 0 hs).mono ?_
  rintro e w1 ⟨rfl, rfl⟩
  go_wp2
  go_ret
  exact ⟨rfl, rfl⟩
set_option maxRecDepth 100000 in
set_option maxHeartbeats 1000000 in
theorem mod_zero (K : Nat → Prop) (w : World) (m p : Nat) (acc : Int) (l : List V) (h : Mac K w m p acc (l ++ [some (.inl 0)])) :
    Calls Try.prog 75 #[ptr m] w fun e w' => e = .returned (I 10) ∧ w' = w := by
  obtain ⟨c0, c1, f1, lm⟩ := h.at0
  have hs := h.st
  rw [map_last] at hs
  go_enter Try.func75, Try.ntmps75
  go_wp2_with fail
  refine (topInt_int _ w p _ 0 hs).mono ?_
  rintro e w1 ⟨rfl, rfl⟩
  go_wp2
  go_ret
  exact ⟨rfl, rfl⟩
set_option maxRecDepth 100000 in
set_option maxHeartbeats 1000000 in
theorem div_any (K : Nat → Prop) (w : World) (m p : Nat) (acc n : Int) (l : List V) (h : Mac K w m p acc (l ++ [some (.inl n)])) (hn : n ≠ 0) :
    Calls Try.prog 74 #[ptr m] w fun e w' => e = .returned (I 0) ∧ Mac K w' m p (wrap64 (acc.tdiv n)) l ∧ Kept K w w' := by
  obtain ⟨c0, c1, f1, lm⟩ := h.at0
  have hs := h.st
  rw [map_last] at hs
  have hm := h.acc (w64_bounds (acc.tdiv n)).1 (w64_bounds (acc.tdiv n)).2
  have d0 := hm.1.at0.1
  have hn0 : (n == 0) = false := by simpa using hn
  go_enter Try.func74, Try.ntmps74
  go_wp2_with fail
  refine (topInt_int _ w p _ n hs).mono ?_
  rintro e w1 ⟨rfl, rfl⟩
  have hs2 := hm.1.st
  rw [map_last] at hs2
  go_wp2_with fail
  refine (drop_some _ _ p _ _ hs2).mono ?_
  rintro e w2 ⟨rfl, s2, k2⟩
  obtain ⟨m2, kk⟩ := hm.1.turn s2 k2 (fun v hv => h.ok v (by simp [hv]))
  go_wp2
  go_ret
  exact ⟨rfl, m2, hm.2.trans kk⟩
set_option maxRecDepth 100000 in
set_option maxHeartbeats 1000000 in
theorem mod_any (K : Nat → Prop) (w : World) (m p : Nat) (acc n : Int) (l : List V) (h : Mac K w m p acc (l ++ [some (.inl n)])) (hn : n ≠ 0) :
    Calls Try.prog 75 #[ptr m] w fun e w' => e = .returned (I 0) ∧ Mac K w' m p (acc.tmod n) l ∧ Kept K w w' := by
  obtain ⟨c0, c1, f1, lm⟩ := h.at0
  have hs := h.st
  rw [map_last] at hs
  obtain ⟨n1, n2⟩ : okV (some (.inl n)) := h.ok _ (by simp)
  have hm := h.acc (tmod_bounds acc n hn n1 n2).1 (tmod_bounds acc n hn n1 n2).2
  have d0 := hm.1.at0.1
  have hn0 : (n == 0) = false := by simpa using hn
  go_enter Try.func75, Try.ntmps75
  go_wp2_with fail
  refine (topInt_int _ w p _ n hs).mono ?_
  rintro e w1 ⟨rfl, rfl⟩
  have hs2 := hm.1.st
  rw [map_last] at hs2
  go_wp2_with fail
  refine (drop_some _ _ p _ _ hs2).mono ?_
  rintro e w2 ⟨rfl, s2, k2⟩
  obtain ⟨m2, kk⟩ := hm.1.turn s2 k2 (fun v hv => h.ok v (by simp [hv]))
  go_wp2
  go_ret
  exact ⟨rfl, m2, hm.2.trans kk⟩
end Go.Proofs.Qxb6500470a
