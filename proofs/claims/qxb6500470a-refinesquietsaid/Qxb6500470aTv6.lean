import Derived.Test.Qxb6500470aTv5
namespace Go.Proofs.Qxb6500470a
open Go.RowKit
theorem RV.iface {K : Nat → Prop} {w : World} {x : TV} {v : Value} (h : RV K w x v) : ∃ t u, v = .iface t u := by
  cases x with
  | int n => exact ⟨_, _, h.1⟩
  | str s => exact ⟨_, _, h⟩
  | nil => exact ⟨_, _, h⟩
  | cons a b => obtain ⟨q, hv, tp, e, -⟩ := h; exact ⟨_, _, e⟩
  | pair a b => obtain ⟨q, hv, tp, e, -⟩ := h; exact ⟨_, _, e⟩
theorem count_lt (K : Nat → Prop) (w : World) (p : Nat) (vs : List Value) (h : StR K w p vs) : ∃ a cap, w.cell? ⟨p, 0, none⟩ = some (.slice a vs.length cap) ∧ p < w.heap.size := by
  obtain ⟨a, cap, h⟩ := h
  exact ⟨a, cap, h.at0.1, h.at0.2.2.2.2⟩
set_option maxRecDepth 100000 in
set_option maxHeartbeats 2000000 in
theorem pair_under (K : Nat → Prop) (w : World) (p : Nat) (vs : List Value) (h : StR K w p vs) (hn : vs.length < 2) :
    Calls Try.prog 42 #[ptr p] w fun e w' => e = .returned (I 4) ∧ w' = w := by
  obtain ⟨a, cap, c0, lp⟩ := count_lt K w p vs h
  have i1 : (vs.length : Int) < 2 := by omega
  go_enter Try.func42, Try.ntmps42
  go_wp2
  go_ret
  exact ⟨rfl, rfl⟩
theorem RV.pairNew {K : Nat → Prop} {w : World} {x y : TV} {u v : Value} (ks : ∀ k, K k → k < w.heap.size) (rx : RV K w x u) (ry : RV K w y v) : RV (fun k => K k ∨ k = w.heap.size) (w.alloc (.cells #[u, v] 91)) (.pair x y) (.iface 89 (ptr w.heap.size)) := by
  have b : Below w.heap.size w (w.alloc (.cells #[u, v] 91)) := (Below.refl _ _).alloc (Nat.le_refl _) _
  have kk := Kept.of_below (K := K) b ks
  exact ⟨w.heap.size, u, v, rfl, .inr rfl, Blk.new rfl, (rx.kept kk).mono (fun _ h => .inl h), (ry.kept kk).mono (fun _ h => .inl h)⟩
theorem RV.consNew {K : Nat → Prop} {w : World} {x y : TV} {u : Value} {tp : Option Addr} (ks : ∀ k, K k → k < w.heap.size) (rx : RV K w x u) (ry : RV K w y (.iface 69 (.pointer tp))) : RV (fun k => K k ∨ k = w.heap.size) (w.alloc (.cells #[u, .pointer tp] 72)) (.cons x y) (.iface 69 (ptr w.heap.size)) := by
  have b : Below w.heap.size w (w.alloc (.cells #[u, .pointer tp] 72)) := (Below.refl _ _).alloc (Nat.le_refl _) _
  have kk := Kept.of_below (K := K) b ks
  exact ⟨w.heap.size, u, tp, rfl, .inr rfl, Blk.new rfl, (rx.kept kk).mono (fun _ h => .inl h), (ry.kept kk).mono (fun _ h => .inl h)⟩
set_option maxRecDepth 100000 in
set_option maxHeartbeats 4000000 in
theorem pair_ok (K : Nat → Prop) (w : World) (p : Nat) (us : List Value) (u v : Value) (x y : TV) (h : StR K w p (us ++ [u, v])) (rx : RV K w x u) (ry : RV K w y v) (hlen : (text (.pair x y)).length ≤ 30) :
    Calls Try.prog 42 #[ptr p] w fun e w' => e = .returned (I 0) ∧ ∃ nv, RV (fun k => K k ∨ k = w.heap.size) w' (.pair x y) nv ∧ StR (fun k => K k ∨ k = w.heap.size) w' p (us ++ [nv]) ∧ Kept K w w' := by
  obtain ⟨tu, vu, rfl⟩ := rx.iface
  obtain ⟨tv, vv, rfl⟩ := ry.iface
  obtain ⟨a, cap, c0, lp⟩ := count_lt K w p _ h
  rw [List.length_append] at c0
  have h5 := h.le
  rw [List.length_append] at h5
  simp only [List.length_cons, List.length_nil] at c0 h5
  have i1 : ¬ ((us.length + (0 + 1 + 1) : Nat) : Int) < 2 := by omega
  have BN : ∀ c, Below w.heap.size w (w.alloc (.cells c 91)) := fun c => (Below.refl _ _).alloc (Nat.le_refl _) _
  have p1 : ∀ c, Calls Try.prog 54 #[ptr p, I 1] (w.alloc (.cells c 91)) fun e w' => e = .returned (.iface tu vu) ∧ w' = w.alloc (.cells c 91) := by
    intro c
    have := peek_some K _ p _ (h.later (BN c)) 1 (by simp)
    rw [getD_last2] at this
    exact this
  have p0 : ∀ c, Calls Try.prog 54 #[ptr p, I 0] (w.alloc (.cells c 91)) fun e w' => e = .returned (.iface tv vv) ∧ w' = w.alloc (.cells c 91) := by
    intro c
    have := peek_some K _ p _ (h.later (BN c)) 0 (by simp)
    rw [getD_last1] at this
    exact this
  have hN := RV.pairNew h.ks rx ry
  have hS := h.grow (BN #[.iface tu vu, .iface tv vv]) (Nat.le_refl _) (by simp)
  have hF := fits_any (.pair x y) _ _ _ hN hS.ks (by omega)
  have ksw := h.ks
  rw [decide_eq_true hlen] at hF
  clear hlen
  go_enter Try.func42, Try.ntmps42
  go_wp2_with fail
  refine (p1 _).mono ?_
  rintro e w1 ⟨rfl, rfl⟩
  go_wp2_with fail
  refine (p0 _).mono ?_
  rintro e w1 ⟨rfl, rfl⟩
  go_wp2_with fail
  refine hF.mono ?_
  rintro e w2 ⟨rfl, b2⟩
  have S2 := hS.later b2
  have kk := Kept.of_below b2 hS.ks
  have N2 := hN.kept kk
  have kw := (Kept.of_below (K := K) (BN #[.iface tu vu, .iface tv vv]) ksw).trans (kk.weak (fun _ h => .inl h))
  go_wp2_with fail
  refine (swap_any _ w2 p _ S2 us.length 2 (by simp) (by omega) _ _).mono ?_
  rintro e w3 ⟨rfl, s3, k3⟩
  rw [take_but2] at s3
  go_wp2
  go_ret
  exact ⟨rfl, _, N2.kept k3, s3, kw.trans (k3.weak (fun _ h => .inl h))⟩
set_option maxRecDepth 100000 in
set_option maxHeartbeats 4000000 in
theorem pair_big (K : Nat → Prop) (w : World) (p : Nat) (us : List Value) (u v : Value) (x y : TV) (h : StR K w p (us ++ [u, v])) (rx : RV K w x u) (ry : RV K w y v) (hlen : (text (.pair x y)).length ≤ 1000) (hx : ¬ (text (.pair x y)).length ≤ 30) :
    Calls Try.prog 42 #[ptr p] w fun e w' => e = .returned (I 7) ∧ Below w.heap.size w w' := by
  obtain ⟨tu, vu, rfl⟩ := rx.iface
  obtain ⟨tv, vv, rfl⟩ := ry.iface
  obtain ⟨a, cap, c0, lp⟩ := count_lt K w p _ h
  rw [List.length_append] at c0
  have h5 := h.le
  rw [List.length_append] at h5
  simp only [List.length_cons, List.length_nil] at c0 h5
  have i1 : ¬ ((us.length + (0 + 1 + 1) : Nat) : Int) < 2 := by omega
  have BN : ∀ c, Below w.heap.size w (w.alloc (.cells c 91)) := fun c => (Below.refl _ _).alloc (Nat.le_refl _) _
  have p1 : ∀ c, Calls Try.prog 54 #[ptr p, I 1] (w.alloc (.cells c 91)) fun e w' => e = .returned (.iface tu vu) ∧ w' = w.alloc (.cells c 91) := by
    intro c
    have := peek_some K _ p _ (h.later (BN c)) 1 (by simp)
    rw [getD_last2] at this
    exact this
  have p0 : ∀ c, Calls Try.prog 54 #[ptr p, I 0] (w.alloc (.cells c 91)) fun e w' => e = .returned (.iface tv vv) ∧ w' = w.alloc (.cells c 91) := by
    intro c
    have := peek_some K _ p _ (h.later (BN c)) 0 (by simp)
    rw [getD_last1] at this
    exact this
  have hN := RV.pairNew h.ks rx ry
  have hS := h.grow (BN #[.iface tu vu, .iface tv vv]) (Nat.le_refl _) (by simp)
  have hF := fits_any (.pair x y) _ _ _ hN hS.ks (by omega)
  have ksw := h.ks
  rw [decide_eq_false hx] at hF
  clear hlen hx
  go_enter Try.func42, Try.ntmps42
  go_wp2_with fail
  refine (p1 _).mono ?_
  rintro e w1 ⟨rfl, rfl⟩
  go_wp2_with fail
  refine (p0 _).mono ?_
  rintro e w1 ⟨rfl, rfl⟩
  go_wp2_with fail
  refine hF.mono ?_
  rintro e w2 ⟨rfl, b2⟩
  go_wp2
  go_ret
  exact ⟨rfl, (BN _).trans (b2.mono (by simp))⟩
set_option maxRecDepth 100000 in
set_option maxHeartbeats 4000000 in
theorem cons_ok (K : Nat → Prop) (w : World) (p : Nat) (us : List Value) (tp : Option Addr) (v : Value) (x y : TV) (h : StR K w p (us ++ [.iface 69 (.pointer tp), v])) (rx : RV K w x (.iface 69 (.pointer tp))) (ry : RV K w y v) (hlen : (text (.cons y x)).length ≤ 30) :
    Calls Try.prog 37 #[ptr p] w fun e w' => e = .returned (I 0) ∧ ∃ nv, RV (fun k => K k ∨ k = w.heap.size) w' (.cons y x) nv ∧ StR (fun k => K k ∨ k = w.heap.size) w' p (us ++ [nv]) ∧ Kept K w w' := by
  obtain ⟨tv, vv, rfl⟩ := ry.iface
  obtain ⟨a, cap, c0, lp⟩ := count_lt K w p _ h
  rw [List.length_append] at c0
  have h5 := h.le
  rw [List.length_append] at h5
  simp only [List.length_cons, List.length_nil] at c0 h5
  have hp := peek_some K w p _ h 1 (by simp)
  rw [getD_last2] at hp
  have ta : ∀ w, (Instr.typeAssert (.iface 69 (.pointer tp)) 64 69 true).run Try.prog w = .ok (.tuple #[.pointer tp, .bool true]) w := fun _ => by kernel_rfl
  have BN : ∀ c, Below w.heap.size w (w.alloc (.cells c 72)) := fun c => (Below.refl _ _).alloc (Nat.le_refl _) _
  have p0 : ∀ c, Calls Try.prog 54 #[ptr p, I 0] (w.alloc (.cells c 72)) fun e w' => e = .returned (.iface tv vv) ∧ w' = w.alloc (.cells c 72) := by
    intro c
    have := peek_some K _ p _ (h.later (BN c)) 0 (by simp)
    rw [getD_last1] at this
    exact this
  have hN := RV.consNew h.ks ry rx
  have hS := h.grow (BN #[.iface tv vv, .pointer tp]) (Nat.le_refl _) (by simp)
  have hF := fits_any (.cons y x) _ _ _ hN hS.ks (by omega)
  have ksw := h.ks
  rw [decide_eq_true hlen] at hF
  clear hlen
  go_enter Try.func37, Try.ntmps37
  go_wp2_with fail
  refine hp.mono ?_
  rintro e w1 ⟨rfl, rfl⟩
  go_wp2_with fail
  refine (p0 _).mono ?_
  rintro e w1 ⟨rfl, rfl⟩
  go_wp2_with fail
  refine hF.mono ?_
  rintro e w2 ⟨rfl, b2⟩
  have S2 := hS.later b2
  have kk := Kept.of_below b2 hS.ks
  have N2 := hN.kept kk
  have kw := (Kept.of_below (K := K) (BN #[.iface tv vv, .pointer tp]) ksw).trans (kk.weak (fun _ h => .inl h))
  go_wp2_with fail
  refine (swap_any _ w2 p _ S2 us.length 2 (by simp) (by omega) _ _).mono ?_
  rintro e w3 ⟨rfl, s3, k3⟩
  rw [take_but2] at s3
  go_wp2
  go_ret
  exact ⟨rfl, _, N2.kept k3, s3, kw.trans (k3.weak (fun _ h => .inl h))⟩
set_option maxRecDepth 100000 in
set_option maxHeartbeats 4000000 in
theorem cons_big (K : Nat → Prop) (w : World) (p : Nat) (us : List Value) (tp : Option Addr) (v : Value) (x y : TV) (h : StR K w p (us ++ [.iface 69 (.pointer tp), v])) (rx : RV K w x (.iface 69 (.pointer tp))) (ry : RV K w y v) (hlen : (text (.cons y x)).length ≤ 1000) (hx : ¬ (text (.cons y x)).length ≤ 30) :
    Calls Try.prog 37 #[ptr p] w fun e w' => e = .returned (I 7) ∧ Below w.heap.size w w' := by
  obtain ⟨tv, vv, rfl⟩ := ry.iface
  obtain ⟨a, cap, c0, lp⟩ := count_lt K w p _ h
  rw [List.length_append] at c0
  have h5 := h.le
  rw [List.length_append] at h5
  simp only [List.length_cons, List.length_nil] at c0 h5
  have hp := peek_some K w p _ h 1 (by simp)
  rw [getD_last2] at hp
  have ta : ∀ w, (Instr.typeAssert (.iface 69 (.pointer tp)) 64 69 true).run Try.prog w = .ok (.tuple #[.pointer tp, .bool true]) w := fun _ => by kernel_rfl
  have BN : ∀ c, Below w.heap.size w (w.alloc (.cells c 72)) := fun c => (Below.refl _ _).alloc (Nat.le_refl _) _
  have p0 : ∀ c, Calls Try.prog 54 #[ptr p, I 0] (w.alloc (.cells c 72)) fun e w' => e = .returned (.iface tv vv) ∧ w' = w.alloc (.cells c 72) := by
    intro c
    have := peek_some K _ p _ (h.later (BN c)) 0 (by simp)
    rw [getD_last1] at this
    exact this
  have hN := RV.consNew h.ks ry rx
  have hS := h.grow (BN #[.iface tv vv, .pointer tp]) (Nat.le_refl _) (by simp)
  have hF := fits_any (.cons y x) _ _ _ hN hS.ks (by omega)
  have ksw := h.ks
  rw [decide_eq_false hx] at hF
  clear hlen hx
  go_enter Try.func37, Try.ntmps37
  go_wp2_with fail
  refine hp.mono ?_
  rintro e w1 ⟨rfl, rfl⟩
  go_wp2_with fail
  refine (p0 _).mono ?_
  rintro e w1 ⟨rfl, rfl⟩
  go_wp2_with fail
  refine hF.mono ?_
  rintro e w2 ⟨rfl, b2⟩
  go_wp2
  go_ret
  exact ⟨rfl, (BN _).trans (b2.mono (by simp))⟩
set_option maxRecDepth 100000 in
set_option maxHeartbeats 2000000 in
theorem cons_under (K : Nat → Prop) (w : World) (p : Nat) (vs : List Value) (h : StR K w p vs) (hn : vs.length < 2) :
    Calls Try.prog 37 #[ptr p] w fun e w' => e = .returned (I 4) ∧ w' = w := by
  obtain ⟨a, cap, c0, lp⟩ := count_lt K w p vs h
  have hp := peek_none K w p vs h 1 (by omega) (by omega)
  have i1 : (vs.length : Int) < 2 := by omega
  have ta : ∀ w, (Instr.typeAssert .nilIface 64 69 true).run Try.prog w = .ok (.tuple #[.pointer none, .bool false]) w := fun _ => by kernel_rfl
  go_enter Try.func37, Try.ntmps37
  go_wp2_with fail
  refine hp.mono ?_
  rintro e w1 ⟨rfl, rfl⟩
  go_wp2
  go_ret
  exact ⟨rfl, rfl⟩
set_option maxRecDepth 100000 in
set_option maxHeartbeats 2000000 in
theorem cons_int (K : Nat → Prop) (w : World) (p : Nat) (us : List Value) (n : Int) (v : Value) (h : StR K w p (us ++ [VI n, v])) :
    Calls Try.prog 37 #[ptr p] w fun e w' => e = .returned (I 2) ∧ w' = w := by
  have hp := peek_some K w p _ h 1 (by simp)
  rw [getD_last2] at hp
  obtain ⟨a, cap, c0, lp⟩ := count_lt K w p _ h
  have h5 := h.le
  rw [List.length_append] at c0 h5
  simp only [List.length_cons, List.length_nil] at c0 h5
  have i1 : ¬ ((us.length + (0 + 1 + 1) : Nat) : Int) < 2 := by omega
  have ta : ∀ w, (Instr.typeAssert (VI n) 64 69 true).run Try.prog w = .ok (.tuple #[.pointer none, .bool false]) w := fun _ => by kernel_rfl
  go_enter Try.func37, Try.ntmps37
  go_wp2_with fail
  refine hp.mono ?_
  rintro e w1 ⟨rfl, rfl⟩
  go_wp2
  go_ret
  exact ⟨rfl, rfl⟩
set_option maxRecDepth 100000 in
set_option maxHeartbeats 2000000 in
theorem cons_str (K : Nat → Prop) (w : World) (p : Nat) (us : List Value) (z : List UInt8) (v : Value) (h : StR K w p (us ++ [VS z, v])) :
    Calls Try.prog 37 #[ptr p] w fun e w' => e = .returned (I 2) ∧ w' = w := by
  have hp := peek_some K w p _ h 1 (by simp)
  rw [getD_last2] at hp
  obtain ⟨a, cap, c0, lp⟩ := count_lt K w p _ h
  have h5 := h.le
  rw [List.length_append] at c0 h5
  simp only [List.length_cons, List.length_nil] at c0 h5
  have i1 : ¬ ((us.length + (0 + 1 + 1) : Nat) : Int) < 2 := by omega
  have ta : ∀ w, (Instr.typeAssert (VS z) 64 69 true).run Try.prog w = .ok (.tuple #[.pointer none, .bool false]) w := fun _ => by kernel_rfl
  go_enter Try.func37, Try.ntmps37
  go_wp2_with fail
  refine hp.mono ?_
  rintro e w1 ⟨rfl, rfl⟩
  go_wp2
  go_ret
  exact ⟨rfl, rfl⟩
set_option maxRecDepth 100000 in
set_option maxHeartbeats 2000000 in
theorem cons_pair (K : Nat → Prop) (w : World) (p : Nat) (us : List Value) (tp : Option Addr) (v : Value) (h : StR K w p (us ++ [.iface 89 (.pointer tp), v])) :
    Calls Try.prog 37 #[ptr p] w fun e w' => e = .returned (I 2) ∧ w' = w := by
  have hp := peek_some K w p _ h 1 (by simp)
  rw [getD_last2] at hp
  obtain ⟨a, cap, c0, lp⟩ := count_lt K w p _ h
  have h5 := h.le
  rw [List.length_append] at c0 h5
  simp only [List.length_cons, List.length_nil] at c0 h5
  have i1 : ¬ ((us.length + (0 + 1 + 1) : Nat) : Int) < 2 := by omega
  have ta : ∀ w, (Instr.typeAssert (.iface 89 (.pointer tp)) 64 69 true).run Try.prog w = .ok (.tuple #[.pointer none, .bool false]) w := fun _ => by kernel_rfl
  go_enter Try.func37, Try.ntmps37
  go_wp2_with fail
  refine hp.mono ?_
  rintro e w1 ⟨rfl, rfl⟩
  go_wp2
  go_ret
  exact ⟨rfl, rfl⟩
end Go.Proofs.Qxb6500470a
