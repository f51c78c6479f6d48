import Derived.Test.Qxb6500470aCal10
namespace Go.Proofs.Qxb6500470a
open Go.RowKit

theorem map_last2 (l : List V) (u v : V) : (l ++ [u, v]).map vOf = l.map vOf ++ [vOf u, vOf v] := by simp
theorem ok_last {l : List V} {v : V} (h : ∀ u ∈ l, okV u) (hv : okV v) : ∀ u ∈ l ++ [v], okV u := by
  intro u hu
  rcases List.mem_append.1 hu with e | e
  · exact h u e
  · obtain rfl : u = v := by simpa using e
    exact hv
theorem ok_int (n : Int) : okV (some (.inl (wrap64 n))) := w64_bounds n
set_option maxRecDepth 100000 in
set_option maxHeartbeats 2000000 in
theorem step_a (K : Nat → Prop) (w : World) (m p : Nat) (acc : Int) (l : List V) (x y : Int) (h : Mac K w m p acc (l ++ [some (.inl x), some (.inl y)])) (s : List UInt8) (i : Nat) (hs : s.length ≤ 24) (hc0 : s[i]? = some 97) :
    Calls Try.prog 45 #[ptr m, S s, I i] w fun e w' => e = .returned (.tuple #[I 1, I 0]) ∧ Mac K w' m p acc (l ++ [some (.inl (wrap64 (x + y)))]) ∧ Kept K w w' := by
  have hz := str_size s
  have hz2 : (str s).size ≤ 24 := by omega
  have hj : i < s.length := (List.getElem?_eq_some_iff.1 hc0).1
  have hj2 : (i : Int) < (s.length : Int) := by omega
  have g0 := str_get s i _ hc0
  have d0 := h.at0.1
  have d1 : w.cell? ⟨m, 2, none⟩ = some (Fv 36) := h.low 2 _ rfl
  have hq : ∀ w, (binOp .neq 42 (Fv 36) .nilFunc).run Try.prog w = .ok (.bool true) w := fun _ => by rfl
  have hst := h.st
  rw [map_last2] at hst
  go_enter Try.func45, Try.ntmps45
  go_wp2_with fail
  refine (add_int _ w p _ x y hst).mono ?_
  rintro e w2 ⟨rfl, s2, k2⟩
  obtain ⟨m2, kk⟩ := h.turn (l' := l ++ [some (.inl (wrap64 (x + y)))]) (by rw [map_last]; exact s2) k2 (by exact ok_last (fun u hu => h.ok u (by simp [hu])) (ok_int _))
  go_wp2
  go_ret2
  exact ⟨rfl, m2, kk⟩
set_option maxRecDepth 100000 in
set_option maxHeartbeats 2000000 in
theorem step_n (K : Nat → Prop) (w : World) (m p : Nat) (acc : Int) (l : List V) (x : Int) (h : Mac K w m p acc (l ++ [some (.inl x)])) (s : List UInt8) (i : Nat) (hs : s.length ≤ 24) (hc0 : s[i]? = some 110) :
    Calls Try.prog 45 #[ptr m, S s, I i] w fun e w' => e = .returned (.tuple #[I 1, I 0]) ∧ Mac K w' m p acc (l ++ [some (.inl (wrap64 (-x)))]) ∧ Kept K w w' := by
  have hz := str_size s
  have hz2 : (str s).size ≤ 24 := by omega
  have hj : i < s.length := (List.getElem?_eq_some_iff.1 hc0).1
  have hj2 : (i : Int) < (s.length : Int) := by omega
  have g0 := str_get s i _ hc0
  have d0 := h.at0.1
  have d1 : w.cell? ⟨m, 15, none⟩ = some (Fv 41) := h.low 15 _ rfl
  have hq : ∀ w, (binOp .neq 42 (Fv 41) .nilFunc).run Try.prog w = .ok (.bool true) w := fun _ => by rfl
  have hst := h.st
  rw [map_last] at hst
  go_enter Try.func45, Try.ntmps45
  go_wp2_with fail
  refine (neg_int _ w p _ x hst).mono ?_
  rintro e w2 ⟨rfl, s2, k2⟩
  obtain ⟨m2, kk⟩ := h.turn (l' := l ++ [some (.inl (wrap64 (-x)))]) (by rw [map_last]; exact s2) k2 (by exact ok_last (fun u hu => h.ok u (by simp [hu])) (ok_int _))
  go_wp2
  go_ret2
  exact ⟨rfl, m2, kk⟩
set_option maxRecDepth 100000 in
set_option maxHeartbeats 2000000 in
theorem step_l (K : Nat → Prop) (w : World) (m p : Nat) (acc : Int) (l : List V) (h : Mac K w m p acc (l ++ [none])) (s : List UInt8) (i : Nat) (hs : s.length ≤ 24) (hc0 : s[i]? = some 108) :
    Calls Try.prog 45 #[ptr m, S s, I i] w fun e w' => e = .returned (.tuple #[I 1, I 0]) ∧ Mac K w' m p acc (l ++ [some (.inl 0)]) ∧ Kept K w w' := by
  have hz := str_size s
  have hz2 : (str s).size ≤ 24 := by omega
  have hj : i < s.length := (List.getElem?_eq_some_iff.1 hc0).1
  have hj2 : (i : Int) < (s.length : Int) := by omega
  have g0 := str_get s i _ hc0
  have d0 := h.at0.1
  have d1 : w.cell? ⟨m, 13, none⟩ = some (Fv 40) := h.low 13 _ rfl
  have hq : ∀ w, (binOp .neq 42 (Fv 40) .nilFunc).run Try.prog w = .ok (.bool true) w := fun _ => by rfl
  have hst := h.st
  rw [map_last] at hst
  go_enter Try.func45, Try.ntmps45
  go_wp2_with fail
  refine (len_nil _ w p _ hst).mono ?_
  rintro e w2 ⟨rfl, s2, k2⟩
  obtain ⟨m2, kk⟩ := h.turn (l' := l ++ [some (.inl 0)]) (by rw [map_last]; exact s2) k2 (by exact ok_last (fun u hu => h.ok u (by simp [hu])) (by constructor <;> decide))
  go_wp2
  go_ret2
  exact ⟨rfl, m2, kk⟩
set_option maxRecDepth 100000 in
set_option maxHeartbeats 2000000 in
theorem step_x (K : Nat → Prop) (w : World) (m p : Nat) (acc : Int) (l : List V) (v : V) (h : Mac K w m p acc (l ++ [v])) (s : List UInt8) (i : Nat) (hs : s.length ≤ 24) (hc0 : s[i]? = some 120) :
    Calls Try.prog 45 #[ptr m, S s, I i] w fun e w' => e = .returned (.tuple #[I 1, I 0]) ∧ Mac K w' m p acc l ∧ Kept K w w' := by
  have hz := str_size s
  have hz2 : (str s).size ≤ 24 := by omega
  have hj : i < s.length := (List.getElem?_eq_some_iff.1 hc0).1
  have hj2 : (i : Int) < (s.length : Int) := by omega
  have g0 := str_get s i _ hc0
  have d0 := h.at0.1
  have d1 : w.cell? ⟨m, 25, none⟩ = some (Fv 44) := h.low 25 _ rfl
  have hq : ∀ w, (binOp .neq 42 (Fv 44) .nilFunc).run Try.prog w = .ok (.bool true) w := fun _ => by rfl
  have hst := h.st
  rw [map_last] at hst
  go_enter Try.func45, Try.ntmps45
  go_wp2_with fail
  refine (drop_some _ w p _ _ hst).mono ?_
  rintro e w2 ⟨rfl, s2, k2⟩
  obtain ⟨m2, kk⟩ := h.turn (l' := l) (s2) k2 (by exact fun u hu => h.ok u (by simp [hu]))
  go_wp2
  go_ret2
  exact ⟨rfl, m2, kk⟩
set_option maxRecDepth 100000 in
set_option maxHeartbeats 2000000 in
theorem step_d (K : Nat → Prop) (w : World) (m p : Nat) (acc : Int) (l : List V) (v : V) (h4 : l.length < 4) (h : Mac K w m p acc (l ++ [v])) (s : List UInt8) (i : Nat) (hs : s.length ≤ 24) (hc0 : s[i]? = some 100) :
    Calls Try.prog 45 #[ptr m, S s, I i] w fun e w' => e = .returned (.tuple #[I 1, I 0]) ∧ Mac K w' m p acc (l ++ [v] ++ [v]) ∧ Kept K w w' := by
  have hz := str_size s
  have hz2 : (str s).size ≤ 24 := by omega
  have hj : i < s.length := (List.getElem?_eq_some_iff.1 hc0).1
  have hj2 : (i : Int) < (s.length : Int) := by omega
  have g0 := str_get s i _ hc0
  have d0 := h.at0.1
  have d1 : w.cell? ⟨m, 5, none⟩ = some (Fv 38) := h.low 5 _ rfl
  have hq : ∀ w, (binOp .neq 42 (Fv 38) .nilFunc).run Try.prog w = .ok (.bool true) w := fun _ => by rfl
  have hst := h.st
  rw [map_last] at hst
  obtain ⟨t, x, hv⟩ : ∃ t x, vOf v = .iface t x := by rcases v with _ | n | b <;> exact ⟨_, _, rfl⟩
  rw [hv] at hst
  go_enter Try.func45, Try.ntmps45
  go_wp2_with fail
  refine (dup_any _ w p _ t x hst (by rw [List.length_map]; exact h4)).mono ?_
  rintro e w2 ⟨rfl, s2, k2⟩
  obtain ⟨m2, kk⟩ := h.turn (l' := l ++ [v] ++ [v]) (by rw [map_last, map_last, hv]; simpa using s2) k2 (by exact ok_last h.ok (h.ok v (by simp)))
  go_wp2
  go_ret2
  exact ⟨rfl, m2, kk⟩
set_option maxRecDepth 100000 in
set_option maxHeartbeats 2000000 in
theorem step_x0 (K : Nat → Prop) (w : World) (m p : Nat) (acc : Int) (h : Mac K w m p acc []) (s : List UInt8) (i : Nat) (hs : s.length ≤ 24) (hc0 : s[i]? = some 120) :
    Calls Try.prog 45 #[ptr m, S s, I i] w fun e w' => e = .returned (.tuple #[I 1, I 4]) ∧ w' = w := by
  have hz := str_size s
  have hz2 : (str s).size ≤ 24 := by omega
  have hj : i < s.length := (List.getElem?_eq_some_iff.1 hc0).1
  have hj2 : (i : Int) < (s.length : Int) := by omega
  have g0 := str_get s i _ hc0
  have d0 := h.at0.1
  have d1 : w.cell? ⟨m, 25, none⟩ = some (Fv 44) := h.low 25 _ rfl
  have hq : ∀ w, (binOp .neq 42 (Fv 44) .nilFunc).run Try.prog w = .ok (.bool true) w := fun _ => by rfl
  have hst : StR (fun k => K k ∨ k = m) w p [] := h.st
  go_enter Try.func45, Try.ntmps45
  go_wp2_with fail
  refine (drop_none _ w p hst).mono ?_
  rintro e w2 ⟨rfl, rfl⟩
  go_wp2
  go_ret2
  exact ⟨rfl, rfl⟩
set_option maxRecDepth 100000 in
set_option maxHeartbeats 2000000 in
theorem step_b (K : Nat → Prop) (w : World) (m p : Nat) (acc : Int) (l : List V) (h : Mac K w m p acc (l)) (s : List UInt8) (i : Nat) (hs : s.length ≤ 24) (hc0 : s[i]? = some 98) :
    Calls Try.prog 45 #[ptr m, S s, I i] w fun e w' => e = .returned (.tuple #[I 1, I 9]) ∧ w' = w := by
  have hz := str_size s
  have hz2 : (str s).size ≤ 24 := by omega
  have hj : i < s.length := (List.getElem?_eq_some_iff.1 hc0).1
  have hj2 : (i : Int) < (s.length : Int) := by omega
  have g0 := str_get s i _ hc0
  have d0 := h.at0.1
  have d1 : w.cell? ⟨m, 3, none⟩ = some .nilFunc := h.low 3 _ rfl
  have hq : ∀ w, (binOp .neq 42 .nilFunc .nilFunc).run Try.prog w = .ok (.bool false) w := fun _ => by rfl
  go_enter Try.func45, Try.ntmps45
  go_wp2
  go_ret2
  exact ⟨rfl, rfl⟩
set_option maxRecDepth 100000 in
set_option maxHeartbeats 2000000 in
theorem step_z (K : Nat → Prop) (w : World) (m p : Nat) (acc : Int) (l : List V) (h : Mac K w m p acc (l)) (s : List UInt8) (i : Nat) (hs : s.length ≤ 24) (hc0 : s[i]? = some 122) :
    Calls Try.prog 45 #[ptr m, S s, I i] w fun e w' => e = .returned (.tuple #[I 1, I 9]) ∧ w' = w := by
  have hz := str_size s
  have hz2 : (str s).size ≤ 24 := by omega
  have hj : i < s.length := (List.getElem?_eq_some_iff.1 hc0).1
  have hj2 : (i : Int) < (s.length : Int) := by omega
  have g0 := str_get s i _ hc0
  have d0 := h.at0.1
  have d1 : w.cell? ⟨m, 27, none⟩ = some .nilFunc := h.low 27 _ rfl
  have hq : ∀ w, (binOp .neq 42 .nilFunc .nilFunc).run Try.prog w = .ok (.bool false) w := fun _ => by rfl
  go_enter Try.func45, Try.ntmps45
  go_wp2
  go_ret2
  exact ⟨rfl, rfl⟩
set_option maxRecDepth 100000 in
set_option maxHeartbeats 2000000 in
theorem step_c96 (w : World) (m : Nat) (s : List UInt8) (i : Nat) (hs : s.length ≤ 24) (hc0 : s[i]? = some 96) :
    Calls Try.prog 45 #[ptr m, S s, I i] w fun e w' => e = .returned (.tuple #[I 1, I 9]) ∧ w' = w := by
  have hz := str_size s
  have hz2 : (str s).size ≤ 24 := by omega
  have hj : i < s.length := (List.getElem?_eq_some_iff.1 hc0).1
  have hj2 : (i : Int) < (s.length : Int) := by omega
  have g0 := str_get s i _ hc0
  have hq : ∀ w, (binOp .neq 42 .nilFunc .nilFunc).run Try.prog w = .ok (.bool false) w := fun _ => by rfl
  go_enter Try.func45, Try.ntmps45
  go_wp2
  go_ret2
  exact ⟨rfl, rfl⟩
set_option maxRecDepth 100000 in
set_option maxHeartbeats 2000000 in
theorem step_c123 (w : World) (m : Nat) (s : List UInt8) (i : Nat) (hs : s.length ≤ 24) (hc0 : s[i]? = some 123) :
    Calls Try.prog 45 #[ptr m, S s, I i] w fun e w' => e = .returned (.tuple #[I 1, I 9]) ∧ w' = w := by
  have hz := str_size s
  have hz2 : (str s).size ≤ 24 := by omega
  have hj : i < s.length := (List.getElem?_eq_some_iff.1 hc0).1
  have hj2 : (i : Int) < (s.length : Int) := by omega
  have g0 := str_get s i _ hc0
  have hq : ∀ w, (binOp .neq 42 .nilFunc .nilFunc).run Try.prog w = .ok (.bool false) w := fun _ => by rfl
  go_enter Try.func45, Try.ntmps45
  go_wp2
  go_ret2
  exact ⟨rfl, rfl⟩
set_option maxRecDepth 100000 in
set_option maxHeartbeats 2000000 in
theorem step_c64 (w : World) (m : Nat) (s : List UInt8) (i : Nat) (hs : s.length ≤ 24) (hc0 : s[i]? = some 64) :
    Calls Try.prog 45 #[ptr m, S s, I i] w fun e w' => e = .returned (.tuple #[I 1, I 9]) ∧ w' = w := by
  have hz := str_size s
  have hz2 : (str s).size ≤ 24 := by omega
  have hj : i < s.length := (List.getElem?_eq_some_iff.1 hc0).1
  have hj2 : (i : Int) < (s.length : Int) := by omega
  have g0 := str_get s i _ hc0
  have hq : ∀ w, (binOp .neq 42 .nilFunc .nilFunc).run Try.prog w = .ok (.bool false) w := fun _ => by rfl
  go_enter Try.func45, Try.ntmps45
  go_wp2
  go_ret2
  exact ⟨rfl, rfl⟩
set_option maxRecDepth 100000 in
set_option maxHeartbeats 2000000 in
theorem step_c63 (w : World) (m : Nat) (s : List UInt8) (i : Nat) (hs : s.length ≤ 24) (hc0 : s[i]? = some 63) :
    Calls Try.prog 45 #[ptr m, S s, I i] w fun e w' => e = .returned (.tuple #[I 1, I 9]) ∧ w' = w := by
  have hz := str_size s
  have hz2 : (str s).size ≤ 24 := by omega
  have hj : i < s.length := (List.getElem?_eq_some_iff.1 hc0).1
  have hj2 : (i : Int) < (s.length : Int) := by omega
  have g0 := str_get s i _ hc0
  have hq : ∀ w, (binOp .neq 42 .nilFunc .nilFunc).run Try.prog w = .ok (.bool false) w := fun _ => by rfl
  go_enter Try.func45, Try.ntmps45
  go_wp2
  go_ret2
  exact ⟨rfl, rfl⟩
set_option maxRecDepth 100000 in
set_option maxHeartbeats 2000000 in
theorem step_c126 (w : World) (m : Nat) (s : List UInt8) (i : Nat) (hs : s.length ≤ 24) (hc0 : s[i]? = some 126) :
    Calls Try.prog 45 #[ptr m, S s, I i] w fun e w' => e = .returned (.tuple #[I 1, I 9]) ∧ w' = w := by
  have hz := str_size s
  have hz2 : (str s).size ≤ 24 := by omega
  have hj : i < s.length := (List.getElem?_eq_some_iff.1 hc0).1
  have hj2 : (i : Int) < (s.length : Int) := by omega
  have g0 := str_get s i _ hc0
  have hq : ∀ w, (binOp .neq 42 .nilFunc .nilFunc).run Try.prog w = .ok (.bool false) w := fun _ => by rfl
  go_enter Try.func45, Try.ntmps45
  go_wp2
  go_ret2
  exact ⟨rfl, rfl⟩
set_option maxRecDepth 100000 in
set_option maxHeartbeats 2000000 in
theorem step_c58 (w : World) (m : Nat) (s : List UInt8) (i : Nat) (hs : s.length ≤ 24) (hc0 : s[i]? = some 58) :
    Calls Try.prog 45 #[ptr m, S s, I i] w fun e w' => e = .returned (.tuple #[I 1, I 9]) ∧ w' = w := by
  have hz := str_size s
  have hz2 : (str s).size ≤ 24 := by omega
  have hj : i < s.length := (List.getElem?_eq_some_iff.1 hc0).1
  have hj2 : (i : Int) < (s.length : Int) := by omega
  have g0 := str_get s i _ hc0
  have hq : ∀ w, (binOp .neq 42 .nilFunc .nilFunc).run Try.prog w = .ok (.bool false) w := fun _ => by rfl
  go_enter Try.func45, Try.ntmps45
  go_wp2
  go_ret2
  exact ⟨rfl, rfl⟩
set_option maxRecDepth 100000 in
set_option maxHeartbeats 2000000 in
theorem step_c47 (w : World) (m : Nat) (s : List UInt8) (i : Nat) (hs : s.length ≤ 24) (hc0 : s[i]? = some 47) :
    Calls Try.prog 45 #[ptr m, S s, I i] w fun e w' => e = .returned (.tuple #[I 1, I 9]) ∧ w' = w := by
  have hz := str_size s
  have hz2 : (str s).size ≤ 24 := by omega
  have hj : i < s.length := (List.getElem?_eq_some_iff.1 hc0).1
  have hj2 : (i : Int) < (s.length : Int) := by omega
  have g0 := str_get s i _ hc0
  have hq : ∀ w, (binOp .neq 42 .nilFunc .nilFunc).run Try.prog w = .ok (.bool false) w := fun _ => by rfl
  go_enter Try.func45, Try.ntmps45
  go_wp2
  go_ret2
  exact ⟨rfl, rfl⟩
set_option maxRecDepth 100000 in
set_option maxHeartbeats 2000000 in
theorem step_A (w : World) (m : Nat) (s : List UInt8) (i : Nat) (hs : s.length ≤ 24) (hc0 : s[i]? = some 65) :
    Calls Try.prog 45 #[ptr m, S s, I i] w fun e w' => e = .returned (.tuple #[I 1, I 9]) ∧ w' = w := by
  have hz := str_size s
  have hz2 : (str s).size ≤ 24 := by omega
  have hj : i < s.length := (List.getElem?_eq_some_iff.1 hc0).1
  have hj2 : (i : Int) < (s.length : Int) := by omega
  have g0 := str_get s i _ hc0
  have hq : ∀ w, (binOp .neq 42 .nilFunc .nilFunc).run Try.prog w = .ok (.bool false) w := fun _ => by rfl
  have hr : ∀ w, (binOp .eql 92 .nilFunc .nilFunc).run Try.prog w = .ok (.bool true) w := fun _ => by rfl
  go_enter Try.func45, Try.ntmps45
  go_wp2_with fail
  refine (own_A w).mono ?_
  rintro e w2 ⟨rfl, rfl⟩
  go_wp2
  go_ret2
  exact ⟨rfl, rfl⟩
set_option maxRecDepth 100000 in
set_option maxHeartbeats 2000000 in
theorem step_Z (w : World) (m : Nat) (s : List UInt8) (i : Nat) (hs : s.length ≤ 24) (hc0 : s[i]? = some 90) :
    Calls Try.prog 45 #[ptr m, S s, I i] w fun e w' => e = .returned (.tuple #[I 1, I 9]) ∧ w' = w := by
  have hz := str_size s
  have hz2 : (str s).size ≤ 24 := by omega
  have hj : i < s.length := (List.getElem?_eq_some_iff.1 hc0).1
  have hj2 : (i : Int) < (s.length : Int) := by omega
  have g0 := str_get s i _ hc0
  have hq : ∀ w, (binOp .neq 42 .nilFunc .nilFunc).run Try.prog w = .ok (.bool false) w := fun _ => by rfl
  have hr : ∀ w, (binOp .eql 92 .nilFunc .nilFunc).run Try.prog w = .ok (.bool true) w := fun _ => by rfl
  go_enter Try.func45, Try.ntmps45
  go_wp2_with fail
  refine (own_Z w).mono ?_
  rintro e w2 ⟨rfl, rfl⟩
  go_wp2
  go_ret2
  exact ⟨rfl, rfl⟩
set_option maxRecDepth 100000 in
set_option maxHeartbeats 2000000 in
theorem step_S (K : Nat → Prop) (w : World) (m p : Nat) (acc : Int) (l : List V) (x : Int) (h : Mac K w m p acc (l ++ [some (.inl x)])) (s : List UInt8) (i : Nat) (hs : s.length ≤ 24) (hc0 : s[i]? = some 83) :
    Calls Try.prog 45 #[ptr m, S s, I i] w fun e w' => e = .returned (.tuple #[I 1, I 0]) ∧ Mac K w' m p x l ∧ Kept K w w' := by
  have hz := str_size s
  have hz2 : (str s).size ≤ 24 := by omega
  have hj : i < s.length := (List.getElem?_eq_some_iff.1 hc0).1
  have hj2 : (i : Int) < (s.length : Int) := by omega
  have g0 := str_get s i _ hc0
  have hq : ∀ w, (binOp .neq 42 .nilFunc .nilFunc).run Try.prog w = .ok (.bool false) w := fun _ => by rfl
  have hr : ∀ w, (binOp .eql 92 (Fv 72) .nilFunc).run Try.prog w = .ok (.bool false) w := fun _ => by rfl
  go_enter Try.func45, Try.ntmps45
  go_wp2_with fail
  refine (own_S w).mono ?_
  rintro e w2 ⟨rfl, rfl⟩
  go_wp2_with fail
  refine (set_any K w2 m p acc x l h).mono ?_
  rintro e w3 ⟨rfl, m2, kk⟩
  go_wp2
  go_ret2
  exact ⟨rfl, m2, kk⟩
set_option maxRecDepth 100000 in
set_option maxHeartbeats 2000000 in
theorem step_G (K : Nat → Prop) (w : World) (m p : Nat) (acc : Int) (l : List V) (h5 : l.length < 5) (h : Mac K w m p acc (l)) (s : List UInt8) (i : Nat) (hs : s.length ≤ 24) (hc0 : s[i]? = some 71) :
    Calls Try.prog 45 #[ptr m, S s, I i] w fun e w' => e = .returned (.tuple #[I 1, I 0]) ∧ Mac K w' m p acc (l ++ [some (.inl acc)]) ∧ Kept K w w' := by
  have hz := str_size s
  have hz2 : (str s).size ≤ 24 := by omega
  have hj : i < s.length := (List.getElem?_eq_some_iff.1 hc0).1
  have hj2 : (i : Int) < (s.length : Int) := by omega
  have g0 := str_get s i _ hc0
  have hq : ∀ w, (binOp .neq 42 .nilFunc .nilFunc).run Try.prog w = .ok (.bool false) w := fun _ => by rfl
  have hr : ∀ w, (binOp .eql 92 (Fv 73) .nilFunc).run Try.prog w = .ok (.bool false) w := fun _ => by rfl
  go_enter Try.func45, Try.ntmps45
  go_wp2_with fail
  refine (own_G w).mono ?_
  rintro e w2 ⟨rfl, rfl⟩
  go_wp2_with fail
  refine (get_any K w2 m p acc l h h5).mono ?_
  rintro e w3 ⟨rfl, m2, kk⟩
  go_wp2
  go_ret2
  exact ⟨rfl, m2, kk⟩
set_option maxRecDepth 100000 in
set_option maxHeartbeats 2000000 in
theorem step_D (K : Nat → Prop) (w : World) (m p : Nat) (acc : Int) (l : List V) (x : Int) (hx : x ≠ 0) (h : Mac K w m p acc (l ++ [some (.inl x)])) (s : List UInt8) (i : Nat) (hs : s.length ≤ 24) (hc0 : s[i]? = some 68) :
    Calls Try.prog 45 #[ptr m, S s, I i] w fun e w' => e = .returned (.tuple #[I 1, I 0]) ∧ Mac K w' m p (wrap64 (acc.tdiv x)) l ∧ Kept K w w' := by
  have hz := str_size s
  have hz2 : (str s).size ≤ 24 := by omega
  have hj : i < s.length := (List.getElem?_eq_some_iff.1 hc0).1
  have hj2 : (i : Int) < (s.length : Int) := by omega
  have g0 := str_get s i _ hc0
  have hq : ∀ w, (binOp .neq 42 .nilFunc .nilFunc).run Try.prog w = .ok (.bool false) w := fun _ => by rfl
  have hr : ∀ w, (binOp .eql 92 (Fv 74) .nilFunc).run Try.prog w = .ok (.bool false) w := fun _ => by rfl
  go_enter Try.func45, Try.ntmps45
  go_wp2_with fail
  refine (own_D w).mono ?_
  rintro e w2 ⟨rfl, rfl⟩
  go_wp2_with fail
  refine (div_any K w2 m p acc x l h hx).mono ?_
  rintro e w3 ⟨rfl, m2, kk⟩
  go_wp2
  go_ret2
  exact ⟨rfl, m2, kk⟩
set_option maxRecDepth 100000 in
set_option maxHeartbeats 2000000 in
theorem step_M (K : Nat → Prop) (w : World) (m p : Nat) (acc : Int) (l : List V) (x : Int) (hx : x ≠ 0) (h : Mac K w m p acc (l ++ [some (.inl x)])) (s : List UInt8) (i : Nat) (hs : s.length ≤ 24) (hc0 : s[i]? = some 77) :
    Calls Try.prog 45 #[ptr m, S s, I i] w fun e w' => e = .returned (.tuple #[I 1, I 0]) ∧ Mac K w' m p (acc.tmod x) l ∧ Kept K w w' := by
  have hz := str_size s
  have hz2 : (str s).size ≤ 24 := by omega
  have hj : i < s.length := (List.getElem?_eq_some_iff.1 hc0).1
  have hj2 : (i : Int) < (s.length : Int) := by omega
  have g0 := str_get s i _ hc0
  have hq : ∀ w, (binOp .neq 42 .nilFunc .nilFunc).run Try.prog w = .ok (.bool false) w := fun _ => by rfl
  have hr : ∀ w, (binOp .eql 92 (Fv 75) .nilFunc).run Try.prog w = .ok (.bool false) w := fun _ => by rfl
  go_enter Try.func45, Try.ntmps45
  go_wp2_with fail
  refine (own_M w).mono ?_
  rintro e w2 ⟨rfl, rfl⟩
  go_wp2_with fail
  refine (mod_any K w2 m p acc x l h hx).mono ?_
  rintro e w3 ⟨rfl, m2, kk⟩
  go_wp2
  go_ret2
  exact ⟨rfl, m2, kk⟩
set_option maxRecDepth 100000 in
set_option maxHeartbeats 2000000 in
theorem step_D0 (K : Nat → Prop) (w : World) (m p : Nat) (acc : Int) (l : List V) (h : Mac K w m p acc (l ++ [some (.inl 0)])) (s : List UInt8) (i : Nat) (hs : s.length ≤ 24) (hc0 : s[i]? = some 68) :
    Calls Try.prog 45 #[ptr m, S s, I i] w fun e w' => e = .returned (.tuple #[I 1, I 10]) ∧ w' = w := by
  have hz := str_size s
  have hz2 : (str s).size ≤ 24 := by omega
  have hj : i < s.length := (List.getElem?_eq_some_iff.1 hc0).1
  have hj2 : (i : Int) < (s.length : Int) := by omega
  have g0 := str_get s i _ hc0
  have hq : ∀ w, (binOp .neq 42 .nilFunc .nilFunc).run Try.prog w = .ok (.bool false) w := fun _ => by rfl
  have hr : ∀ w, (binOp .eql 92 (Fv 74) .nilFunc).run Try.prog w = .ok (.bool false) w := fun _ => by rfl
  go_enter Try.func45, Try.ntmps45
  go_wp2_with fail
  refine (own_D w).mono ?_
  rintro e w2 ⟨rfl, rfl⟩
  go_wp2_with fail
  refine (div_zero K w2 m p acc l h).mono ?_
  rintro e w3 ⟨rfl, rfl⟩
  go_wp2
  go_ret2
  exact ⟨rfl, rfl⟩
set_option maxRecDepth 100000 in
set_option maxHeartbeats 2000000 in
theorem step_M0 (K : Nat → Prop) (w : World) (m p : Nat) (acc : Int) (l : List V) (h : Mac K w m p acc (l ++ [some (.inl 0)])) (s : List UInt8) (i : Nat) (hs : s.length ≤ 24) (hc0 : s[i]? = some 77) :
    Calls Try.prog 45 #[ptr m, S s, I i] w fun e w' => e = .returned (.tuple #[I 1, I 10]) ∧ w' = w := by
  have hz := str_size s
  have hz2 : (str s).size ≤ 24 := by omega
  have hj : i < s.length := (List.getElem?_eq_some_iff.1 hc0).1
  have hj2 : (i : Int) < (s.length : Int) := by omega
  have g0 := str_get s i _ hc0
  have hq : ∀ w, (binOp .neq 42 .nilFunc .nilFunc).run Try.prog w = .ok (.bool false) w := fun _ => by rfl
  have hr : ∀ w, (binOp .eql 92 (Fv 75) .nilFunc).run Try.prog w = .ok (.bool false) w := fun _ => by rfl
  go_enter Try.func45, Try.ntmps45
  go_wp2_with fail
  refine (own_M w).mono ?_
  rintro e w2 ⟨rfl, rfl⟩
  go_wp2_with fail
  refine (mod_zero K w2 m p acc l h).mono ?_
  rintro e w3 ⟨rfl, rfl⟩
  go_wp2
  go_ret2
  exact ⟨rfl, rfl⟩
set_option maxRecDepth 100000 in
set_option maxHeartbeats 2000000 in
theorem step_nil (K : Nat → Prop) (w : World) (m p : Nat) (acc : Int) (l : List V) (h5 : l.length < 5) (h : Mac K w m p acc (l)) (s : List UInt8) (i : Nat) (hs : s.length ≤ 24) (hc0 : s[i]? = some 91) :
    Calls Try.prog 45 #[ptr m, S s, I i] w fun e w' => e = .returned (.tuple #[I 1, I 0]) ∧ Mac K w' m p acc (l ++ [none]) ∧ Kept K w w' := by
  have hz := str_size s
  have hz2 : (str s).size ≤ 24 := by omega
  have hj : i < s.length := (List.getElem?_eq_some_iff.1 hc0).1
  have hj2 : (i : Int) < (s.length : Int) := by omega
  have g0 := str_get s i _ hc0
  have hq : ∀ w, (binOp .neq 42 .nilFunc .nilFunc).run Try.prog w = .ok (.bool false) w := fun _ => by rfl
  have d0 := h.at0.1
  go_enter Try.func45, Try.ntmps45
  go_wp2_with fail
  refine (pushL _ w p _ h.st (by rw [List.length_map]; exact h5)).mono ?_
  rintro e w2 ⟨rfl, s2, k2⟩
  obtain ⟨m2, kk⟩ := h.turn (l' := l ++ [none]) (by rw [map_last]; exact s2) k2 (ok_last h.ok trivial)
  go_wp2
  go_ret2
  exact ⟨rfl, m2, kk⟩
set_option maxRecDepth 100000 in
set_option maxHeartbeats 2000000 in
theorem step_num (w : World) (m : Nat) (s : List UInt8) (i : Nat) (hs : s.length ≤ 24) (hc0 : s[i]? = some 35) (a b : Int) (R : World → Prop)
    (hn : Calls Try.prog 63 #[ptr m, S s, I i] w fun e w' => e = .returned (.tuple #[I a, I b]) ∧ R w') :
    Calls Try.prog 45 #[ptr m, S s, I i] w fun e w' => e = .returned (.tuple #[I a, I b]) ∧ R w' := by
  have hz := str_size s
  have hz2 : (str s).size ≤ 24 := by omega
  have hj : i < s.length := (List.getElem?_eq_some_iff.1 hc0).1
  have hj2 : (i : Int) < (s.length : Int) := by omega
  have g0 := str_get s i _ hc0
  have hq : ∀ w, (binOp .neq 42 .nilFunc .nilFunc).run Try.prog w = .ok (.bool false) w := fun _ => by rfl
  go_enter Try.func45, Try.ntmps45
  go_wp2_with fail
  refine hn.mono ?_
  rintro e w2 ⟨rfl, hR⟩
  go_wp2
  go_ret2
  exact ⟨rfl, hR⟩
set_option maxRecDepth 100000 in
set_option maxHeartbeats 2000000 in
theorem step_let (w : World) (m : Nat) (s : List UInt8) (i : Nat) (hs : s.length ≤ 24) (hc0 : s[i]? = some 39) (a b : Int) (R : World → Prop)
    (hn : Calls Try.prog 64 #[ptr m, S s, I i] w fun e w' => e = .returned (.tuple #[I a, I b]) ∧ R w') :
    Calls Try.prog 45 #[ptr m, S s, I i] w fun e w' => e = .returned (.tuple #[I a, I b]) ∧ R w' := by
  have hz := str_size s
  have hz2 : (str s).size ≤ 24 := by omega
  have hj : i < s.length := (List.getElem?_eq_some_iff.1 hc0).1
  have hj2 : (i : Int) < (s.length : Int) := by omega
  have g0 := str_get s i _ hc0
  have hq : ∀ w, (binOp .neq 42 .nilFunc .nilFunc).run Try.prog w = .ok (.bool false) w := fun _ => by rfl
  go_enter Try.func45, Try.ntmps45
  go_wp2_with fail
  refine hn.mono ?_
  rintro e w2 ⟨rfl, hR⟩
  go_wp2
  go_ret2
  exact ⟨rfl, hR⟩
def stLen (w : World) (p : Nat) : Nat := match w.cell? ⟨p, 0, none⟩ with
  | some (.slice _ n _) => n
  | _ => 0
theorem Mac.len {K : Nat → Prop} {w : World} {m p : Nat} {acc : Int} {l : List V} (h : Mac K w m p acc l) : stLen w p = l.length := by
  obtain ⟨a, cap, hA⟩ := h.st
  unfold stLen
  rw [hA.at0.1]
  exact List.length_map _
set_option maxRecDepth 100000 in
set_option maxHeartbeats 2000000 in
theorem step_semi (K : Nat → Prop) (w : World) (m p : Nat) (acc : Int) (l : List V) (h : Mac K w m p acc (l)) (s : List UInt8) (i : Nat) (hs : s.length ≤ 24) (hc0 : s[i]? = some 59) :
    Calls Try.prog 45 #[ptr m, S s, I i] w fun e w' => e = .returned (.tuple #[I 1, I 0]) ∧ Mac K w' m p acc [] ∧ Kept K w w' := by
  have hz := str_size s
  have hz2 : (str s).size ≤ 24 := by omega
  have hj : i < s.length := (List.getElem?_eq_some_iff.1 hc0).1
  have hj2 : (i : Int) < (s.length : Int) := by omega
  have g0 := str_get s i _ hc0
  have hq : ∀ w, (binOp .neq 42 .nilFunc .nilFunc).run Try.prog w = .ok (.bool false) w := fun _ => by rfl
  have d0 := h.at0.1
  go_enter Try.func45, Try.ntmps45
  go_wp2
  go_loopw [] (fun wr => ∃ l' : List V, Mac K wr m p acc l' ∧ Kept K w wr) (fun wr => stLen wr p)
  case atStart => exact ⟨l, h, Kept.refl K w⟩
  case round =>
    clear d0
    obtain ⟨l', mr, kr⟩ := hrel
    have d0 := mr.at0.1
    rcases List.eq_nil_or_concat l' with rfl | ⟨l2, v, e⟩
    · go_wp2_with fail
      refine (depth_any _ wr p _ mr.st).mono ?_
      rintro e w2 ⟨rfl, rfl⟩
      go_wp2
      go_ret2
      exact ⟨rfl, mr, kr⟩
    · rw [List.concat_eq_append] at e
      subst e
      have hst := mr.st
      rw [map_last] at hst
      go_wp2_with fail
      refine (depth_any _ wr p _ hst).mono ?_
      rintro e w2 ⟨rfl, rfl⟩
      have hpos : (0 : Int) < ((l2.map vOf ++ [vOf v]).length : Int) := by simp
      go_wp2_with fail
      refine (drop_some _ w2 p _ _ hst).mono ?_
      rintro e w3 ⟨rfl, s3, k3⟩
      obtain ⟨m3, kk⟩ := mr.turn s3 k3 (fun u hu => mr.ok u (by simp [hu]))
      go_wp2
      go_roundw
      case rel => exact ⟨l2, m3, kr.trans kk⟩
      case measure => rw [m3.len, mr.len]; simp
set_option maxRecDepth 100000 in
set_option maxHeartbeats 2000000 in
theorem step_bang (K : Nat → Prop) (w : World) (m p : Nat) (acc : Int) (l : List V) (h : Mac K w m p acc (l)) (s : List UInt8) (i : Nat) (hs : s.length ≤ 24) (hc0 : s[i]? = some 33) :
    Calls Try.prog 45 #[ptr m, S s, I i] w fun e w' => e = .returned (.tuple #[I 1, I 0]) ∧ Mac K w' m p 0 [] ∧ Kept K w w' := by
  have hz := str_size s
  have hz2 : (str s).size ≤ 24 := by omega
  have hj : i < s.length := (List.getElem?_eq_some_iff.1 hc0).1
  have hj2 : (i : Int) < (s.length : Int) := by omega
  have g0 := str_get s i _ hc0
  have hq : ∀ w, (binOp .neq 42 .nilFunc .nilFunc).run Try.prog w = .ok (.bool false) w := fun _ => by rfl
  obtain ⟨d0, d1, d2, d3⟩ := h.at0
  have hz0 := h.acc (acc' := 0) (by decide) (by decide)
  go_enter Try.func45, Try.ntmps45
  go_wp2
  go_loopw [] (fun wr => ∃ l' : List V, Mac K wr m p 0 l' ∧ Kept K w wr) (fun wr => stLen wr p)
  case atStart => exact ⟨l, hz0⟩
  case round =>
    clear d0 d1 d2
    obtain ⟨l', mr, kr⟩ := hrel
    have d0 := mr.at0.1
    rcases List.eq_nil_or_concat l' with rfl | ⟨l2, v, e⟩
    · go_wp2_with fail
      refine (depth_any _ wr p _ mr.st).mono ?_
      rintro e w2 ⟨rfl, rfl⟩
      go_wp2
      go_ret2
      exact ⟨rfl, mr, kr⟩
    · rw [List.concat_eq_append] at e
      subst e
      have hst := mr.st
      rw [map_last] at hst
      go_wp2_with fail
      refine (depth_any _ wr p _ hst).mono ?_
      rintro e w2 ⟨rfl, rfl⟩
      have hpos : (0 : Int) < ((l2.map vOf ++ [vOf v]).length : Int) := by simp
      go_wp2_with fail
      refine (drop_some _ w2 p _ _ hst).mono ?_
      rintro e w3 ⟨rfl, s3, k3⟩
      obtain ⟨m3, kk⟩ := mr.turn s3 k3 (fun u hu => mr.ok u (by simp [hu]))
      go_wp2
      go_roundw
      case rel => exact ⟨l2, m3, kr.trans kk⟩
      case measure => rw [m3.len, mr.len]; simp
end Go.Proofs.Qxb6500470a
