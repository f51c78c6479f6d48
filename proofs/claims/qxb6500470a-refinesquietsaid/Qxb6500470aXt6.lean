import Derived.Test.Qxb6500470aXt5
namespace Go.Proofs.Qxb6500470a
open Go.RowKit
/-- The whole stack once more, under itself. -/
def echoT (st : List TV) : Except Int (List TV) := if 5 < 2 * st.length then .error 3 else .ok (st ++ st.reverse)
theorem RS.append {K : Nat → Prop} {w : World} : ∀ {xs : List TV} {vs : List Value} {ys : List TV} {us : List Value}, RS K w xs vs → RS K w ys us → RS K w (xs ++ ys) (vs ++ us)
  | [], [], _, _, _, h => h
  | _ :: _, _ :: _, _, _, h, h2 => ⟨h.1, RS.append h.2 h2⟩
  | [], _ :: _, _, _, h, _ => h.elim
  | _ :: _, [], _, _, h, _ => h.elim
theorem RS.reverse {K : Nat → Prop} {w : World} : ∀ {xs : List TV} {vs : List Value}, RS K w xs vs → RS K w xs.reverse vs.reverse
  | [], [], _ => trivial
  | x :: xs, v :: vs, h => by
    rw [List.reverse_cons, List.reverse_cons]
    exact RS.append (RS.reverse h.2) ⟨h.1, trivial⟩
  | [], _ :: _, h => h.elim
  | _ :: _, [], h => h.elim
theorem RS.one {K : Nat → Prop} {w : World} : ∀ {xs : List TV} {vs : List Value}, RS K w xs vs → ∀ u ∈ vs, ∃ t v, u = .iface t v
  | [], [], _, u, hu => by cases hu
  | _ :: _, _ :: _, h, u, hu => by
    rcases List.mem_cons.1 hu with rfl | hu
    · exact h.1.iface
    · exact RS.one h.2 u hu
  | [], _ :: _, h, _, _ => h.elim
  | _ :: _, [], h, _, _ => h.elim
set_option maxHeartbeats 1000000 in
theorem echo_none (K : Nat → Prop) (w : World) (p : Nat) (h : StQ K w p []) : Calls Try.prog 78 #[ptr p] w fun e w' => e = .returned (.tuple #[]) ∧ w' = w := by
  obtain ⟨a, cap, hA⟩ := h
  obtain ⟨c0, c1, f0, f1, lp⟩ := hA.at0
  clear hA
  go_enter Try.func78, Try.ntmps78
  go_wp2
  go_loopw [9] (fun i wr => i = I 0 ∧ wr = w) (fun _ _ => 0)
  case atStart => exact ⟨rfl, rfl⟩
  case round =>
    obtain ⟨rfl, rfl⟩ := hrel
    go_wp2
    go_end0
    exact ⟨rfl, rfl⟩
theorem getD_mem (vs : List Value) (k : Nat) (hk : k < vs.length) : vs.getD k .nilIface ∈ vs := by
  rw [List.getD_eq_getElem?_getD, List.getElem?_eq_getElem hk]
  exact List.getElem_mem _
theorem take_rev (vs : List Value) (k : Nat) (hk : k < vs.length) : vs.getD k .nilIface :: (vs.take k).reverse = (vs.take (k + 1)).reverse := by
  rw [List.take_add_one, List.getElem?_eq_getElem hk, List.reverse_append, List.getD_eq_getElem?_getD, List.getElem?_eq_getElem hk]
  rfl
set_option maxRecDepth 100000 in
set_option maxHeartbeats 4000000 in
theorem echo_some (K : Nat → Prop) (w : World) (p : Nat) (vs : List Value) (h : StQ K w p vs) (h0 : 0 < vs.length) (hone : ∀ u ∈ vs, ∃ t v, u = .iface t v) (R : Ending → World → Prop)
    (hok : ∀ w', 2 * vs.length ≤ 5 → StQ (fun k => k < w.heap.size ∧ k ≠ p) w' p (vs.reverse ++ vs) → Kept (fun k => k < w.heap.size ∧ k ≠ p) w w' → R (.returned (.tuple #[])) w')
    (hbad : ∀ w' x, 5 < 2 * vs.length → Blk w' p #[x, .bool true] 62 → Kept (fun k => k < w.heap.size ∧ k ≠ p) w w' → R (.panicked [{ v := .iface 26 (I 3), recovered := false }]) w') :
    Calls Try.prog 78 #[ptr p] w R := by
  have hle := h.le
  have hS := h
  obtain ⟨a, cap, hA⟩ := h
  obtain ⟨c0, c1, f0, f1, lp⟩ := hA.at0
  obtain ⟨g0, rfl, hcells, hcap, hgp, hgl⟩ := hA.form h0
  have ho' : ∀ u ∈ vs, u.oneCell' = true := fun u hu => by obtain ⟨t, v, rfl⟩ := hone u hu; rfl
  have HH : Hid (∀ w', 2 * vs.length ≤ 5 → StQ (fun k => k < w.heap.size ∧ k ≠ p) w' p (vs.reverse ++ vs) → Kept (fun k => k < w.heap.size ∧ k ≠ p) w w' → R (.returned (.tuple #[])) w') := hok
  have HB : Hid (∀ w' x, 5 < 2 * vs.length → Blk w' p #[x, .bool true] 62 → Kept (fun k => k < w.heap.size ∧ k ≠ p) w w' → R (.panicked [{ v := .iface 26 (I 3), recovered := false }]) w') := hbad
  clear hA hok hbad
  go_enter Try.func78, Try.ntmps78
  go_wp2
  go_loopw [9] (fun i wr => ∃ k : Nat, k ≤ vs.length ∧ i = I (k : Int) ∧ ((k = 0 ∧ wr = w) ∨ (0 < k ∧ StQ (fun q => q < w.heap.size ∧ q ≠ p) wr p ((vs.take k).reverse ++ vs) ∧ Kept (fun q => q < w.heap.size ∧ q ≠ p) w wr))) (fun i _ => (vs.length - intOf i).toNat)
  case atStart => exact ⟨0, by omega, rfl, .inl ⟨rfl, rfl⟩⟩
  case round =>
    obtain ⟨k, hk, rfl, hst⟩ := hrel
    have hkept : Kept (fun q => q < w.heap.size ∧ q ≠ p) w wr := by
      rcases hst with ⟨-, rfl⟩ | ⟨-, -, k1⟩
      · exact Kept.refl _ _
      · exact k1
    obtain ⟨K1, hst'⟩ : ∃ K1, StQ K1 wr p ((vs.take k).reverse ++ vs) := by
      rcases hst with ⟨rfl, rfl⟩ | ⟨-, s1, -⟩
      · exact ⟨K, by simpa using hS⟩
      · exact ⟨_, s1⟩
    have hl2 := hst'.le
    have hlen : ((vs.take k).reverse ++ vs).length = k + vs.length := by simp; omega
    by_cases hkn : k = vs.length
    · subst hkn
      go_wp2
      go_end0
      rcases hst with ⟨e, -⟩ | ⟨-, s1, k1⟩
      · omega
      · rw [hlen] at hl2
        exact HH.out _ (by omega) (by simpa using s1) k1
    · have hlt : k < vs.length := by omega
      have cg : wr.cell? ⟨g0, k, none⟩ = some (vs.getD k .nilIface) := by
        have := hcells k hlt
        unfold World.cell? at this ⊢
        rw [hkept.block g0 ⟨hgl, hgp⟩]
        exact this
      obtain ⟨tk, vk, hv⟩ := hone _ (getD_mem vs k hlt)
      have hsucc := take_rev vs k hlt
      rw [hv] at cg hsucc
      have i2 : (k : Int) < (vs.length : Int) := by omega
      have hkb : (k : Int) ≤ 5 := by omega
      by_cases hf : k + vs.length = 5
      · go_wp2_with fail
        refine (under_full K1 wr p _ (.iface tk vk) hst' (by rw [hlen]; exact hf)).mono ?_
        rintro e w2 ⟨rfl, rfl⟩
        obtain ⟨x, hb⟩ := hst'.blk
        go_wp2
        exact ⟨rfl, HB.out _ x (by omega) hb hkept⟩
      · go_wp2_with fail
        refine (under_ok K1 wr p _ tk vk hst' (by omega) (by omega) (fun u hu => ?_)).mono ?_
        · rcases List.mem_append.1 hu with hu | hu
          · exact ho' u (List.mem_of_mem_take (List.mem_reverse.1 hu))
          · exact ho' u hu
        rintro e w2 ⟨rfl, s2, k2⟩
        go_wp2
        go_roundw
        case rel =>
          refine ⟨k + 1, by omega, by go_num, .inr ⟨by omega, ?_, ?_⟩⟩
          · rw [← hsucc]
            exact s2.weak (fun q hq => ⟨Nat.lt_of_lt_of_le hq.1 hkept.size, hq.2⟩)
          · exact hkept.trans (k2.weak (fun q hq => ⟨Nat.lt_of_lt_of_le hq.1 hkept.size, hq.2⟩))
        case measure => simp [intOf]; omega
theorem echo_any (K : Nat → Prop) (w : World) (p : Nat) (st : List TV) (h : SRepQ K w p st) : Calls Try.prog 78 #[ptr p] w (Out K w p (echoT st)) := by
  obtain ⟨vs, h, r⟩ := h
  have hlen := r.len
  have ksub : ∀ k, K k → k < w.heap.size ∧ k ≠ p := by
    obtain ⟨a, cap, hA⟩ := h
    exact fun k hk => ⟨hA.ks k hk, fun e => hA.kp (e ▸ hk)⟩
  cases st with
  | nil =>
    rw [r.nil] at h
    refine (echo_none K w p h).mono ?_
    rintro e w' ⟨rfl, rfl⟩
    exact ⟨rfl, K, fun _ h => h, fun _ h => .inl h, ⟨[], h, trivial⟩, Kept.refl _ _⟩
  | cons x st =>
    refine echo_some K w p vs.reverse h (by simp [hlen]) (fun u hu => r.one u (List.mem_reverse.1 hu)) _ ?_ ?_
    · intro w' hn s kk
      have hk := kk.weak ksub
      have e : echoT (x :: st) = .ok ((x :: st) ++ (x :: st).reverse) := by
        unfold echoT
        rw [if_neg]
        simp [hlen] at hn ⊢
        omega
      rw [e]
      refine ⟨rfl, K, fun _ h => h, fun _ h => .inl h, ⟨vs ++ vs.reverse, ?_, (r.append r.reverse).kept hk⟩, hk⟩
      have := s.weak ksub
      simpa using this
    · intro w' y hn hb kk
      have e : echoT (x :: st) = .error 3 := by
        unfold echoT
        rw [if_pos]
        simp [hlen] at hn ⊢
        omega
      rw [e]
      exact ⟨_, rfl, .inl rfl, kk.weak ksub, y, hb⟩
end Go.Proofs.Qxb6500470a
