import Derived.Test.Qxb6500470aCal2
namespace Go.Proofs.Qxb6500470a
open Go.RowKit

abbrev VI (n : Int) : Value := .iface 80 (I n)
abbrev VS (s : List UInt8) : Value := .iface 112 (S s)
abbrev VL : Value := .iface 69 (.pointer none)

theorem getD_last (xs : List Value) (v : Value) : (xs ++ [v]).getD ((xs ++ [v]).length - 1 - 0) .nilIface = v := by simp
theorem getD_last2 (xs : List Value) (u v : Value) : (xs ++ [u, v]).getD ((xs ++ [u, v]).length - 1 - 1) .nilIface = u := by simp
theorem getD_last1 (xs : List Value) (u v : Value) : (xs ++ [u, v]).getD ((xs ++ [u, v]).length - 1 - 0) .nilIface = v := by simp

set_option maxHeartbeats 1000000 in
theorem pushI (K : Nat → Prop) (w : World) (p : Nat) (vs : List Value) (h : StR K w p vs) (hn : vs.length < 5) (n : Int) :
    Calls Try.prog 62 #[ptr p, I 1, I n, S []] w fun e w' => e = .returned (I 0) ∧ StR K w' p (vs ++ [VI n]) ∧ Kept K w w' := by
  obtain ⟨a, cap, hA⟩ := h
  obtain ⟨c0, c1, f0, f1, lp⟩ := hA.at0
  have h5 : ¬ (5 : Int) ≤ (vs.length : Int) := by omega
  have HA : Hid _ := hA
  clear hA
  go_enter Try.func62, Try.ntmps62
  go_wp2_with fail
  refine (swap_any K w p vs ⟨a, cap, HA.out⟩ vs.length 0 rfl hn _ _).mono ?_
  rintro e w1 ⟨rfl, s1, k1⟩
  rw [List.take_length] at s1
  go_wp2
  go_ret
  exact ⟨rfl, s1, k1⟩
set_option maxHeartbeats 1000000 in
theorem pushS (K : Nat → Prop) (w : World) (p : Nat) (vs : List Value) (h : StR K w p vs) (hn : vs.length < 5) (s : List UInt8) (hs : s.length ≤ 6) :
    Calls Try.prog 62 #[ptr p, I 2, I 0, S s] w fun e w' => e = .returned (I 0) ∧ StR K w' p (vs ++ [VS s]) ∧ Kept K w w' := by
  obtain ⟨a, cap, hA⟩ := h
  obtain ⟨c0, c1, f0, f1, lp⟩ := hA.at0
  have h5 : ¬ (5 : Int) ≤ (vs.length : Int) := by omega
  have h6 : ¬ (6 : Int) < ((str s).size : Int) := by rw [str_size]; omega
  have HA : Hid _ := hA
  clear hA
  go_enter Try.func62, Try.ntmps62
  go_wp2_with fail
  refine (swap_any K w p vs ⟨a, cap, HA.out⟩ vs.length 0 rfl hn _ _).mono ?_
  rintro e w1 ⟨rfl, s1, k1⟩
  rw [List.take_length] at s1
  go_wp2
  go_ret
  exact ⟨rfl, s1, k1⟩
set_option maxHeartbeats 1000000 in
theorem pushL (K : Nat → Prop) (w : World) (p : Nat) (vs : List Value) (h : StR K w p vs) (hn : vs.length < 5) :
    Calls Try.prog 62 #[ptr p, I 3, I 0, S []] w fun e w' => e = .returned (I 0) ∧ StR K w' p (vs ++ [VL]) ∧ Kept K w w' := by
  obtain ⟨a, cap, hA⟩ := h
  obtain ⟨c0, c1, f0, f1, lp⟩ := hA.at0
  have h5 : ¬ (5 : Int) ≤ (vs.length : Int) := by omega
  have HA : Hid _ := hA
  clear hA
  go_enter Try.func62, Try.ntmps62
  go_wp2_with fail
  refine (swap_any K w p vs ⟨a, cap, HA.out⟩ vs.length 0 rfl hn _ _).mono ?_
  rintro e w1 ⟨rfl, s1, k1⟩
  rw [List.take_length] at s1
  go_wp2
  go_ret
  exact ⟨rfl, s1, k1⟩

theorem StA.pre {K : Nat → Prop} {w : World} {p g : Nat} {cap n : Nat} {vs : List Value} (h : StA K w p (some ⟨g, 0, none⟩) cap vs) (hn : n ≤ vs.length) :
    StA K (w.setCell ⟨p, 0, none⟩ (.slice (some ⟨g, 0, none⟩) n cap)) p (some ⟨g, 0, none⟩) cap (vs.take n) := by
  have hl : (vs.take n).length = n := by rw [List.length_take]; omega
  have hgp : g ≠ p := fun e => h.far (by rw [← e]; rfl)
  have := vstore (K := K) (w := w) (g := g) (cap := cap) (vs := vs.take n) h.head (by rw [hl]; exact own_pre h.own hn) hgp (by rw [hl]; have := h.le; omega) h.kp (h.ka g rfl) h.ks
  rw [hl] at this
  exact this

set_option maxHeartbeats 1000000 in
theorem drop_some (K : Nat → Prop) (w : World) (p : Nat) (vs : List Value) (v : Value) (h : StR K w p (vs ++ [v])) :
    Calls Try.prog 44 #[ptr p] w fun e w' => e = .returned (I 0) ∧ StR K w' p vs ∧ Kept K w w' := by
  obtain ⟨a, cap, hA⟩ := h
  obtain ⟨c0, c1, f0, f1, lp⟩ := hA.at0
  have h5 := hA.le
  obtain ⟨g, rfl, -, hle, -, -⟩ := hA.form (by simp)
  have S1 := hA.pre (n := vs.length) (by simp)
  rw [List.take_left'  rfl] at S1
  rw [List.length_append, List.length_singleton] at c0 hle h5
  have HK : Kept K w (w.setCell ⟨p, 0, none⟩ (.slice (some ⟨g, 0, none⟩) vs.length cap)) := (Kept.refl K w).setCell hA.kp _
  have e1 : ¬ ((vs.length + 1 : Nat) : Int) < 1 := by omega
  have e2 : ((vs.length + 1 : Nat) : Int) - 1 = (vs.length : Int) := by omega
  have w1 := wr64 (vs.length : Int) (by omega) (by omega)
  have e3 : (vs.length : Int) ≤ (cap : Int) := by omega
  have HS : Hid _ := S1
  clear hA S1
  go_enter Try.func44, Try.ntmps44
  go_wp2
  go_ret
  exact ⟨rfl, ⟨_, _, HS.out⟩, HK⟩
set_option maxHeartbeats 1000000 in
theorem drop_none (K : Nat → Prop) (w : World) (p : Nat) (h : StR K w p []) :
    Calls Try.prog 44 #[ptr p] w fun e w' => e = .returned (I 4) ∧ w' = w := by
  obtain ⟨a, cap, hA⟩ := h
  obtain ⟨c0, c1, f0, f1, lp⟩ := hA.at0
  clear hA
  go_enter Try.func44, Try.ntmps44
  go_wp2
  go_ret
  exact ⟨rfl, rfl⟩

set_option maxHeartbeats 1000000 in
theorem topInt_int (K : Nat → Prop) (w : World) (p : Nat) (vs : List Value) (n : Int) (h : StR K w p (vs ++ [VI n])) :
    Calls Try.prog 92 #[ptr p] w fun e w' => e = .returned (.tuple #[I n, I 0]) ∧ w' = w := by
  have hp := peek_some K w p _ h 0 (by simp)
  rw [getD_last] at hp
  have ta : ∀ w, (Instr.typeAssert (VI n) 64 80 true).run Try.prog w = .ok (.tuple #[I n, .bool true]) w := fun _ => by kernel_rfl
  go_enter Try.func92, Try.ntmps92
  go_wp2_with fail
  refine hp.mono ?_
  rintro e w1 ⟨rfl, rfl⟩
  go_wp2
  go_ret2
  exact ⟨rfl, rfl⟩
end Go.Proofs.Qxb6500470a
