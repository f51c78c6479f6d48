import Derived.Test.Qxb6500469aWd4
namespace Go.Proofs.Qxb6500469a
open Go.RowKit
set_option maxHeartbeats 1000000 in
theorem calc8_no (w : World) (b : Nat) (op : Int) (hop : op = 5 ∨ op = 6) : Calls Try.prog 59 #[ptr b, I op, .int .i8 0] w fun e w' => e = .returned (I 5) ∧ w' = w := by
  rcases hop with rfl | rfl
  all_goals
    go_enter Try.func59, Try.ntmps59
    go_wp2
    go_ret
    exact ⟨rfl, rfl⟩
set_option maxHeartbeats 4000000 in
theorem calc8_any (w : World) (b u : Nat) (a p q : Int) (h : BdR w b u a p q) (op : Int) (h1 : 1 ≤ op) (h8 : op ≤ 8) (v : Int) (hv : -128 ≤ v ∧ v ≤ 127) (hz : ¬ (v = 0 ∧ (op = 5 ∨ op = 6))) :
    Calls Try.prog 59 #[ptr b, I op, .int .i8 v] w fun e w' => e = .returned (I 0) ∧ BdR w' b u (t8 (rawC op a v (-128) 127)) p q ∧ Upd [b] w w' := by
  obtain ⟨c0, c1, c2, c3⟩ := h.cells
  have f0 := h.head.frozen 1
  have hx := h.ha
  have hB := h
  have hop : op = 1 ∨ op = 2 ∨ op = 3 ∨ op = 4 ∨ op = 5 ∨ op = 6 ∨ op = 7 ∨ op = 8 := by omega
  have HB : Hid (∀ y : Int, -128 ≤ y ∧ y ≤ 127 → BdR (w.setCell ⟨b, 1, none⟩ (.int .i8 y)) b u y p q ∧ Upd [b] w (w.setCell ⟨b, 1, none⟩ (.int .i8 y))) := fun y hy => ⟨h.set1 y hy, (Upd.refl _ _).setCell (by simp) _⟩
  clear h h1 h8 hB
  rcases hop with rfl | rfl | rfl | rfl | rfl | rfl | rfl | rfl
  · rw [show rawC 1 a v (-128) 127 = v from rfl]
    clear hz
    cases v0 : (v == 0) with
    | true =>
      rw [t8_id _ hv]
      go_enter Try.func59, Try.ntmps59
      go_wp2
      go_ret
      exact ⟨rfl, HB.out _ hv⟩
    | false =>
      rw [t8_id _ hv]
      go_enter Try.func59, Try.ntmps59
      go_wp2
      go_ret
      exact ⟨rfl, HB.out _ hv⟩
  · rw [show rawC 2 a v (-128) 127 = a + v from rfl]
    clear hz
    cases v0 : (v == 0) with
    | true =>
      rw [← k8]
      have hin : -128 ≤ (IntKind.i8.wrap (a + v)) ∧ (IntKind.i8.wrap (a + v)) ≤ 127 := by rw [k8]; exact t8_in _
      go_enter Try.func59, Try.ntmps59
      go_wp2
      go_ret
      exact ⟨rfl, HB.out _ hin⟩
    | false =>
      rw [← k8]
      have hin : -128 ≤ (IntKind.i8.wrap (a + v)) ∧ (IntKind.i8.wrap (a + v)) ≤ 127 := by rw [k8]; exact t8_in _
      go_enter Try.func59, Try.ntmps59
      go_wp2
      go_ret
      exact ⟨rfl, HB.out _ hin⟩
  · rw [show rawC 3 a v (-128) 127 = a - v from rfl]
    clear hz
    cases v0 : (v == 0) with
    | true =>
      rw [← k8]
      have hin : -128 ≤ (IntKind.i8.wrap (a - v)) ∧ (IntKind.i8.wrap (a - v)) ≤ 127 := by rw [k8]; exact t8_in _
      go_enter Try.func59, Try.ntmps59
      go_wp2
      go_ret
      exact ⟨rfl, HB.out _ hin⟩
    | false =>
      rw [← k8]
      have hin : -128 ≤ (IntKind.i8.wrap (a - v)) ∧ (IntKind.i8.wrap (a - v)) ≤ 127 := by rw [k8]; exact t8_in _
      go_enter Try.func59, Try.ntmps59
      go_wp2
      go_ret
      exact ⟨rfl, HB.out _ hin⟩
  · rw [show rawC 4 a v (-128) 127 = a * v from rfl]
    clear hz
    cases v0 : (v == 0) with
    | true =>
      rw [← k8]
      have hin : -128 ≤ (IntKind.i8.wrap (a * v)) ∧ (IntKind.i8.wrap (a * v)) ≤ 127 := by rw [k8]; exact t8_in _
      go_enter Try.func59, Try.ntmps59
      go_wp2
      go_ret
      exact ⟨rfl, HB.out _ hin⟩
    | false =>
      rw [← k8]
      have hin : -128 ≤ (IntKind.i8.wrap (a * v)) ∧ (IntKind.i8.wrap (a * v)) ≤ 127 := by rw [k8]; exact t8_in _
      go_enter Try.func59, Try.ntmps59
      go_wp2
      go_ret
      exact ⟨rfl, HB.out _ hin⟩
  · rw [show rawC 5 a v (-128) 127 = a.tdiv v from rfl]
    have hv0 : v ≠ 0 := fun e => hz ⟨e, by simp⟩
    have v0 : (v == 0) = false := by simpa using hv0
    clear hz
    rw [← k8]
    have hin : -128 ≤ (IntKind.i8.wrap (a.tdiv v)) ∧ (IntKind.i8.wrap (a.tdiv v)) ≤ 127 := by rw [k8]; exact t8_in _
    go_enter Try.func59, Try.ntmps59
    go_wp2
    go_ret
    exact ⟨rfl, HB.out _ hin⟩
  · rw [show rawC 6 a v (-128) 127 = a.tmod v from rfl]
    have hv0 : v ≠ 0 := fun e => hz ⟨e, by simp⟩
    have v0 : (v == 0) = false := by simpa using hv0
    clear hz
    have hm := tmod_in a v
    have hin : -128 ≤ (a.tmod v) ∧ (a.tmod v) ≤ 127 := by omega
    rw [t8_id _ hin]
    clear hm
    go_enter Try.func59, Try.ntmps59
    go_wp2
    go_ret
    exact ⟨rfl, HB.out _ hin⟩
  · rw [show rawC 7 a v (-128) 127 = clampI (a + v) (-128) 127 from rfl]
    clear hz
    cases v0 : (v == 0) with
    | true =>
      have w0 := wr64 a (by omega) (by omega)
      have w1 := wr64 (v) (by omega) (by omega)
      have w2 := wr64 (a + v) (by omega) (by omega)
      have hH := held_any (a + v) (-128) 127
      have hin := t8_in (clampI (a + v) (-128) 127)
      have hk := k8 (clampI (a + v) (-128) 127)
      generalize clampI (a + v) (-128) 127 = cc at *
      generalize t8 cc = yy at *
      go_enter Try.func59, Try.ntmps59
      go_wp2_with fail
      refine (hH _).mono ?_
      rintro e w1 ⟨rfl, rfl⟩
      go_wp2
      go_ret
      exact ⟨rfl, HB.out _ hin⟩
    | false =>
      have w0 := wr64 a (by omega) (by omega)
      have w1 := wr64 (v) (by omega) (by omega)
      have w2 := wr64 (a + v) (by omega) (by omega)
      have hH := held_any (a + v) (-128) 127
      have hin := t8_in (clampI (a + v) (-128) 127)
      have hk := k8 (clampI (a + v) (-128) 127)
      generalize clampI (a + v) (-128) 127 = cc at *
      generalize t8 cc = yy at *
      go_enter Try.func59, Try.ntmps59
      go_wp2_with fail
      refine (hH _).mono ?_
      rintro e w1 ⟨rfl, rfl⟩
      go_wp2
      go_ret
      exact ⟨rfl, HB.out _ hin⟩
  · rw [show rawC 8 a v (-128) 127 = clampI (a - v) (-128) 127 from rfl]
    clear hz
    cases v0 : (v == 0) with
    | true =>
      have w0 := wr64 a (by omega) (by omega)
      have w1 := wr64 (v) (by omega) (by omega)
      have w2 := wr64 (a - v) (by omega) (by omega)
      have hH := held_any (a - v) (-128) 127
      have hin := t8_in (clampI (a - v) (-128) 127)
      have hk := k8 (clampI (a - v) (-128) 127)
      generalize clampI (a - v) (-128) 127 = cc at *
      generalize t8 cc = yy at *
      go_enter Try.func59, Try.ntmps59
      go_wp2_with fail
      refine (hH _).mono ?_
      rintro e w1 ⟨rfl, rfl⟩
      go_wp2
      go_ret
      exact ⟨rfl, HB.out _ hin⟩
    | false =>
      have w0 := wr64 a (by omega) (by omega)
      have w1 := wr64 (v) (by omega) (by omega)
      have w2 := wr64 (a - v) (by omega) (by omega)
      have hH := held_any (a - v) (-128) 127
      have hin := t8_in (clampI (a - v) (-128) 127)
      have hk := k8 (clampI (a - v) (-128) 127)
      generalize clampI (a - v) (-128) 127 = cc at *
      generalize t8 cc = yy at *
      go_enter Try.func59, Try.ntmps59
      go_wp2_with fail
      refine (hH _).mono ?_
      rintro e w1 ⟨rfl, rfl⟩
      go_wp2
      go_ret
      exact ⟨rfl, HB.out _ hin⟩
end Go.Proofs.Qxb6500469a
