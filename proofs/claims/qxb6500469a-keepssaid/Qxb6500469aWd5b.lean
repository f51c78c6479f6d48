import Derived.Test.Qxb6500469aWd4
namespace Go.Proofs.Qxb6500469a
open Go.RowKit
set_option maxHeartbeats 1000000 in
theorem calc16_no (w : World) (b : Nat) (op : Int) (hop : op = 5 ∨ op = 6) : Calls Try.prog 60 #[ptr b, I op, .int .i16 0] w fun e w' => e = .returned (I 5) ∧ w' = w := by
  rcases hop with rfl | rfl
  all_goals
    go_enter Try.func60, Try.ntmps60
    go_wp2
    go_ret
    exact ⟨rfl, rfl⟩
set_option maxHeartbeats 4000000 in
theorem calc16_any (w : World) (b u : Nat) (a p q : Int) (h : BdR w b u a p q) (op : Int) (h1 : 1 ≤ op) (h8 : op ≤ 8) (v : Int) (hv : -32768 ≤ v ∧ v ≤ 32767) (hz : ¬ (v = 0 ∧ (op = 5 ∨ op = 6))) :
    Calls Try.prog 60 #[ptr b, I op, .int .i16 v] w fun e w' => e = .returned (I 0) ∧ BdR w' b u a (t16 (rawC op p v (-32768) 32767)) q ∧ Upd [b] w w' := by
  obtain ⟨c0, c1, c2, c3⟩ := h.cells
  have f0 := h.head.frozen 2
  have hx := h.hp
  have hB := h
  have hop : op = 1 ∨ op = 2 ∨ op = 3 ∨ op = 4 ∨ op = 5 ∨ op = 6 ∨ op = 7 ∨ op = 8 := by omega
  have HB : Hid (∀ y : Int, -32768 ≤ y ∧ y ≤ 32767 → BdR (w.setCell ⟨b, 2, none⟩ (.int .i16 y)) b u a y q ∧ Upd [b] w (w.setCell ⟨b, 2, none⟩ (.int .i16 y))) := fun y hy => ⟨h.set2 y hy, (Upd.refl _ _).setCell (by simp) _⟩
  clear h h1 h8 hB
  rcases hop with rfl | rfl | rfl | rfl | rfl | rfl | rfl | rfl
  · rw [show rawC 1 p v (-32768) 32767 = v from rfl]
    clear hz
    cases v0 : (v == 0) with
    | true =>
      rw [t16_id _ hv]
      go_enter Try.func60, Try.ntmps60
      go_wp2
      go_ret
      exact ⟨rfl, HB.out _ hv⟩
    | false =>
      rw [t16_id _ hv]
      go_enter Try.func60, Try.ntmps60
      go_wp2
      go_ret
      exact ⟨rfl, HB.out _ hv⟩
  · rw [show rawC 2 p v (-32768) 32767 = p + v from rfl]
    clear hz
    cases v0 : (v == 0) with
    | true =>
      rw [← k16]
      have hin : -32768 ≤ (IntKind.i16.wrap (p + v)) ∧ (IntKind.i16.wrap (p + v)) ≤ 32767 := by rw [k16]; exact t16_in _
      go_enter Try.func60, Try.ntmps60
      go_wp2
      go_ret
      exact ⟨rfl, HB.out _ hin⟩
    | false =>
      rw [← k16]
      have hin : -32768 ≤ (IntKind.i16.wrap (p + v)) ∧ (IntKind.i16.wrap (p + v)) ≤ 32767 := by rw [k16]; exact t16_in _
      go_enter Try.func60, Try.ntmps60
      go_wp2
      go_ret
      exact ⟨rfl, HB.out _ hin⟩
  · rw [show rawC 3 p v (-32768) 32767 = p - v from rfl]
    clear hz
    cases v0 : (v == 0) with
    | true =>
      rw [← k16]
      have hin : -32768 ≤ (IntKind.i16.wrap (p - v)) ∧ (IntKind.i16.wrap (p - v)) ≤ 32767 := by rw [k16]; exact t16_in _
      go_enter Try.func60, Try.ntmps60
      go_wp2
      go_ret
      exact ⟨rfl, HB.out _ hin⟩
    | false =>
      rw [← k16]
      have hin : -32768 ≤ (IntKind.i16.wrap (p - v)) ∧ (IntKind.i16.wrap (p - v)) ≤ 32767 := by rw [k16]; exact t16_in _
      go_enter Try.func60, Try.ntmps60
      go_wp2
      go_ret
      exact ⟨rfl, HB.out _ hin⟩
  · rw [show rawC 4 p v (-32768) 32767 = p * v from rfl]
    clear hz
    cases v0 : (v == 0) with
    | true =>
      rw [← k16]
      have hin : -32768 ≤ (IntKind.i16.wrap (p * v)) ∧ (IntKind.i16.wrap (p * v)) ≤ 32767 := by rw [k16]; exact t16_in _
      go_enter Try.func60, Try.ntmps60
      go_wp2
      go_ret
      exact ⟨rfl, HB.out _ hin⟩
    | false =>
      rw [← k16]
      have hin : -32768 ≤ (IntKind.i16.wrap (p * v)) ∧ (IntKind.i16.wrap (p * v)) ≤ 32767 := by rw [k16]; exact t16_in _
      go_enter Try.func60, Try.ntmps60
      go_wp2
      go_ret
      exact ⟨rfl, HB.out _ hin⟩
  · rw [show rawC 5 p v (-32768) 32767 = p.tdiv v from rfl]
    have hv0 : v ≠ 0 := fun e => hz ⟨e, by simp⟩
    have v0 : (v == 0) = false := by simpa using hv0
    clear hz
    rw [← k16]
    have hin : -32768 ≤ (IntKind.i16.wrap (p.tdiv v)) ∧ (IntKind.i16.wrap (p.tdiv v)) ≤ 32767 := by rw [k16]; exact t16_in _
    go_enter Try.func60, Try.ntmps60
    go_wp2
    go_ret
    exact ⟨rfl, HB.out _ hin⟩
  · rw [show rawC 6 p v (-32768) 32767 = p.tmod v from rfl]
    have hv0 : v ≠ 0 := fun e => hz ⟨e, by simp⟩
    have v0 : (v == 0) = false := by simpa using hv0
    clear hz
    have hm := tmod_in p v
    have hin : -32768 ≤ (p.tmod v) ∧ (p.tmod v) ≤ 32767 := by omega
    rw [t16_id _ hin]
    clear hm
    go_enter Try.func60, Try.ntmps60
    go_wp2
    go_ret
    exact ⟨rfl, HB.out _ hin⟩
  · rw [show rawC 7 p v (-32768) 32767 = clampI (p + v) (-32768) 32767 from rfl]
    clear hz
    cases v0 : (v == 0) with
    | true =>
      have w0 := wr64 p (by omega) (by omega)
      have w1 := wr64 (v) (by omega) (by omega)
      have w2 := wr64 (p + v) (by omega) (by omega)
      have hH := held_any (p + v) (-32768) 32767
      have hin := t16_in (clampI (p + v) (-32768) 32767)
      have hk := k16 (clampI (p + v) (-32768) 32767)
      generalize clampI (p + v) (-32768) 32767 = cc at *
      generalize t16 cc = yy at *
      go_enter Try.func60, Try.ntmps60
      go_wp2_with fail
      refine (hH _).mono ?_
      rintro e w1 ⟨rfl, rfl⟩
      go_wp2
      go_ret
      exact ⟨rfl, HB.out _ hin⟩
    | false =>
      have w0 := wr64 p (by omega) (by omega)
      have w1 := wr64 (v) (by omega) (by omega)
      have w2 := wr64 (p + v) (by omega) (by omega)
      have hH := held_any (p + v) (-32768) 32767
      have hin := t16_in (clampI (p + v) (-32768) 32767)
      have hk := k16 (clampI (p + v) (-32768) 32767)
      generalize clampI (p + v) (-32768) 32767 = cc at *
      generalize t16 cc = yy at *
      go_enter Try.func60, Try.ntmps60
      go_wp2_with fail
      refine (hH _).mono ?_
      rintro e w1 ⟨rfl, rfl⟩
      go_wp2
      go_ret
      exact ⟨rfl, HB.out _ hin⟩
  · rw [show rawC 8 p v (-32768) 32767 = clampI (p - v) (-32768) 32767 from rfl]
    clear hz
    cases v0 : (v == 0) with
    | true =>
      have w0 := wr64 p (by omega) (by omega)
      have w1 := wr64 (v) (by omega) (by omega)
      have w2 := wr64 (p - v) (by omega) (by omega)
      have hH := held_any (p - v) (-32768) 32767
      have hin := t16_in (clampI (p - v) (-32768) 32767)
      have hk := k16 (clampI (p - v) (-32768) 32767)
      generalize clampI (p - v) (-32768) 32767 = cc at *
      generalize t16 cc = yy at *
      go_enter Try.func60, Try.ntmps60
      go_wp2_with fail
      refine (hH _).mono ?_
      rintro e w1 ⟨rfl, rfl⟩
      go_wp2
      go_ret
      exact ⟨rfl, HB.out _ hin⟩
    | false =>
      have w0 := wr64 p (by omega) (by omega)
      have w1 := wr64 (v) (by omega) (by omega)
      have w2 := wr64 (p - v) (by omega) (by omega)
      have hH := held_any (p - v) (-32768) 32767
      have hin := t16_in (clampI (p - v) (-32768) 32767)
      have hk := k16 (clampI (p - v) (-32768) 32767)
      generalize clampI (p - v) (-32768) 32767 = cc at *
      generalize t16 cc = yy at *
      go_enter Try.func60, Try.ntmps60
      go_wp2_with fail
      refine (hH _).mono ?_
      rintro e w1 ⟨rfl, rfl⟩
      go_wp2
      go_ret
      exact ⟨rfl, HB.out _ hin⟩
end Go.Proofs.Qxb6500469a
