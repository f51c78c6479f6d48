import Derived.Test.Qxb6500469aWd4
namespace Go.Proofs.Qxb6500469a
open Go.RowKit
set_option maxHeartbeats 1000000 in
theorem calcU16_no (w : World) (b : Nat) (op : Int) (hop : op = 5 ∨ op = 6) : Calls Try.prog 61 #[ptr b, I op, .int .u16 0] w fun e w' => e = .returned (I 5) ∧ w' = w := by
  rcases hop with rfl | rfl
  all_goals
    go_enter Try.func61, Try.ntmps61
    go_wp2
    go_ret
    exact ⟨rfl, rfl⟩
set_option maxHeartbeats 4000000 in
theorem calcU16_any (w : World) (b u : Nat) (a p q : Int) (h : BdR w b u a p q) (op : Int) (h1 : 1 ≤ op) (h8 : op ≤ 8) (v : Int) (hv : 0 ≤ v ∧ v ≤ 65535) (hz : ¬ (v = 0 ∧ (op = 5 ∨ op = 6))) :
    Calls Try.prog 61 #[ptr b, I op, .int .u16 v] w fun e w' => e = .returned (I 0) ∧ BdR w' b u a p (tU (rawC op q v 0 65535)) ∧ Upd [b] w w' := by
  obtain ⟨c0, c1, c2, c3⟩ := h.cells
  have f0 := h.head.frozen 3
  have hx := h.hq
  have hB := h
  have hop : op = 1 ∨ op = 2 ∨ op = 3 ∨ op = 4 ∨ op = 5 ∨ op = 6 ∨ op = 7 ∨ op = 8 := by omega
  have HB : Hid (∀ y : Int, 0 ≤ y ∧ y ≤ 65535 → BdR (w.setCell ⟨b, 3, none⟩ (.int .u16 y)) b u a p y ∧ Upd [b] w (w.setCell ⟨b, 3, none⟩ (.int .u16 y))) := fun y hy => ⟨h.set3 y hy, (Upd.refl _ _).setCell (by simp) _⟩
  clear h h1 h8 hB
  rcases hop with rfl | rfl | rfl | rfl | rfl | rfl | rfl | rfl
  · rw [show rawC 1 q v 0 65535 = v from rfl]
    clear hz
    cases v0 : (v == 0) with
    | true =>
      rw [tU_id _ hv]
      go_enter Try.func61, Try.ntmps61
      go_wp2
      go_ret
      exact ⟨rfl, HB.out _ hv⟩
    | false =>
      rw [tU_id _ hv]
      go_enter Try.func61, Try.ntmps61
      go_wp2
      go_ret
      exact ⟨rfl, HB.out _ hv⟩
  · rw [show rawC 2 q v 0 65535 = q + v from rfl]
    clear hz
    cases v0 : (v == 0) with
    | true =>
      rw [← kU]
      have hin : 0 ≤ (IntKind.u16.wrap (q + v)) ∧ (IntKind.u16.wrap (q + v)) ≤ 65535 := by rw [kU]; exact tU_in _
      go_enter Try.func61, Try.ntmps61
      go_wp2
      go_ret
      exact ⟨rfl, HB.out _ hin⟩
    | false =>
      rw [← kU]
      have hin : 0 ≤ (IntKind.u16.wrap (q + v)) ∧ (IntKind.u16.wrap (q + v)) ≤ 65535 := by rw [kU]; exact tU_in _
      go_enter Try.func61, Try.ntmps61
      go_wp2
      go_ret
      exact ⟨rfl, HB.out _ hin⟩
  · rw [show rawC 3 q v 0 65535 = q - v from rfl]
    clear hz
    cases v0 : (v == 0) with
    | true =>
      rw [← kU]
      have hin : 0 ≤ (IntKind.u16.wrap (q - v)) ∧ (IntKind.u16.wrap (q - v)) ≤ 65535 := by rw [kU]; exact tU_in _
      go_enter Try.func61, Try.ntmps61
      go_wp2
      go_ret
      exact ⟨rfl, HB.out _ hin⟩
    | false =>
      rw [← kU]
      have hin : 0 ≤ (IntKind.u16.wrap (q - v)) ∧ (IntKind.u16.wrap (q - v)) ≤ 65535 := by rw [kU]; exact tU_in _
      go_enter Try.func61, Try.ntmps61
      go_wp2
      go_ret
      exact ⟨rfl, HB.out _ hin⟩
  · rw [show rawC 4 q v 0 65535 = q * v from rfl]
    clear hz
    cases v0 : (v == 0) with
    | true =>
      rw [← kU]
      have hin : 0 ≤ (IntKind.u16.wrap (q * v)) ∧ (IntKind.u16.wrap (q * v)) ≤ 65535 := by rw [kU]; exact tU_in _
      go_enter Try.func61, Try.ntmps61
      go_wp2
      go_ret
      exact ⟨rfl, HB.out _ hin⟩
    | false =>
      rw [← kU]
      have hin : 0 ≤ (IntKind.u16.wrap (q * v)) ∧ (IntKind.u16.wrap (q * v)) ≤ 65535 := by rw [kU]; exact tU_in _
      go_enter Try.func61, Try.ntmps61
      go_wp2
      go_ret
      exact ⟨rfl, HB.out _ hin⟩
  · rw [show rawC 5 q v 0 65535 = q.tdiv v from rfl]
    have hv0 : v ≠ 0 := fun e => hz ⟨e, by simp⟩
    have v0 : (v == 0) = false := by simpa using hv0
    clear hz
    rw [← kU]
    have hin : 0 ≤ (IntKind.u16.wrap (q.tdiv v)) ∧ (IntKind.u16.wrap (q.tdiv v)) ≤ 65535 := by rw [kU]; exact tU_in _
    go_enter Try.func61, Try.ntmps61
    go_wp2
    go_ret
    exact ⟨rfl, HB.out _ hin⟩
  · rw [show rawC 6 q v 0 65535 = q.tmod v from rfl]
    have hv0 : v ≠ 0 := fun e => hz ⟨e, by simp⟩
    have v0 : (v == 0) = false := by simpa using hv0
    clear hz
    have hm := tmod_in q v
    have hin : 0 ≤ (q.tmod v) ∧ (q.tmod v) ≤ 65535 := by omega
    rw [tU_id _ hin]
    clear hm
    rw [Int.tmod_eq_emod_of_nonneg hx.1] at hin ⊢
    go_enter Try.func61, Try.ntmps61
    go_wp2
    go_ret
    exact ⟨rfl, HB.out _ hin⟩
  · rw [show rawC 7 q v 0 65535 = clampI (q + v) 0 65535 from rfl]
    clear hz
    cases v0 : (v == 0) with
    | true =>
      have w0 := wr64 q (by omega) (by omega)
      have w1 := wr64 (v) (by omega) (by omega)
      have w2 := wr64 (q + v) (by omega) (by omega)
      have hH := held_any (q + v) 0 65535
      have hin := tU_in (clampI (q + v) 0 65535)
      have hk := kU (clampI (q + v) 0 65535)
      generalize clampI (q + v) 0 65535 = cc at *
      generalize tU cc = yy at *
      go_enter Try.func61, Try.ntmps61
      go_wp2_with fail
      refine (hH _).mono ?_
      rintro e w1 ⟨rfl, rfl⟩
      go_wp2
      go_ret
      exact ⟨rfl, HB.out _ hin⟩
    | false =>
      have w0 := wr64 q (by omega) (by omega)
      have w1 := wr64 (v) (by omega) (by omega)
      have w2 := wr64 (q + v) (by omega) (by omega)
      have hH := held_any (q + v) 0 65535
      have hin := tU_in (clampI (q + v) 0 65535)
      have hk := kU (clampI (q + v) 0 65535)
      generalize clampI (q + v) 0 65535 = cc at *
      generalize tU cc = yy at *
      go_enter Try.func61, Try.ntmps61
      go_wp2_with fail
      refine (hH _).mono ?_
      rintro e w1 ⟨rfl, rfl⟩
      go_wp2
      go_ret
      exact ⟨rfl, HB.out _ hin⟩
  · rw [show rawC 8 q v 0 65535 = clampI (q - v) 0 65535 from rfl]
    clear hz
    cases v0 : (v == 0) with
    | true =>
      have w0 := wr64 q (by omega) (by omega)
      have w1 := wr64 (v) (by omega) (by omega)
      have w2 := wr64 (q - v) (by omega) (by omega)
      have hH := held_any (q - v) 0 65535
      have hin := tU_in (clampI (q - v) 0 65535)
      have hk := kU (clampI (q - v) 0 65535)
      generalize clampI (q - v) 0 65535 = cc at *
      generalize tU cc = yy at *
      go_enter Try.func61, Try.ntmps61
      go_wp2_with fail
      refine (hH _).mono ?_
      rintro e w1 ⟨rfl, rfl⟩
      go_wp2
      go_ret
      exact ⟨rfl, HB.out _ hin⟩
    | false =>
      have w0 := wr64 q (by omega) (by omega)
      have w1 := wr64 (v) (by omega) (by omega)
      have w2 := wr64 (q - v) (by omega) (by omega)
      have hH := held_any (q - v) 0 65535
      have hin := tU_in (clampI (q - v) 0 65535)
      have hk := kU (clampI (q - v) 0 65535)
      generalize clampI (q - v) 0 65535 = cc at *
      generalize tU cc = yy at *
      go_enter Try.func61, Try.ntmps61
      go_wp2_with fail
      refine (hH _).mono ?_
      rintro e w1 ⟨rfl, rfl⟩
      go_wp2
      go_ret
      exact ⟨rfl, HB.out _ hin⟩
end Go.Proofs.Qxb6500469a
