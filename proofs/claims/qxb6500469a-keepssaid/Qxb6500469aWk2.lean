import Derived.Test.Qxb6500469aWk1
namespace Go.Proofs.Qxb6500469a
open Go.RowKit

theorem tdiv_mod (x v : Int) : x - x.tdiv v * v = x.tmod v := by
  have h := Int.tmod_add_tdiv_mul x v
  omega
set_option maxRecDepth 100000 in
set_option maxHeartbeats 8000000 in
theorem worked_gen (lo hi S op x v : Int) (wrp : Int → Int) (hS : S = hi - lo + 1) (bl : -65536 ≤ lo ∧ lo ≤ 0) (bh : 0 < hi ∧ hi ≤ 65536) (bx : lo ≤ x ∧ x ≤ hi) (bv : lo ≤ v ∧ v ≤ hi) (h1 : 1 ≤ op) (h8 : op ≤ 8) (hz : ¬ (v = 0 ∧ (op = 5 ∨ op = 6)))
    (w1 : ∀ n, lo ≤ wrp n ∧ wrp n ≤ hi) (w2 : ∀ n, lo ≤ n ∧ n ≤ hi → wrp n = n) (w3 : ∀ n, (wrp n - n).tmod S = 0) (wd : ¬ (x = lo ∧ v = -1) → lo ≤ x.tdiv v ∧ x.tdiv v ≤ hi) (wl : v = -1 → wrp (lo.tdiv v) = lo) (w : World) :
    Calls Try.prog 52 #[I op, I x, I v, I (wrp (rawC op x v lo hi)), I lo, I hi] w fun e w' => e = .returned (.bool true) ∧ w' = w := by
  have hop : op = 1 ∨ op = 2 ∨ op = 3 ∨ op = 4 ∨ op = 5 ∨ op = 6 ∨ op = 7 ∨ op = 8 := by omega
  have bS : IntKind.i64.wrap (hi - lo) = hi - lo := wr64 _ (by omega) (by omega)
  have bS2 : IntKind.i64.wrap (hi - lo + 1) = S := by rw [hS]; exact wr64 _ (by omega) (by omega)
  have hS0 : (S == 0) = false := by simp; omega
  have mu := mul_in x v (by omega) (by omega)
  have W1 : Hid _ := w1
  have W2 : Hid _ := w2
  have W3 : Hid _ := w3
  have WD : Hid _ := wd
  have WL : Hid _ := wl
  clear w1 w2 w3 wd wl h1 h8
  rcases hop with rfl | rfl | rfl | rfl | rfl | rfl | rfl | rfl
  · rw [show rawC 1 x v lo hi = v from rfl, W2.out v bv]
    go_enter Try.func52, Try.ntmps52
    go_wp2
    go_ret
    exact ⟨by simp [go_sem], rfl⟩
  · rw [show rawC 2 x v lo hi = x + v from rfl]
    have hm := W3.out (x + v)
    have hb := W1.out (x + v)
    have wa := wr64 (x + v) (by omega) (by omega)
    generalize wrp (x + v) = y at *
    have wb := wr64 (y - (x + v)) (by omega) (by omega)
    go_enter Try.func52, Try.ntmps52
    go_wp2
    go_ret
    exact ⟨by simp [go_sem]; rw [← hS]; exact hm, rfl⟩
  · rw [show rawC 3 x v lo hi = x - v from rfl]
    have hm := W3.out (x - v)
    have hb := W1.out (x - v)
    have wa := wr64 (x - v) (by omega) (by omega)
    generalize wrp (x - v) = y at *
    have wb := wr64 (y - (x - v)) (by omega) (by omega)
    go_enter Try.func52, Try.ntmps52
    go_wp2
    go_ret
    exact ⟨by simp [go_sem]; rw [← hS]; exact hm, rfl⟩
  · rw [show rawC 4 x v lo hi = x * v from rfl]
    have hm := W3.out (x * v)
    have hb := W1.out (x * v)
    have wa := wr64 (x * v) (by omega) (by omega)
    generalize wrp (x * v) = y at *
    have wb := wr64 (y - (x * v)) (by omega) (by omega)
    go_enter Try.func52, Try.ntmps52
    go_wp2
    go_ret
    exact ⟨by simp [go_sem]; rw [← hS]; exact hm, rfl⟩
  · rw [show rawC 5 x v lo hi = x.tdiv v from rfl]
    have hv0 : v ≠ 0 := fun e => hz ⟨e, by simp⟩
    by_cases hl : x = lo ∧ v = -1
    · obtain ⟨rfl, rfl⟩ := hl
      rw [WL.out rfl]
      go_enter Try.func52, Try.ntmps52
      go_wp2
      go_ret
      exact ⟨by simp [go_sem], rfl⟩
    · rw [W2.out _ (WD.out hl)]
      have hb := WD.out hl
      have hR := rest_mod x v (by omega) (by omega) hv0
      have hd := tdiv_mod x v
      have mu2 := mul_in (x.tdiv v) v (by omega) (by omega)
      generalize hy : x.tdiv v = y at *
      have wa := wr64 (y * v) (by omega) (by omega)
      have wb := wr64 (x - y * v) (by omega) (by omega)
      rw [← hd] at hR
      clear hd hy
      have g1 : ((x == lo) && (v == -1)) = false := by
        rw [Bool.eq_false_iff]
        intro e
        simp at e
        exact hl e
      cases g2 : (x == lo) with
      | true =>
        have g3 : (v == -1) = false := by rw [g2] at g1; simpa using g1
        clear g1 hl
        go_enter Try.func52, Try.ntmps52
        go_wp2_with fail
        refine (hR _).mono ?_
        rintro e w1 ⟨rfl, rfl⟩
        go_wp2
        go_ret
        exact ⟨rfl, rfl⟩
      | false =>
        clear g1 hl
        go_enter Try.func52, Try.ntmps52
        go_wp2_with fail
        refine (hR _).mono ?_
        rintro e w1 ⟨rfl, rfl⟩
        go_wp2
        go_ret
        exact ⟨rfl, rfl⟩
  · rw [show rawC 6 x v lo hi = x.tmod v from rfl]
    have hv0 : v ≠ 0 := fun e => hz ⟨e, by simp⟩
    have hv0' : (v == 0) = false := by simpa using hv0
    have hm := tmod_in x v
    have hin : lo ≤ x.tmod v ∧ x.tmod v ≤ hi := by omega
    rw [W2.out _ hin]
    have hR := rest_mod x v (by omega) (by omega) hv0
    have hd : (x - x.tmod v).tmod v = 0 := by
      rw [← tdiv_mod x v, show x - (x - x.tdiv v * v) = x.tdiv v * v from by omega]
      exact Int.mul_tmod_left _ _
    have hvv : v ≠ 0 := hv0
    generalize x.tmod v = y at *
    have wb := wr64 (x - y) (by omega) (by omega)
    clear hm hv0
    go_enter Try.func52, Try.ntmps52
    go_wp2_with fail
    refine (hR _).mono ?_
    rintro e w1 ⟨rfl, rfl⟩
    go_wp2
    go_ret
    exact ⟨rfl, rfl⟩
  · rw [show rawC 7 x v lo hi = clampI (x + v) lo hi from rfl]
    have hin : lo ≤ clampI (x + v) lo hi ∧ clampI (x + v) lo hi ≤ hi := by unfold clampI; split; omega; split <;> omega
    rw [W2.out _ hin]
    clear hin
    have wc := wr64 (x + v) (by omega) (by omega)
    have wa := wr64 (x + v) (by omega) (by omega)
    unfold clampI
    by_cases l1 : x + v < lo
    · rw [if_pos l1]
      go_enter Try.func52, Try.ntmps52
      go_wp2
      go_ret
      exact ⟨by simp [go_sem], rfl⟩
    · rw [if_neg l1]
      by_cases l2 : hi < x + v
      · rw [if_pos l2]
        go_enter Try.func52, Try.ntmps52
        go_wp2
        go_ret
        exact ⟨by simp [go_sem], rfl⟩
      · rw [if_neg l2]
        go_enter Try.func52, Try.ntmps52
        go_wp2
        go_ret
        exact ⟨by simp [go_sem], rfl⟩
  · rw [show rawC 8 x v lo hi = clampI (x - v) lo hi from rfl]
    have hin : lo ≤ clampI (x - v) lo hi ∧ clampI (x - v) lo hi ≤ hi := by unfold clampI; split; omega; split <;> omega
    rw [W2.out _ hin]
    clear hin
    have wc := wr64 (x + v) (by omega) (by omega)
    have wa := wr64 (x - v) (by omega) (by omega)
    unfold clampI
    by_cases l1 : x - v < lo
    · rw [if_pos l1]
      go_enter Try.func52, Try.ntmps52
      go_wp2
      go_ret
      exact ⟨by simp [go_sem], rfl⟩
    · rw [if_neg l1]
      by_cases l2 : hi < x - v
      · rw [if_pos l2]
        go_enter Try.func52, Try.ntmps52
        go_wp2
        go_ret
        exact ⟨by simp [go_sem], rfl⟩
      · rw [if_neg l2]
        go_enter Try.func52, Try.ntmps52
        go_wp2
        go_ret
        exact ⟨by simp [go_sem], rfl⟩
theorem div_lim (x v lo hi : Int) (bx : lo ≤ x ∧ x ≤ hi) (hl : lo = -(hi + 1) ∨ lo = 0) (bh : 0 < hi) (bv : lo ≤ v) (hn : ¬ (x = lo ∧ v = -1)) : lo ≤ x.tdiv v ∧ x.tdiv v ≤ hi := by
  have h1 : (x.tdiv v).natAbs = x.natAbs / v.natAbs := Int.natAbs_tdiv x v
  have h2 := Nat.div_le_self x.natAbs v.natAbs
  by_cases hx : 0 ≤ x
  · rcases hl with e | e
    · omega
    · have h3 := Int.tdiv_nonneg hx (show 0 ≤ v by omega)
      omega
  · rcases hl with e | e
    · by_cases hv : v = -1
      · subst hv
        rw [Int.tdiv_neg, Int.tdiv_one]
        omega
      · by_cases hv1 : 0 ≤ v
        · have h3 : x.tdiv v ≤ 0 := by
            have := Int.tdiv_nonneg (show 0 ≤ -x by omega) hv1
            rw [Int.neg_tdiv] at this
            omega
          omega
        · have h4 : x.natAbs / v.natAbs ≤ x.natAbs / 2 := Nat.div_le_div_left (by omega) (by decide)
          omega
    · omega
theorem modS (n S m : Int) (h : ∃ k, m = n + k * S) : (m - n).tmod S = 0 := by
  obtain ⟨k, rfl⟩ := h
  rw [show n + k * S - n = k * S from by omega]
  exact Int.mul_tmod_left _ _
theorem worked8 (op x v : Int) (bx : -128 ≤ x ∧ x ≤ 127) (bv : -128 ≤ v ∧ v ≤ 127) (h1 : 1 ≤ op) (h8 : op ≤ 8) (hz : ¬ (v = 0 ∧ (op = 5 ∨ op = 6))) (w : World) :
    Calls Try.prog 52 #[I op, I x, I v, I (t8 (rawC op x v (-128) 127)), I (-128), I 127] w fun e w' => e = .returned (.bool true) ∧ w' = w :=
  worked_gen (-128) 127 256 op x v t8 (by omega) (by omega) (by omega) bx bv h1 h8 hz t8_in t8_id (fun n => modS n 256 _ ⟨-((n + 128) / 256), by unfold t8; omega⟩) (div_lim x v (-128) 127 bx (by omega) (by omega) bv.1) (by rintro rfl; decide) w
theorem worked16 (op x v : Int) (bx : -32768 ≤ x ∧ x ≤ 32767) (bv : -32768 ≤ v ∧ v ≤ 32767) (h1 : 1 ≤ op) (h8 : op ≤ 8) (hz : ¬ (v = 0 ∧ (op = 5 ∨ op = 6))) (w : World) :
    Calls Try.prog 52 #[I op, I x, I v, I (t16 (rawC op x v (-32768) 32767)), I (-32768), I 32767] w fun e w' => e = .returned (.bool true) ∧ w' = w :=
  worked_gen (-32768) 32767 65536 op x v t16 (by omega) (by omega) (by omega) bx bv h1 h8 hz t16_in t16_id (fun n => modS n 65536 _ ⟨-((n + 32768) / 65536), by unfold t16; omega⟩) (div_lim x v (-32768) 32767 bx (by omega) (by omega) bv.1) (by rintro rfl; decide) w
theorem workedU (op x v : Int) (bx : 0 ≤ x ∧ x ≤ 65535) (bv : 0 ≤ v ∧ v ≤ 65535) (h1 : 1 ≤ op) (h8 : op ≤ 8) (hz : ¬ (v = 0 ∧ (op = 5 ∨ op = 6))) (w : World) :
    Calls Try.prog 52 #[I op, I x, I v, I (tU (rawC op x v 0 65535)), I 0, I 65535] w fun e w' => e = .returned (.bool true) ∧ w' = w :=
  worked_gen 0 65535 65536 op x v tU (by omega) (by omega) (by omega) bx bv h1 h8 hz tU_in tU_id (fun n => modS n 65536 _ ⟨-(n / 65536), by unfold tU; omega⟩) (div_lim x v 0 65535 bx (by omega) (by omega) bv.1) (by rintro rfl; omega) w
end Go.Proofs.Qxb6500469a
