import Derived.Test.Qxb6500469aWd3
namespace Go.Proofs.Qxb6500469a
open Go.RowKit

/-! ### the three numbers -/
def t8 (n : Int) : Int := (n + 128) % 256 - 128
def t16 (n : Int) : Int := (n + 32768) % 65536 - 32768
def tU (n : Int) : Int := n % 65536
def clampI (n lo hi : Int) : Int := if n < lo then lo else if hi < n then hi else n
def rawC (op x v lo hi : Int) : Int := if op = 1 then v else if op = 2 then x + v else if op = 3 then x - v else if op = 4 then x * v else if op = 5 then x.tdiv v else if op = 6 then x.tmod v else if op = 7 then clampI (x + v) lo hi else clampI (x - v) lo hi
theorem t8_in (n : Int) : -128 ≤ t8 n ∧ t8 n ≤ 127 := by unfold t8; omega
theorem t16_in (n : Int) : -32768 ≤ t16 n ∧ t16 n ≤ 32767 := by unfold t16; omega
theorem tU_in (n : Int) : 0 ≤ tU n ∧ tU n ≤ 65535 := by unfold tU; omega
theorem t8_id (n : Int) (h : -128 ≤ n ∧ n ≤ 127) : t8 n = n := by unfold t8; omega
theorem t16_id (n : Int) (h : -32768 ≤ n ∧ n ≤ 32767) : t16 n = n := by unfold t16; omega
theorem tU_id (n : Int) (h : 0 ≤ n ∧ n ≤ 65535) : tU n = n := by unfold tU; omega
theorem k8 (n : Int) : IntKind.i8.wrap n = t8 n := wr_i8 n
theorem k16 (n : Int) : IntKind.i16.wrap n = t16 n := wr_i16 n
theorem kU (n : Int) : IntKind.u16.wrap n = tU n := by rw [IntKind.wrap_u16]; rfl
theorem tmod_in (a v : Int) : (0 ≤ a → 0 ≤ a.tmod v ∧ a.tmod v ≤ a) ∧ (a ≤ 0 → a ≤ a.tmod v ∧ a.tmod v ≤ 0) := by
  have h1 : ∀ b : Int, 0 ≤ b → 0 ≤ b.tmod v ∧ b.tmod v ≤ b := by
    intro b hb
    have h2 := Int.tmod_nonneg v hb
    have h3 := Int.natAbs_tmod b v
    have h4 := Nat.mod_le b.natAbs v.natAbs
    omega
  refine ⟨h1 a, fun ha => ?_⟩
  have h2 := h1 (-a) (by omega)
  rw [Int.neg_tmod] at h2
  omega
theorem BdR.set1 {w : World} {b u : Nat} {a p q : Int} (h : BdR w b u a p q) (x : Int) (hx : -128 ≤ x ∧ x ≤ 127) : BdR (w.setCell ⟨b, 1, none⟩ (.int .i8 x)) b u x p q := ⟨h.head.set (i := 1) (.int .i8 x), h.hu, hx, h.hp, h.hq⟩
theorem BdR.set2 {w : World} {b u : Nat} {a p q : Int} (h : BdR w b u a p q) (x : Int) (hx : -32768 ≤ x ∧ x ≤ 32767) : BdR (w.setCell ⟨b, 2, none⟩ (.int .i16 x)) b u a x q := ⟨h.head.set (i := 2) (.int .i16 x), h.hu, h.ha, hx, h.hq⟩
theorem BdR.set3 {w : World} {b u : Nat} {a p q : Int} (h : BdR w b u a p q) (x : Int) (hx : 0 ≤ x ∧ x ≤ 65535) : BdR (w.setCell ⟨b, 3, none⟩ (.int .u16 x)) b u a p x := ⟨h.head.set (i := 3) (.int .u16 x), h.hu, h.ha, h.hp, hx⟩

set_option maxHeartbeats 1000000 in
theorem regs_any (w : World) (b u : Nat) (a p q : Int) (h : BdR w b u a p q) : Calls Try.prog 28 #[ptr b] w fun e w' => e = .returned (.tuple #[I a, I p, I q]) ∧ Below w.heap.size w w' := by
  obtain ⟨c0, c1, c2, c3⟩ := h.cells
  have ha := h.ha
  have hp := h.hp
  have hq := h.hq
  have w1 := wr64 a (by omega) (by omega)
  have w2 := wr64 p (by omega) (by omega)
  have w3 := wr64 q (by omega) (by omega)
  clear h ha hp hq
  go_enter Try.func28, Try.ntmps28
  go_wp2_with fail
  go_region
  go_wp2
  refine bodyPost_ret (v := .tuple #[I a, I p, I q]) (by simp [results, Try.results28, go_sem]) rfl ⟨rfl, (Below.refl _ _).drew⟩
def regAt (r a p q : Int) : Int := if r = 0 then a else if r = 1 then p else if r = 2 then q else 0
def sgnI (x : Int) : Int := if 0 < x then 1 else if x < 0 then -1 else 0
set_option maxHeartbeats 2000000 in
theorem sign_any (w : World) (b u : Nat) (a p q : Int) (h : BdR w b u a p q) (r : Int) : Calls Try.prog 43 #[ptr b, I r] w fun e w' => e = .returned (I (sgnI (regAt r a p q))) ∧ Below w.heap.size w w' := by
  have hR := regs_any w b u a p q h
  unfold regAt
  by_cases r0 : r = 0
  · subst r0
    rw [if_pos rfl]
    unfold sgnI
    by_cases s1 : 0 < a
    · rw [if_pos s1]
      go_enter Try.func43, Try.ntmps43
      go_wp2_with fail
      refine hR.mono ?_
      rintro e w1 ⟨rfl, b1⟩
      go_wp2
      go_ret
      exact ⟨rfl, b1⟩
    · rw [if_neg s1]
      by_cases s2 : a < 0
      · rw [if_pos s2]
        go_enter Try.func43, Try.ntmps43
        go_wp2_with fail
        refine hR.mono ?_
        rintro e w1 ⟨rfl, b1⟩
        go_wp2
        go_ret
        exact ⟨rfl, b1⟩
      · rw [if_neg s2]
        go_enter Try.func43, Try.ntmps43
        go_wp2_with fail
        refine hR.mono ?_
        rintro e w1 ⟨rfl, b1⟩
        go_wp2
        go_ret
        exact ⟨rfl, b1⟩
  by_cases r1 : r = 1
  · subst r1
    rw [if_neg (by decide), if_pos rfl]
    unfold sgnI
    by_cases s1 : 0 < p
    · rw [if_pos s1]
      go_enter Try.func43, Try.ntmps43
      go_wp2_with fail
      refine hR.mono ?_
      rintro e w1 ⟨rfl, b1⟩
      go_wp2
      go_ret
      exact ⟨rfl, b1⟩
    · rw [if_neg s1]
      by_cases s2 : p < 0
      · rw [if_pos s2]
        go_enter Try.func43, Try.ntmps43
        go_wp2_with fail
        refine hR.mono ?_
        rintro e w1 ⟨rfl, b1⟩
        go_wp2
        go_ret
        exact ⟨rfl, b1⟩
      · rw [if_neg s2]
        go_enter Try.func43, Try.ntmps43
        go_wp2_with fail
        refine hR.mono ?_
        rintro e w1 ⟨rfl, b1⟩
        go_wp2
        go_ret
        exact ⟨rfl, b1⟩
  by_cases r2 : r = 2
  · subst r2
    rw [if_neg (by decide), if_neg (by decide), if_pos rfl]
    unfold sgnI
    by_cases s1 : 0 < q
    · rw [if_pos s1]
      go_enter Try.func43, Try.ntmps43
      go_wp2_with fail
      refine hR.mono ?_
      rintro e w1 ⟨rfl, b1⟩
      go_wp2
      go_ret
      exact ⟨rfl, b1⟩
    · rw [if_neg s1]
      by_cases s2 : q < 0
      · rw [if_pos s2]
        go_enter Try.func43, Try.ntmps43
        go_wp2_with fail
        refine hR.mono ?_
        rintro e w1 ⟨rfl, b1⟩
        go_wp2
        go_ret
        exact ⟨rfl, b1⟩
      · rw [if_neg s2]
        go_enter Try.func43, Try.ntmps43
        go_wp2_with fail
        refine hR.mono ?_
        rintro e w1 ⟨rfl, b1⟩
        go_wp2
        go_ret
        exact ⟨rfl, b1⟩
  rw [if_neg r0, if_neg r1, if_neg r2]
  have e0 : (r == 0) = false := by simpa using r0
  have e1 : (r == 1) = false := by simpa using r1
  have e2 : (r == 2) = false := by simpa using r2
  clear r0 r1 r2
  go_enter Try.func43, Try.ntmps43
  go_wp2
  go_ret
  exact ⟨rfl, Below.refl _ _⟩
set_option maxHeartbeats 1000000 in
theorem held_any (n lo hi : Int) (w : World) : Calls Try.prog 82 #[I n, I lo, I hi] w fun e w' => e = .returned (I (clampI n lo hi)) ∧ w' = w := by
  unfold clampI
  by_cases h1 : n < lo
  · rw [if_pos h1]
    go_enter Try.func82, Try.ntmps82
    go_wp2
    go_ret
    exact ⟨rfl, rfl⟩
  · rw [if_neg h1]
    by_cases h2 : hi < n
    · rw [if_pos h2]
      go_enter Try.func82, Try.ntmps82
      go_wp2
      go_ret
      exact ⟨rfl, rfl⟩
    · rw [if_neg h2]
      go_enter Try.func82, Try.ntmps82
      go_wp2
      go_ret
      exact ⟨rfl, rfl⟩
end Go.Proofs.Qxb6500469a
