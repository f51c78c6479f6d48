import Derived.Test.Qxb6500469aWm7
namespace Go.Proofs.Qxb6500469a
open Go.RowKit

set_option maxHeartbeats 1000000 in
theorem into8 (v : Int) (w : World) : Calls Try.prog 51 #[I v, I (-128), I 127] w fun e w' => e = .returned (I (t8 v)) ∧ w' = w := by
  obtain ⟨r, hr⟩ : ∃ r, r = v.tmod 256 := ⟨_, rfl⟩
  have hc := tmod_cases v 256
  rw [← hr] at hc
  have hr1 : -255 ≤ r ∧ r ≤ 255 := by omega
  have hr2 : t8 v = (if r < (-128) then r + 256 else if 127 < r then r - 256 else r) := by
    unfold t8
    split
    · omega
    · split <;> omega
  rw [hr2]
  have e1 : v.tmod 256 = r := hr.symm
  by_cases h1 : r < (-128)
  · rw [if_pos h1]
    have w1 := wr64 (r + 256) (by omega) (by omega)
    have h2 : ¬ (127 : Int) < r + 256 := by omega
    clear hr hr2 hc
    go_enter Try.func51, Try.ntmps51
    go_wp2
    go_ret
    exact ⟨rfl, rfl⟩
  · rw [if_neg h1]
    by_cases h2 : 127 < r
    · rw [if_pos h2]
      have w1 := wr64 (r - 256) (by omega) (by omega)
      clear hr hr2 hc
      go_enter Try.func51, Try.ntmps51
      go_wp2
      go_ret
      exact ⟨rfl, rfl⟩
    · rw [if_neg h2]
      clear hr hr2 hc
      go_enter Try.func51, Try.ntmps51
      go_wp2
      go_ret
      exact ⟨rfl, rfl⟩
set_option maxHeartbeats 1000000 in
theorem into16 (v : Int) (w : World) : Calls Try.prog 51 #[I v, I (-32768), I 32767] w fun e w' => e = .returned (I (t16 v)) ∧ w' = w := by
  obtain ⟨r, hr⟩ : ∃ r, r = v.tmod 65536 := ⟨_, rfl⟩
  have hc := tmod_cases v 65536
  rw [← hr] at hc
  have hr1 : -65535 ≤ r ∧ r ≤ 65535 := by omega
  have hr2 : t16 v = (if r < (-32768) then r + 65536 else if 32767 < r then r - 65536 else r) := by
    unfold t16
    split
    · omega
    · split <;> omega
  rw [hr2]
  have e1 : v.tmod 65536 = r := hr.symm
  by_cases h1 : r < (-32768)
  · rw [if_pos h1]
    have w1 := wr64 (r + 65536) (by omega) (by omega)
    have h2 : ¬ (32767 : Int) < r + 65536 := by omega
    clear hr hr2 hc
    go_enter Try.func51, Try.ntmps51
    go_wp2
    go_ret
    exact ⟨rfl, rfl⟩
  · rw [if_neg h1]
    by_cases h2 : 32767 < r
    · rw [if_pos h2]
      have w1 := wr64 (r - 65536) (by omega) (by omega)
      clear hr hr2 hc
      go_enter Try.func51, Try.ntmps51
      go_wp2
      go_ret
      exact ⟨rfl, rfl⟩
    · rw [if_neg h2]
      clear hr hr2 hc
      go_enter Try.func51, Try.ntmps51
      go_wp2
      go_ret
      exact ⟨rfl, rfl⟩
set_option maxHeartbeats 1000000 in
theorem intoU (v : Int) (w : World) : Calls Try.prog 51 #[I v, I 0, I 65535] w fun e w' => e = .returned (I (tU v)) ∧ w' = w := by
  obtain ⟨r, hr⟩ : ∃ r, r = v.tmod 65536 := ⟨_, rfl⟩
  have hc := tmod_cases v 65536
  rw [← hr] at hc
  have hr1 : -65535 ≤ r ∧ r ≤ 65535 := by omega
  have hr2 : tU v = (if r < 0 then r + 65536 else if 65535 < r then r - 65536 else r) := by
    unfold tU
    split
    · omega
    · split <;> omega
  rw [hr2]
  have e1 : v.tmod 65536 = r := hr.symm
  by_cases h1 : r < 0
  · rw [if_pos h1]
    have w1 := wr64 (r + 65536) (by omega) (by omega)
    have h2 : ¬ (65535 : Int) < r + 65536 := by omega
    clear hr hr2 hc
    go_enter Try.func51, Try.ntmps51
    go_wp2
    go_ret
    exact ⟨rfl, rfl⟩
  · rw [if_neg h1]
    by_cases h2 : 65535 < r
    · rw [if_pos h2]
      have w1 := wr64 (r - 65536) (by omega) (by omega)
      clear hr hr2 hc
      go_enter Try.func51, Try.ntmps51
      go_wp2
      go_ret
      exact ⟨rfl, rfl⟩
    · rw [if_neg h2]
      clear hr hr2 hc
      go_enter Try.func51, Try.ntmps51
      go_wp2
      go_ret
      exact ⟨rfl, rfl⟩
set_option maxHeartbeats 1000000 in
theorem sgn_any (x : Int) (w : World) : Calls Try.prog 53 #[I x] w fun e w' => e = .returned (I (sgnI x)) ∧ w' = w := by
  unfold sgnI
  by_cases s1 : 0 < x
  · rw [if_pos s1]
    go_enter Try.func53, Try.ntmps53
    go_wp2
    go_ret
    exact ⟨rfl, rfl⟩
  · rw [if_neg s1]
    by_cases s2 : x < 0
    · rw [if_pos s2]
      go_enter Try.func53, Try.ntmps53
      go_wp2
      go_ret
      exact ⟨rfl, rfl⟩
    · rw [if_neg s2]
      go_enter Try.func53, Try.ntmps53
      go_wp2
      go_ret
      exact ⟨rfl, rfl⟩
set_option maxHeartbeats 2000000 in
theorem rest_any (r v x : Int) (br : -65536 ≤ r ∧ r ≤ 65536) (bv : -65536 ≤ v ∧ v ≤ 65536) (h1 : r < 0 → x < 0) (h2 : 0 < r → 0 < x) (h3 : r.natAbs < v.natAbs) (w : World) : Calls Try.prog 62 #[I r, I v, I x] w fun e w' => e = .returned (.bool true) ∧ w' = w := by
  have w1 := wr64 (-r) (by omega) (by omega)
  have w2 := wr64 (-v) (by omega) (by omega)
  by_cases r0 : r < 0
  · have x0 : ¬ 0 ≤ x := by have := h1 r0; omega
    have r1 : ¬ 0 < r := by omega
    by_cases v0 : v < 0
    · have hf : -r < -v := by omega
      clear h1 h2 h3
      go_enter Try.func62, Try.ntmps62
      go_wp2
      go_ret
      exact ⟨by simp [go_sem], rfl⟩
    · have hf : -r < v := by omega
      clear h1 h2 h3
      go_enter Try.func62, Try.ntmps62
      go_wp2
      go_ret
      exact ⟨by simp [go_sem], rfl⟩
  · by_cases r1 : 0 < r
    · have x0 : ¬ x ≤ 0 := by have := h2 r1; omega
      by_cases v0 : v < 0
      · have hf : r < -v := by omega
        clear h1 h2 h3
        go_enter Try.func62, Try.ntmps62
        go_wp2
        go_ret
        exact ⟨by simp [go_sem], rfl⟩
      · have hf : r < v := by omega
        clear h1 h2 h3
        go_enter Try.func62, Try.ntmps62
        go_wp2
        go_ret
        exact ⟨by simp [go_sem], rfl⟩
    · obtain rfl : r = 0 := by omega
      by_cases v0 : v < 0
      · have hf : (0 : Int) < -v := by omega
        clear h1 h2 h3
        go_enter Try.func62, Try.ntmps62
        go_wp2
        go_ret
        exact ⟨by simp [go_sem], rfl⟩
      · have hf : (0 : Int) < v := by omega
        clear h1 h2 h3
        go_enter Try.func62, Try.ntmps62
        go_wp2
        go_ret
        exact ⟨by simp [go_sem], rfl⟩
theorem rest_mod (x v : Int) (bx : -65536 ≤ x ∧ x ≤ 65536) (bv : -65536 ≤ v ∧ v ≤ 65536) (hv : v ≠ 0) (w : World) : Calls Try.prog 62 #[I (x.tmod v), I v, I x] w fun e w' => e = .returned (.bool true) ∧ w' = w := by
  have h := tmod_in x v
  have h3 : (x.tmod v).natAbs < v.natAbs := by rw [Int.natAbs_tmod]; exact Nat.mod_lt _ (by omega)
  have hz : x = 0 → x.tmod v = 0 := by rintro rfl; exact Int.zero_tmod _
  exact rest_any _ _ _ (by omega) bv (by omega) (by omega) h3 w
set_option maxHeartbeats 1000000 in
theorem nums_any (w : World) (b u : Nat) (a p q : Int) (h : BdR w b u a p q) : Calls Try.prog 18 #[ptr b] w fun e w' => e = .returned (.agg #[I a, I p, I q]) ∧ Below w.heap.size w w' := by
  have b0 := ((Below.refl w.heap.size w).alloc (Nat.le_refl _) (.cells #[I 0, I 0, I 0] 36)).alloc (by simp) (.cells #[I 0, I 0, I 0] 36)
  have BR : Blk ((w.alloc (.cells #[I 0, I 0, I 0] 36)).alloc (.cells #[I 0, I 0, I 0] 36)) w.heap.size #[I 0, I 0, I 0] 36 := (Blk.new rfl).old _
  have BH : Blk ((w.alloc (.cells #[I 0, I 0, I 0] 36)).alloc (.cells #[I 0, I 0, I 0] 36)) (w.heap.size + 1) #[I 0, I 0, I 0] 36 := Blk.new (by simp)
  have hR := regs_any _ b u a p q (h.later b0)
  go_enter Try.func18, Try.ntmps18
  go_wp2_with fail
  refine hR.mono ?_
  rintro e w1 ⟨rfl, b1⟩
  have BR1 := BR.below b1 BR.lt
  have BH1 := BH.below b1 BH.lt
  have bb1 := b0.trans (b1.mono b0.size)
  clear hR BR BH b0 b1
  obtain ⟨c0, c1, c2⟩ := BH1.facts
  obtain ⟨r0, r1, r2⟩ := BR1.facts
  go_wp2
  have hne : w.heap.size ≠ w.heap.size + 1 := by omega
  have BRF := (((((BR1.other (a := ⟨w.heap.size + 1, 0, none⟩) hne (I a)).other (a := ⟨w.heap.size + 1, 1, none⟩) hne (I p)).other (a := ⟨w.heap.size + 1, 2, none⟩) hne (I q)).set (i := 0) (I a)).set (i := 1) (I p)).set (i := 2) (I q)
  exact ret_row Try.results18 rfl rfl BRF Try.underlying36 rfl (by kernel_rfl) ⟨rfl, (((((bb1.setCell (by simp) _).setCell (by simp) _).setCell (by simp) _).setCell (Nat.le_refl _) _).setCell (Nat.le_refl _) _).setCell (Nat.le_refl _) _⟩
set_option maxHeartbeats 2000000 in
theorem dueCalc_any (r op v a p q : Int) (w : World) : Calls Try.prog 49 #[I r, I op, I v] w fun e w' => e = .returned (I (calcP r op v a p q).1) ∧ w' = w := by
  unfold calcP
  by_cases r1 : r < 0
  · rw [if_pos (.inl r1)]
    go_enter Try.func49, Try.ntmps49
    go_wp2
    go_ret
    exact ⟨rfl, rfl⟩
  by_cases r2 : 3 ≤ r
  · rw [if_pos (.inr r2)]
    go_enter Try.func49, Try.ntmps49
    go_wp2
    go_ret
    exact ⟨rfl, rfl⟩
  rw [if_neg (by omega)]
  by_cases o1 : op < 1
  · rw [if_pos (.inl o1)]
    go_enter Try.func49, Try.ntmps49
    go_wp2
    go_ret
    exact ⟨rfl, rfl⟩
  by_cases o2 : 8 < op
  · rw [if_pos (.inr o2)]
    go_enter Try.func49, Try.ntmps49
    go_wp2
    go_ret
    exact ⟨rfl, rfl⟩
  rw [if_neg (by omega)]
  have hr3 : r = 0 ∨ r = 1 ∨ r = 2 := by omega
  clear r1 r2
  rcases hr3 with rfl | rfl | rfl
  · rw [if_pos rfl]
    have hE := ends_any 0 w
    rw [show loR 0 = (-128) from rfl, show hiR 0 = 127 from rfl] at hE
    have hI := into8 v w
    generalize t8 v = z at *
    by_cases p5 : op = 5
    · subst p5
      by_cases z0 : z = 0
      · rw [if_pos ⟨z0, by simp⟩]
        subst z0
        go_enter Try.func49, Try.ntmps49
        go_wp2_with fail
        refine hE.mono ?_
        rintro e w1 ⟨rfl, rfl⟩
        go_wp2_with fail
        refine hI.mono ?_
        rintro e w1 ⟨rfl, rfl⟩
        go_wp2
        go_ret
        exact ⟨rfl, rfl⟩
      · rw [if_neg (fun e => z0 e.1)]
        have z0b : (z == 0) = false := by simpa using z0
        go_enter Try.func49, Try.ntmps49
        go_wp2_with fail
        refine hE.mono ?_
        rintro e w1 ⟨rfl, rfl⟩
        go_wp2_with fail
        refine hI.mono ?_
        rintro e w1 ⟨rfl, rfl⟩
        go_wp2
        go_ret
        exact ⟨rfl, rfl⟩
    by_cases p6 : op = 6
    · subst p6
      by_cases z0 : z = 0
      · rw [if_pos ⟨z0, by simp⟩]
        subst z0
        go_enter Try.func49, Try.ntmps49
        go_wp2_with fail
        refine hE.mono ?_
        rintro e w1 ⟨rfl, rfl⟩
        go_wp2_with fail
        refine hI.mono ?_
        rintro e w1 ⟨rfl, rfl⟩
        go_wp2
        go_ret
        exact ⟨rfl, rfl⟩
      · rw [if_neg (fun e => z0 e.1)]
        have z0b : (z == 0) = false := by simpa using z0
        go_enter Try.func49, Try.ntmps49
        go_wp2_with fail
        refine hE.mono ?_
        rintro e w1 ⟨rfl, rfl⟩
        go_wp2_with fail
        refine hI.mono ?_
        rintro e w1 ⟨rfl, rfl⟩
        go_wp2
        go_ret
        exact ⟨rfl, rfl⟩
    rw [if_neg (by omega)]
    have e5 : (op == 5) = false := by simpa using p5
    have e6 : (op == 6) = false := by simpa using p6
    clear p5 p6
    go_enter Try.func49, Try.ntmps49
    go_wp2_with fail
    refine hE.mono ?_
    rintro e w1 ⟨rfl, rfl⟩
    go_wp2
    go_ret
    exact ⟨rfl, rfl⟩
  · rw [if_neg (by decide), if_pos rfl]
    have hE := ends_any 1 w
    rw [show loR 1 = (-32768) from rfl, show hiR 1 = 32767 from rfl] at hE
    have hI := into16 v w
    generalize t16 v = z at *
    by_cases p5 : op = 5
    · subst p5
      by_cases z0 : z = 0
      · rw [if_pos ⟨z0, by simp⟩]
        subst z0
        go_enter Try.func49, Try.ntmps49
        go_wp2_with fail
        refine hE.mono ?_
        rintro e w1 ⟨rfl, rfl⟩
        go_wp2_with fail
        refine hI.mono ?_
        rintro e w1 ⟨rfl, rfl⟩
        go_wp2
        go_ret
        exact ⟨rfl, rfl⟩
      · rw [if_neg (fun e => z0 e.1)]
        have z0b : (z == 0) = false := by simpa using z0
        go_enter Try.func49, Try.ntmps49
        go_wp2_with fail
        refine hE.mono ?_
        rintro e w1 ⟨rfl, rfl⟩
        go_wp2_with fail
        refine hI.mono ?_
        rintro e w1 ⟨rfl, rfl⟩
        go_wp2
        go_ret
        exact ⟨rfl, rfl⟩
    by_cases p6 : op = 6
    · subst p6
      by_cases z0 : z = 0
      · rw [if_pos ⟨z0, by simp⟩]
        subst z0
        go_enter Try.func49, Try.ntmps49
        go_wp2_with fail
        refine hE.mono ?_
        rintro e w1 ⟨rfl, rfl⟩
        go_wp2_with fail
        refine hI.mono ?_
        rintro e w1 ⟨rfl, rfl⟩
        go_wp2
        go_ret
        exact ⟨rfl, rfl⟩
      · rw [if_neg (fun e => z0 e.1)]
        have z0b : (z == 0) = false := by simpa using z0
        go_enter Try.func49, Try.ntmps49
        go_wp2_with fail
        refine hE.mono ?_
        rintro e w1 ⟨rfl, rfl⟩
        go_wp2_with fail
        refine hI.mono ?_
        rintro e w1 ⟨rfl, rfl⟩
        go_wp2
        go_ret
        exact ⟨rfl, rfl⟩
    rw [if_neg (by omega)]
    have e5 : (op == 5) = false := by simpa using p5
    have e6 : (op == 6) = false := by simpa using p6
    clear p5 p6
    go_enter Try.func49, Try.ntmps49
    go_wp2_with fail
    refine hE.mono ?_
    rintro e w1 ⟨rfl, rfl⟩
    go_wp2
    go_ret
    exact ⟨rfl, rfl⟩
  · rw [if_neg (by decide), if_neg (by decide)]
    have hE := ends_any 2 w
    rw [show loR 2 = 0 from rfl, show hiR 2 = 65535 from rfl] at hE
    have hI := intoU v w
    generalize tU v = z at *
    by_cases p5 : op = 5
    · subst p5
      by_cases z0 : z = 0
      · rw [if_pos ⟨z0, by simp⟩]
        subst z0
        go_enter Try.func49, Try.ntmps49
        go_wp2_with fail
        refine hE.mono ?_
        rintro e w1 ⟨rfl, rfl⟩
        go_wp2_with fail
        refine hI.mono ?_
        rintro e w1 ⟨rfl, rfl⟩
        go_wp2
        go_ret
        exact ⟨rfl, rfl⟩
      · rw [if_neg (fun e => z0 e.1)]
        have z0b : (z == 0) = false := by simpa using z0
        go_enter Try.func49, Try.ntmps49
        go_wp2_with fail
        refine hE.mono ?_
        rintro e w1 ⟨rfl, rfl⟩
        go_wp2_with fail
        refine hI.mono ?_
        rintro e w1 ⟨rfl, rfl⟩
        go_wp2
        go_ret
        exact ⟨rfl, rfl⟩
    by_cases p6 : op = 6
    · subst p6
      by_cases z0 : z = 0
      · rw [if_pos ⟨z0, by simp⟩]
        subst z0
        go_enter Try.func49, Try.ntmps49
        go_wp2_with fail
        refine hE.mono ?_
        rintro e w1 ⟨rfl, rfl⟩
        go_wp2_with fail
        refine hI.mono ?_
        rintro e w1 ⟨rfl, rfl⟩
        go_wp2
        go_ret
        exact ⟨rfl, rfl⟩
      · rw [if_neg (fun e => z0 e.1)]
        have z0b : (z == 0) = false := by simpa using z0
        go_enter Try.func49, Try.ntmps49
        go_wp2_with fail
        refine hE.mono ?_
        rintro e w1 ⟨rfl, rfl⟩
        go_wp2_with fail
        refine hI.mono ?_
        rintro e w1 ⟨rfl, rfl⟩
        go_wp2
        go_ret
        exact ⟨rfl, rfl⟩
    rw [if_neg (by omega)]
    have e5 : (op == 5) = false := by simpa using p5
    have e6 : (op == 6) = false := by simpa using p6
    clear p5 p6
    go_enter Try.func49, Try.ntmps49
    go_wp2_with fail
    refine hE.mono ?_
    rintro e w1 ⟨rfl, rfl⟩
    go_wp2
    go_ret
    exact ⟨rfl, rfl⟩
end Go.Proofs.Qxb6500469a
