import Derived.Test.Qxb6500472aBox2
namespace Go.Proofs.Qxb6500472a
open Go.RowKit
attribute [local go_sem] run_store_float drewN_alloc drewN_setCell
/-- 'int(float32(Grid) * f)' of a fraction f lies in 0 .. Grid. -/
def GridLaw : Prop := ∀ f, partIn f = true → ∃ k, gridI f = some k ∧ 0 ≤ k ∧ k ≤ 4
theorem partF_bd (hG : GridLaw) (a : Ax) (p : Nat) : 0 ≤ (partF a p).1 ∧ (partF a p).1 ≤ 3 := by
  unfold partF
  split
  · split
    · rename_i h
      obtain ⟨k, hk, h0, h4⟩ := hG _ h
      rw [hk]
      simp only [Option.getD_some]
      split <;> omega
    · simp
  · simp
theorem part_any' (hG : GridLaw) (a : Ax) (p : Nat) (w : World) :
    Calls Try.prog 31 #[a.v, D32 p] w fun e w' => e = .returned (.tuple #[I (partF a.can (can32 p)).1, .bool (partF a.can (can32 p)).2]) ∧ Below w.heap.size w w' :=
  part_any a p (fun _ h => by obtain ⟨k, hk, _⟩ := hG _ h; rw [hk]; rfl) w

/-- Cell's answer: on axes and coordinates all of whose NaNs are one. -/
def cellF (x y : Ax) (px py : Nat) : Int × Int :=
  if holdsF x px then
    if holdsF y py then
      if (partF x px).2 && (partF y py).2 then ((partF y py).1 * 4 + (partF x px).1, 0) else (0, 6)
    else (0, 5)
  else (0, 5)

set_option maxHeartbeats 2000000 in
theorem cell_key (hG : GridLaw) (w : World) (b px py n : Nat) (x y : Ax) (h : BoxR w b px py (n + 1) x y) (i j d : Int) (fi : fits32 (ratioF i d) = true) (fj : fits32 (ratioF j d) = true) (hn : n < 8)
    (K E : Int) (HK : Hid (cellF x.can y.can (coordF i d) (coordF j d) = (K, E))) :
    Calls Try.prog 13 #[ptr b, I i, I j, I d] w fun e w' => e = .returned (.tuple #[I K, I E]) ∧ Below w.heap.size w w' := by
  obtain ⟨c0, c1, c2, c3, c4, c5, c6, c7, c8, c9, c10, fz⟩ := h.cells
  go_enter Try.func13, Try.ntmps13
  go_wp2_with fail
  refine (coord_any i d fi _).mono ?_
  rintro e w1 ⟨p, m1, rfl, cp, rfl⟩
  go_wp2_with fail
  refine (coord_any j d fj _).mono ?_
  rintro e w1 ⟨q, m2, rfl, cq, rfl⟩
  go_wp2_with fail
  refine (holds_any x p _).mono ?_
  rintro e w1 ⟨rfl, hb1⟩
  rw [show can32 p = coordF i d from cp]
  have h1 : BoxR w1 b px py (n + 1) x y := Blk.below (w := w.drewN (m1 + m2)) h hb1 h.lt
  have bel1 : Below w.heap.size w w1 := (Below.drewN (Below.refl _ w) (m1 + m2)).trans hb1
  obtain ⟨d0, d1, d2, d3, d4, d5, d6, d7, d8, d9, d10, fz1⟩ := h1.cells
  clear c0 c1 c2 c3 c4 c5 c6 c7 c8 c9 c10 fz hb1
  have HE := HK.out
  clear HK
  unfold cellF at HE
  cases hx : holdsF x.can (coordF i d) with
  | false =>
    rw [hx] at HE
    simp only [Bool.false_eq_true, if_false, Prod.mk.injEq] at HE
    obtain ⟨rfl, rfl⟩ := HE
    go_wp2
    go_ret2
    exact ⟨rfl, bel1⟩
  | true =>
    rw [hx] at HE
    simp only [if_true] at HE
    have HE' : Hid _ := HE
    clear HE
    go_wp2_with fail
    refine (holds_any y q _).mono ?_
    rintro e w2 ⟨rfl, hb2⟩
    rw [show can32 q = coordF j d from cq]
    have h2 : BoxR w2 b px py (n + 1) x y := Blk.below h1 hb2 h1.lt
    have bel2 : Below w.heap.size w w2 := bel1.trans (hb2.mono bel1.size)
    clear d0 d1 d2 d3 d4 d5 d6 d7 d8 d9 d10 fz1 hb2 bel1
    obtain ⟨d0, d1, d2, d3, d4, d5, d6, d7, d8, d9, d10, fz1⟩ := h2.cells
    have HE := HE'.out
    clear HE'
    cases hy : holdsF y.can (coordF j d) with
    | false =>
      rw [hy] at HE
      simp only [Bool.false_eq_true, if_false, Prod.mk.injEq] at HE
      obtain ⟨rfl, rfl⟩ := HE
      go_wp2
      go_ret2
      exact ⟨rfl, bel2⟩
    | true =>
      rw [hy] at HE
      simp only [if_true] at HE
      have HE' : Hid _ := HE
      clear HE
      have bx := partF_bd hG x.can (coordF i d)
      have by' := partF_bd hG y.can (coordF j d)
      go_wp2_with fail
      refine (part_any' hG x p _).mono ?_
      rintro e w3 ⟨rfl, hb3⟩
      rw [show can32 p = coordF i d from cp]
      have h3 : BoxR w3 b px py (n + 1) x y := Blk.below h2 hb3 h2.lt
      have bel3 : Below w.heap.size w w3 := bel2.trans (hb3.mono bel2.size)
      clear d0 d1 d2 d3 d4 d5 d6 d7 d8 d9 d10 fz1 hb3 bel2
      obtain ⟨d0, d1, d2, d3, d4, d5, d6, d7, d8, d9, d10, fz1⟩ := h3.cells
      generalize partF x.can (coordF i d) = rx at *
      obtain ⟨kx, ox⟩ := rx
      go_wp2_with fail
      refine (part_any' hG y q _).mono ?_
      rintro e w4 ⟨rfl, hb4⟩
      rw [show can32 q = coordF j d from cq]
      have bel4 : Below w.heap.size w w4 := bel3.trans (hb4.mono bel3.size)
      clear d0 d1 d2 d3 d4 d5 d6 d7 d8 d9 d10 fz1 hb4 bel3
      generalize partF y.can (coordF j d) = ry at *
      obtain ⟨ky, oy⟩ := ry
      simp only at bx by'
      obtain ⟨bx0, bx1⟩ := bx
      obtain ⟨by0, by1⟩ := by'
      have HE := HE'.out
      clear HE'
      cases ox with
      | false =>
        simp only [Bool.false_and, Bool.false_eq_true, if_false, Prod.mk.injEq] at HE
        obtain ⟨rfl, rfl⟩ := HE
        go_wp2
        go_ret2
        exact ⟨rfl, bel4⟩
      | true =>
        cases oy with
        | false =>
          simp only [Bool.and_false, Bool.false_eq_true, if_false, Prod.mk.injEq] at HE
          obtain ⟨rfl, rfl⟩ := HE
          go_wp2
          go_ret2
          exact ⟨rfl, bel4⟩
        | true =>
          simp only [Bool.and_self, if_true, Prod.mk.injEq] at HE
          obtain ⟨hK, rfl⟩ := HE
          have HK : Hid _ := hK
          clear hK
          go_wp2
          go_ret2
          exact ⟨by rw [← HK.out]; rfl, bel4⟩
theorem cell_any (hG : GridLaw) (w : World) (b px py n : Nat) (x y : Ax) (h : BoxR w b px py (n + 1) x y) (i j d : Int) (fi : fits32 (ratioF i d) = true) (fj : fits32 (ratioF j d) = true) (hn : n < 8) :
    Calls Try.prog 13 #[ptr b, I i, I j, I d] w fun e w' => e = .returned (.tuple #[I (cellF x.can y.can (coordF i d) (coordF j d)).1, I (cellF x.can y.can (coordF i d) (coordF j d)).2]) ∧ Below w.heap.size w w' :=
  cell_key hG w b px py n x y h i j d fi fj hn _ _ rfl
end Go.Proofs.Qxb6500472a
