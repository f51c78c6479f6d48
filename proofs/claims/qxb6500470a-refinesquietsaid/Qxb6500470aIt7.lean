import Derived.Test.Qxb6500470aIt6
namespace Go.Proofs.Qxb6500470a
open Go.RowKit Go.Shelf
attribute [local go_sem] Oper.semAt_some
set_option maxRecDepth 100000 in
set_option maxHeartbeats 4000000 in
theorem find_pair (K : Nat → Prop) (w : World) (p : Nat) (us : List Value) (q0 : Nat) (av bv v : Value) (a b x : TV) (h : StR K w p (us ++ [.iface 89 (ptr q0), v])) (kq0 : K q0) (bq0 : Blk w q0 #[av, bv] 91) (ra : RV K w a av) (rb : RV K w b bv) (rx : RV K w x v) (ha : (text a).length ≤ 30) (hb : (text b).length ≤ 30) (hx : (text x).length ≤ 30) :
    Calls Try.prog 39 #[ptr p] w fun e w' => e = .returned (I 0) ∧ StR K w' p (us ++ [VI (findI (text x) [a, b] 0)]) ∧ Kept K w w' := by
  have hp1 := peek_some K w p _ h 1 (by simp)
  rw [getD_last2] at hp1
  have hp0 := peek_some K w p _ h 0 (by simp)
  rw [getD_last1] at hp0
  have ta : ∀ w, (Instr.typeAssert (.iface 89 (ptr q0)) 64 75 true).run Try.prog w = .ok (.tuple #[.iface 89 (ptr q0), .bool true]) w := fun w => run_typeAssert_hasB Try.underlying75 (by kernel_rfl) _ _ w
  have hmA := mAllP (some ⟨q0, 0, none⟩)
  obtain ⟨t1, u1, f1, v1, rfl, hm1, hcf, hc1⟩ := showD x K w v rx h.ks (by omega)
  obtain ⟨xa, hxa⟩ : ∃ xa : El K w, xa = ⟨(a, av), ra, ha⟩ := ⟨_, rfl⟩
  obtain ⟨xb, hxb⟩ : ∃ xb : El K w, xb = ⟨(b, bv), rb, hb⟩ := ⟨_, rfl⟩
  have bq1 : Blk w q0 #[encE xa, encE xb] 91 := by rw [hxa, hxb]; exact bq0
  obtain ⟨xs, hX⟩ : ∃ xs, [xa, xb] = xs := ⟨_, rfl⟩
  have hxs : xs.map tvE = [a, b] := by rw [← hX, hxa, hxb]; rfl
  have hxl : xs.length ≤ 30 := by rw [← hX]; simp
  have h5 : us.length < 5 := by
    have := h.le
    simp at this
    omega
  refine (callsIn_wide (n := 7)).1 ?_
  refine callsIn_of_wp_marks Try.func39 rfl trivial ?_ rfl
  simp only [Try.ntmps39, List.size_toArray, List.length_cons, List.length_nil, Nat.reduceAdd, Nat.reduceSub, Array.replicate_succ, Array.replicate_zero, List.push_toArray, List.append_toArray, List.nil_append, List.cons_append]
  gi_wp2_with fail
  refine ⟨trivial, (callsIn_wide.2 hp1).mono ?_⟩
  rintro e w0 ⟨rfl, hw0⟩
  rw [hw0]
  clear hw0 w0
  gi_wp2_with fail
  refine ⟨trivial, (callsIn_wide.2 hp0).mono ?_⟩
  rintro e w0 ⟨rfl, hw0⟩
  rw [hw0]
  clear hw0 w0
  gi_wp2_with fail
  refine ⟨trivial, (callsIn_wide.2 hc1).mono ?_⟩
  rintro e w1 ⟨rfl, b1⟩
  gi_wp2_with fail
  refine ⟨trivial, (callsIn_wide.2 (pAll (some ⟨q0, 0, none⟩) _)).mono ?_⟩
  rintro e w2 ⟨rfl, rfl⟩
  gi_wp2_with fail
  have BA : Below w1.heap.size w1 ((((w1.alloc (.cells #[S (text x)] 9)).alloc (.cells #[I (-1)] 3)).alloc (.cells #[I 0] 3)).alloc (.cells #[ptr q0] 89)) := ((((Below.refl _ _).alloc (Nat.le_refl _) _).alloc (by simp) _).alloc (by simp; omega) _).alloc (by simp; omega) _
  have B6 : Blk ((((w1.alloc (.cells #[S (text x)] 9)).alloc (.cells #[I (-1)] 3)).alloc (.cells #[I 0] 3)).alloc (.cells #[ptr q0] 89)) w1.heap.size #[S (text x)] 9 := (((Blk.new rfl : Blk (w1.alloc _) _ _ _).old _).old _).old _
  have B7 : Blk ((((w1.alloc (.cells #[S (text x)] 9)).alloc (.cells #[I (-1)] 3)).alloc (.cells #[I 0] 3)).alloc (.cells #[ptr q0] 89)) (w1.heap.size + 1) #[I (-1)] 3 := ((Blk.new (by simp) : Blk ((w1.alloc _).alloc _) _ _ _).old _).old _
  have B8 : Blk ((((w1.alloc (.cells #[S (text x)] 9)).alloc (.cells #[I (-1)] 3)).alloc (.cells #[I 0] 3)).alloc (.cells #[ptr q0] 89)) (w1.heap.size + 1 + 1) #[I 0] 3 := (Blk.new (by simp) : Blk (((w1.alloc _).alloc _).alloc _) _ _ _).old _
  have B9 : Blk ((((w1.alloc (.cells #[S (text x)] 9)).alloc (.cells #[I (-1)] 3)).alloc (.cells #[I 0] 3)).alloc (.cells #[ptr q0] 89)) (w1.heap.size + 1 + 1 + 1) #[ptr q0] 89 := Blk.new (by simp)
  have BW := b1.trans (BA.mono b1.size)
  have zw := b1.size
  have ksw := h.ks
  generalize ((((w1.alloc (.cells #[S (text x)] 9)).alloc (.cells #[I (-1)] 3)).alloc (.cells #[I 0] 3)).alloc (.cells #[ptr q0] 89)) = W0 at *
  generalize w1.heap.size = G at *
  clear BA hc1 hp0 hp1
  have lt9 := B9.lt
  have ks0 : ∀ k, K k → k < W0.heap.size := fun k hk => by have := ksw k hk; omega
  have ks1 : ∀ k, (K k ∨ k = G + 1 + 1 + 1) → k < W0.heap.size := by
    rintro k (hk | rfl)
    · exact ks0 k hk
    · exact lt9
  refine range_n 9 (by omega) (gf := 147) (lb := #[ptr (G + 1 + 1 + 1)]) rfl (enters_of Try.func147 (by kernel_rfl) rfl)
    (K := fun k => K k ∨ k = G + 1 + 1 + 1) (hX ▸ pair_seq encE (fun k => K k ∨ k = G + 1 + 1 + 1) (G + 1 + 1 + 1) q0 xa xb W0 6 (by omega) (.inr rfl) (B9.cell 0) ks1 (.inl kq0) (bq1.below BW bq1.lt)) ks1
    (fun pre W => Blk W G #[S (text x)] 9 ∧ Blk W (G + 1) #[I (-1)] 3 ∧ Blk W (G + 1 + 1) #[I (pre.length : Nat)] 3 ∧ Below w.heap.size w W ∧ W0.heap.size ≤ W.heap.size ∧ ∀ rest, findI (text x) (pre.map tvE ++ rest) 0 = findI (text x) rest pre.length)
    (fun cd pre W => cd = .exit 0 ∧ Blk W (G + 1) #[I ((pre.length : Int) - 1)] 3 ∧ Below w.heap.size w W ∧ ∀ rest, findI (text x) (pre.map tvE ++ rest) 0 = (pre.length : Int) - 1)
    ?hI ?hIx ?h0 ?assign ?body ?done ?stop
  case hI =>
    rintro s A B row ⟨h1, h2, h3, h4, h4z, h5⟩ hg hr
    exact ⟨ownBlk (c := fun _ : List (El K w) => #[S (text x)]) s A B row h1 hg hr, ownBlk (c := fun _ : List (El K w) => #[I (-1)]) s A B row h2 hg hr, ownBlk (c := fun s : List (El K w) => #[I (s.length : Nat)]) s A B row h3 hg hr, ownFrom_below (β := List (El K w)) (Nat.le_refl _) (by omega) s A B row h4 hg hr, Nat.le_trans h4z hg.size, h5⟩
  case hIx =>
    rintro cd s A B row ⟨h1, h2, h3, h4⟩ hg hr
    exact ⟨h1, ownBlk (c := fun s : List (El K w) => #[I ((s.length : Int) - 1)]) s A B row h2 hg hr, ownFrom_below (β := List (El K w)) (Nat.le_refl _) (by omega) s A B row h3 hg hr, h4⟩
  case h0 => exact ⟨B6, B7, B8, BW, Nat.le_refl _, fun _ => rfl⟩
  case assign =>
    intro l e W K' hK
    gi_wp2
    exact hK
  case body =>
    rintro l pre ⟨⟨xe, ve⟩, re, le30⟩ W ⟨h6, h7, h8, hW, hz, hnm⟩ hlt
    have ksW : ∀ k, K k → k < W.heap.size := fun k hk => Nat.lt_of_lt_of_le (ksw k hk) hW.size
    dsimp only at re le30
    obtain ⟨t2, u2, f2, v2, rfl, hm2, hcf2, hc2⟩ := showD xe K W ve (re.kept (Kept.of_below hW ksw)) ksW (by omega)
    have hpl : (pre.length : Int) < 1000 := by omega
    have nK : ∀ i, ¬ K (G + i) := fun i hk => by have := ksw _ hk; omega
    have ksW1 : ∀ k, (K k ∨ k = G + 1 + 1 + 1) → k < W.heap.size := by
      rintro k (hk | rfl)
      · exact ksW k hk
      · exact Nat.lt_of_lt_of_le lt9 hz
    obtain ⟨c1, c2, c3⟩ := h6.facts
    have nK1 : ¬ (K (G + 1 + 1) ∨ G + 1 + 1 = G + 1 + 1 + 1) := by
      rintro (hk | hk)
      · exact nK 2 hk
      · omega
    by_cases heq : text xe = text x
    · rw [heq] at hc2
      gi_wp2_with fail
      refine ⟨trivial, (CallsIn.inRound l (callsIn_wide.2 hc2)).mono ?_⟩
      rintro e' W3 ⟨rfl, b3⟩
      have g6 := h6.below b3 h6.lt
      have g7 := h7.below b3 h7.lt
      have g8 := h8.below b3 h8.lt
      clear c1 c2 c3
      obtain ⟨c1, c2, c3⟩ := g6.facts
      obtain ⟨d1, d2, d3⟩ := g7.facts
      obtain ⟨q1, q2, q3⟩ := g8.facts
      gi_wp2
      refine ⟨(keepsO_below b3).trans (KeepsOthers.setCell _ _ _), rfl, ?_, (hW.trans (b3.mono hW.size)).setCell (p := ⟨G + 1, 0, none⟩) (by show w.heap.size ≤ G + 1; omega) _, ?_⟩
      · simpa using g7.set (i := 0) (I (pre.length : Nat))
      · intro rest
        have := hnm (xe :: rest)
        simp only [List.map_append, List.map_cons, List.map_nil, List.append_assoc, List.cons_append, List.nil_append, List.length_append, List.length_cons, List.length_nil]
        rw [this]
        simp [findI, heq]
    · have hs2 : ((str (text xe)).toList == (str (text x)).toList) = false := by rw [str_toList, str_toList]; simpa using heq
      gi_wp2_with fail
      refine ⟨trivial, (CallsIn.inRound l (callsIn_wide.2 hc2)).mono ?_⟩
      rintro e' W3 ⟨rfl, b3⟩
      have g6 := h6.below b3 h6.lt
      have g7 := h7.below b3 h7.lt
      have g8 := h8.below b3 h8.lt
      clear c1 c2 c3
      obtain ⟨c1, c2, c3⟩ := g6.facts
      obtain ⟨d1, d2, d3⟩ := g7.facts
      obtain ⟨q1, q2, q3⟩ := g8.facts
      gi_wp2
      refine ⟨(keepsO_below b3).trans (KeepsOthers.setCell _ _ _), ((Kept.of_below (K := fun k => K k ∨ k = G + 1 + 1 + 1) b3 ksW1).setCell (p := ⟨G + 1 + 1, 0, none⟩) nK1 _).block, g6.other (a := ⟨G + 1 + 1, 0, none⟩) (by show G ≠ G + 1 + 1; omega) _, g7.other (a := ⟨G + 1 + 1, 0, none⟩) (by show G + 1 ≠ G + 1 + 1; omega) _, ?_, (hW.trans (b3.mono hW.size)).setCell (p := ⟨G + 1 + 1, 0, none⟩) (by show w.heap.size ≤ G + 1 + 1; omega) _, by have := b3.size; simp [World.setCell]; omega, ?_⟩
      · simpa using g8.set (i := 0) (I ((pre.length : Int) + 1))
      · intro rest
        have := hnm (xe :: rest)
        simp only [List.map_append, List.map_cons, List.map_nil, List.append_assoc, List.cons_append, List.nil_append, List.length_append, List.length_cons, List.length_nil]
        rw [this]
        simp [findI, heq]
  case done =>
    rintro D W hD ⟨h6, h7, h8, hW, hz, hnm⟩ hK
    obtain ⟨c1, c2, c3⟩ := h7.facts
    have hf : findI (text x) [a, b] 0 = -1 := by
      have := hnm []
      rw [List.append_nil, hxs] at this
      rw [this]; rfl
    have HF : Hid _ := hf
    clear hf
    have S2 := h.grow (q := D) hW (by omega) (Array.getElem?_eq_some_iff.1 hK).1
    have kw := Kept.of_below (K := K) hW ksw
    gi_wp2_with fail
    refine ⟨trivial, (callsIn_wide.2 (swap_any _ W p _ S2 us.length 2 (by simp) h5 _ _)).mono ?_⟩
    rintro e' W4 ⟨rfl, s4, k4⟩
    rw [take_but2] at s4
    have hK4 : W4.heap[D]? = some (.deferred (some [])) := (k4.block D (.inr rfl)).trans hK
    gi_wp2
    refine ⟨by simp, .inl ⟨_, _, rfl, run_takeDeferred hK4, ?_⟩⟩
    exact ⟨_, results_tmp rfl _ _ _, rfl, by rw [HF.out]; exact s4.put, (kw.trans (k4.weak (fun _ h => .inl h))).put (fun hk => by have := ksw _ hk; omega) _⟩
  case stop =>
    rintro D cd pre W hD ⟨r, hpre⟩ ⟨rfl, h7, hW, hnm⟩ hK
    obtain ⟨c1, c2, c3⟩ := h7.facts
    have hf : findI (text x) [a, b] 0 = (pre.length : Int) - 1 := by
      rw [← hxs, ← hpre, List.map_append]
      exact hnm _
    have HF : Hid _ := hf
    clear hf
    have S2 := h.grow (q := D) hW (by omega) (Array.getElem?_eq_some_iff.1 hK).1
    have kw := Kept.of_below (K := K) hW ksw
    gi_wp2_with fail
    refine ⟨trivial, (callsIn_wide.2 (swap_any _ W p _ S2 us.length 2 (by simp) h5 _ _)).mono ?_⟩
    rintro e' W4 ⟨rfl, s4, k4⟩
    rw [take_but2] at s4
    have hK4 : W4.heap[D]? = some (.deferred (some [])) := (k4.block D (.inr rfl)).trans hK
    gi_wp2
    refine ⟨by simp, .inl ⟨_, _, rfl, run_takeDeferred hK4, ?_⟩⟩
    exact ⟨_, results_tmp rfl _ _ _, rfl, by rw [HF.out]; exact s4.put, (kw.trans (k4.weak (fun _ h => .inl h))).put (fun hk => by have := ksw _ hk; omega) _⟩
end Go.Proofs.Qxb6500470a
