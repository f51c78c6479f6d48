import Derived.Test.Qxb6500470aIt11
namespace Go.Proofs.Qxb6500470a
open Go.RowKit Go.Shelf
attribute [local go_sem] Oper.semAt_some
/-- The sum of the elements, left to right, from acc on. -/
def foldT : TV → List TV → Except Int TV
  | acc, [] => .ok acc
  | acc, e :: es => match plusT acc e with | .ok x => foldT x es | .error k => .error k
theorem fold_snoc (acc : TV) (es : List TV) (e x : TV) (h : foldT acc es = .ok x) (rest : List TV) : foldT acc (es ++ e :: rest) = foldT x (e :: rest) := by
  induction es generalizing acc with
  | nil => simp only [foldT, Except.ok.injEq] at h; subst h; rfl
  | cons a tl ih =>
    simp only [foldT, List.cons_append] at h ⊢
    cases hp : plusT acc a with
    | error k => rw [hp] at h; cases h
    | ok y => rw [hp] at h; exact ih y h
theorem plus_ne {a b : TV} {k : Int} (h : plusT a b = .error k) : k ≠ 0 := by
  unfold plusT at h
  split at h
  · rename_i k' hk
    simp only [Except.error.injEq] at h
    subst h
    cases a <;> cases b <;> simp [rawAdd] at hk <;> try omega
    all_goals (split at hk <;> simp at hk <;> omega)
  · split at h
    · cases h
    · simp only [Except.error.injEq] at h; omega
theorem plus_le {a b x : TV} (h : plusT a b = .ok x) : (text x).length ≤ 30 := by
  unfold plusT at h
  split at h
  · cases h
  · split at h
    · rename_i hl
      simp only [Except.ok.injEq] at h
      rw [← h]; exact hl
    · cases h
theorem StR.set {K : Nat → Prop} {w : World} {p : Nat} {vs : List Value} (h : StR K w p vs) {b i : Nat} (hb : K b) (u : Value) : StR K (w.setCell ⟨b, i, none⟩ u) p vs := by
  obtain ⟨a, cap, h⟩ := h
  have kk : Kept (fun k => k ≠ b) w (w.setCell ⟨b, i, none⟩ u) := (Kept.refl _ w).setCell (by simp) u
  exact ⟨a, cap, h.kept kk (fun e => h.kp (e ▸ hb)) (fun g hg e => h.ka g hg (e ▸ hb))⟩
theorem RV.cells {K : Nat → Prop} {w : World} : ∀ {x : TV} {v : Value}, RV K w x v → RV (fun k => K k ∧ ∃ c t, Blk w k c t) w x v
  | .int _, _, h => h
  | .str _, _, h => h
  | .nil, _, h => h
  | .cons _ _, _, ⟨q, hv, tp, e, k, b, r1, r2⟩ => ⟨q, hv, tp, e, ⟨k, _, _, b⟩, b, RV.cells r1, RV.cells r2⟩
  | .pair _ _, _, ⟨q, av, bv, e, k, b, r1, r2⟩ => ⟨q, av, bv, e, ⟨k, _, _, b⟩, b, RV.cells r1, RV.cells r2⟩
set_option maxRecDepth 100000 in
set_option maxHeartbeats 8000000 in
theorem fold_list (K : Nat → Prop) (w : World) (p : Nat) (us : List Value) (tp : Option Addr) (c : TV) (h : StR K w p (us ++ [.iface 69 (.pointer tp)])) (rc : RV K w c (.iface 69 (.pointer tp))) (hc : (text c).length ≤ 30) (e0 : TV) (es : List TV) (hce : elems c = e0 :: es) :
    Calls Try.prog 43 #[ptr p] w fun e w' =>
      (∃ k, foldT e0 es = .error k ∧ e = .returned (I k) ∧ Below w.heap.size w w') ∨ (∃ x, foldT e0 es = .ok x ∧ e = .returned (I 0) ∧ ∃ K' v, (∀ k, K k → K' k) ∧ (∀ k, K' k → K k ∨ w.heap.size ≤ k) ∧ RV K' w' x v ∧ StR K' w' p (us ++ [v]) ∧ Kept K w w') := by
  have hB0 : Below w.heap.size w (w.alloc (.cells #[I 0] 26)) := (Below.refl _ _).alloc (Nat.le_refl _) _
  have hp0 := peek_some K _ p _ (h.later hB0) 0 (by simp)
  rw [getD_last] at hp0
  have ta : ∀ w, (Instr.typeAssert (.iface 69 (.pointer tp)) 64 75 true).run Try.prog w = .ok (.tuple #[.iface 69 (.pointer tp), .bool true]) w := fun w => run_typeAssert_hasB Try.underlying75 (by kernel_rfl) _ _ w
  have tb : ∀ w, (Instr.typeAssert (.iface 69 (.pointer tp)) 64 82 false).run Try.prog w = .ok (.iface 69 (.pointer tp)) w := fun _ => by kernel_rfl
  have hmL := mLenL tp
  have hmA := mAllL tp
  have hel : ∀ e ∈ elems c, (text e).length ≤ 30 := fun e he => Nat.le_trans (elem_len c e he) (Nat.le_trans (inner_len c) hc)
  obtain ⟨xs, hch, hxs⟩ := elems_list c tp rc hel
  have hcn : cnt c = (elems c).length := by
    clear hce hel hch hxs rc hc h hp0
    induction c with
    | cons a b _ ih => simp [cnt, elems, ih]; omega
    | _ => rfl
  have hxl : xs.length ≤ 30 := by
    have e1 := congrArg List.length hxs
    have e2 := elems_len c
    have e3 := inner_len c
    simp at e1
    omega
  have hcl : cnt c ≤ 1000 ∧ 0 < cnt c := by
    have e1 := congrArg List.length hxs
    rw [hcn, hce] at *
    simp at e1 ⊢
    omega
  have LN := listLen c K (w.alloc (.cells #[I 0] 26)) tp (rc.kept (Kept.of_below hB0 h.ks)) hcl.1
  have hc0 : ((cnt c : Int) == 0) = false := by simp; omega
  have h5 : us.length < 5 := by
    have := h.le
    simp at this
    omega
  have ksw := h.ks
  refine (callsIn_wide (n := 7)).1 ?_
  refine callsIn_of_wp_marks Try.func43 rfl trivial ?_ rfl
  simp only [Try.ntmps43, List.size_toArray, List.length_cons, List.length_nil, Nat.reduceAdd, Nat.reduceSub, Array.replicate_succ, Array.replicate_zero, List.push_toArray, List.append_toArray, List.nil_append, List.cons_append]
  gi_wp2_with fail
  refine ⟨trivial, (callsIn_wide.2 hp0).mono ?_⟩
  rintro e w0 ⟨rfl, hw0⟩
  rw [hw0]
  clear hw0 w0
  gi_wp2_with fail
  refine ⟨trivial, (callsIn_wide.2 LN).mono ?_⟩
  rintro e w0 ⟨rfl, hw0⟩
  rw [hw0]
  clear hw0 w0
  gi_wp2_with fail
  refine ⟨trivial, (callsIn_wide.2 (lAll tp _)).mono ?_⟩
  rintro e w2 ⟨rfl, rfl⟩
  gi_wp2_with fail
  have BW : Below w.heap.size w (((w.alloc (.cells #[I 0] 26)).alloc (.cells #[.nilIface] 64)).alloc (.cells #[.pointer tp] 69)) := (hB0.alloc (by simp) _).alloc (by simp; omega) _
  have B2 : Blk (((w.alloc (.cells #[I 0] 26)).alloc (.cells #[.nilIface] 64)).alloc (.cells #[.pointer tp] 69)) w.heap.size #[I 0] 26 := ((Blk.new rfl : Blk (w.alloc _) _ _ _).old _).old _
  have B6 : Blk (((w.alloc (.cells #[I 0] 26)).alloc (.cells #[.nilIface] 64)).alloc (.cells #[.pointer tp] 69)) (w.heap.size + 1) #[.nilIface] 64 := (Blk.new (by simp) : Blk ((w.alloc _).alloc _) _ _ _).old _
  have B9 : Blk (((w.alloc (.cells #[I 0] 26)).alloc (.cells #[.nilIface] 64)).alloc (.cells #[.pointer tp] 69)) (w.heap.size + 1 + 1) #[.pointer tp] 69 := Blk.new (by simp)
  generalize (((w.alloc (.cells #[I 0] 26)).alloc (.cells #[.nilIface] 64)).alloc (.cells #[.pointer tp] 69)) = W0 at *
  have lt9 := B9.lt
  have ks0 : ∀ k, K k → k < W0.heap.size := fun k hk => by have := ksw k hk; omega
  clear LN hp0 hB0
  refine range_n 7 (by omega) (gf := 139) (lb := #[ptr (w.heap.size + 1 + 1)]) rfl (enters_of Try.func139 (by kernel_rfl) rfl)
    (list_seq encE K (w.heap.size + 1 + 1) tp xs W0 6 (by omega) B9.lt (B9.cell 0) ks0 (hch.below (fun q hq => BW.block q (ksw q hq)))) ks0
    (fun pre W => (pre = [] ∧ Blk W (w.heap.size + 1) #[.nilIface] 64 ∨ ∃ (a0 : El K w) (as' : List (El K w)) (x : TV) (v : Value) (Kc : Nat → Prop), pre = a0 :: as' ∧ foldT (tvE a0) (as'.map tvE) = .ok x ∧ (text x).length ≤ 30 ∧ Blk W (w.heap.size + 1) #[v] 64 ∧ (∀ k, K k → Kc k) ∧ (∀ k, Kc k → K k ∨ (w.heap.size + 1 + 1 ≤ k ∧ k < W.heap.size)) ∧ RV Kc W x v) ∧ Blk W w.heap.size #[I 0] 26 ∧ Below w.heap.size w W)
    (fun cd pre W => cd = .ret ∧ (∃ k, Blk W w.heap.size #[I k] 26 ∧ ∃ (a0 : El K w) (as' : List (El K w)), pre = a0 :: as' ∧ ∀ rest, foldT (tvE a0) (as'.map tvE ++ rest) = .error k) ∧ Below w.heap.size w W)
    ?hI ?hIx ?h0 ?assign ?body ?done ?stop
  case hI =>
    rintro s A B row ⟨h1, h2, h3⟩ hg hr
    refine ⟨?_, ownBlk (c := fun _ : List (El K w) => #[I 0]) s A B row h2 hg hr, ownFrom_below (β := List (El K w)) (Nat.le_refl _) (by omega) s A B row h3 hg hr⟩
    rcases h1 with ⟨e1, b1⟩ | ⟨a0, as', x, v, Kc, e1, e2, e3, b1, m, n, rv⟩
    · exact .inl ⟨e1, ownBlk (c := fun _ : List (El K w) => #[.nilIface]) s A B row b1 hg hr⟩
    · refine .inr ⟨a0, as', x, v, Kc, e1, e2, e3, ownBlk (c := fun _ : List (El K w) => #[v]) s A B row b1 hg hr, m, fun k hk => ?_, rv.grown hg (fun r e => (hr r e).2)⟩
      rcases n k hk with e | e
      · exact .inl e
      · exact .inr ⟨e.1, Nat.lt_of_lt_of_le e.2 hg.size⟩
  case hIx =>
    rintro cd s A B row ⟨h1, ⟨k, b1, h2⟩, h3⟩ hg hr
    exact ⟨h1, ⟨k, ownBlk (c := fun _ : List (El K w) => #[I k]) s A B row b1 hg hr, h2⟩, ownFrom_below (β := List (El K w)) (Nat.le_refl _) (by omega) s A B row h3 hg hr⟩
  case h0 => exact ⟨.inl ⟨rfl, B6⟩, B2, BW⟩
  case assign =>
    intro l e W K' hK
    gi_wp2
    exact hK
  case body =>
    rintro l pre ⟨⟨xe, ve⟩, re, le30⟩ W ⟨hs, h2, hW⟩ hlt
    dsimp only at re le30
    have reW := re.kept (Kept.of_below hW ksw)
    have ksW : ∀ k, K k → k < W.heap.size := fun k hk => Nat.lt_of_lt_of_le (ksw k hk) hW.size
    obtain ⟨t2, u2, rfl⟩ := re.iface
    have nK : ∀ i, ¬ K (w.heap.size + i) := fun i hk => by have := ksw _ hk; omega
    rw [show encE (⟨(xe, .iface t2 u2), re, le30⟩ : El K w) = .iface t2 u2 from rfl]
    rcases hs with ⟨rfl, b6⟩ | ⟨a0, as', x, v, Kc, rfl, hf, hx30, b6, m, n, rv⟩
    · obtain ⟨c1, c2, c3⟩ := b6.facts
      gi_wp2
      refine ⟨KeepsOthers.setCell _ _ _, ((Kept.refl K W).setCell (p := ⟨w.heap.size + 1, 0, none⟩) (nK 1) _).block, .inr ⟨⟨(xe, .iface t2 u2), re, le30⟩, [], xe, _, K, rfl, rfl, le30, by simpa using b6.set (i := 0) (.iface t2 u2), fun _ h => h, fun _ h => .inl h, reW.kept ((Kept.refl K W).setCell (p := ⟨w.heap.size + 1, 0, none⟩) (nK 1) _)⟩, h2.other (a := ⟨w.heap.size + 1, 0, none⟩) (by show w.heap.size ≠ w.heap.size + 1; omega) _, hW.setCell (p := ⟨w.heap.size + 1, 0, none⟩) (by show w.heap.size ≤ w.heap.size + 1; omega) _⟩
    · obtain ⟨tv, uv, rfl⟩ := rv.iface
      have ksc : ∀ k, Kc k → k < W.heap.size := by
        intro k hk
        rcases n k hk with e | e
        · exact ksW k e
        · exact e.2
      have hP := plus_any Kc W x xe _ _ rv (reW.mono m) ksc hx30 le30
      unfold PlusR at hP
      have hq : ∀ w, (binOp .eql 64 (.iface tv uv) .nilIface).run Try.prog w = .ok (.bool false) w := fun _ => by rfl
      obtain ⟨c1, c2, c3⟩ := b6.facts
      cases hpx : plusT x xe with
      | error k =>
        rw [hpx] at hP
        have k0 : (k != 0) = true := by simpa using plus_ne hpx
        gi_wp2_with fail
        refine ⟨trivial, (CallsIn.inRound l (callsIn_wide.2 hP)).mono ?_⟩
        rintro e' W3 ⟨rfl, b3⟩
        have g2 := h2.below b3 h2.lt
        obtain ⟨d1, d2, d3⟩ := g2.facts
        gi_wp2
        refine ⟨(keepsO_below b3).trans (KeepsOthers.setCell _ _ _), rfl, ⟨k, by simpa using g2.set (i := 0) (I k), a0, as' ++ [⟨(xe, .iface t2 u2), re, le30⟩], rfl, ?_⟩, (hW.trans (b3.mono hW.size)).setCell (p := ⟨w.heap.size, 0, none⟩) (Nat.le_refl _) _⟩
        intro rest
        rw [List.map_append, List.append_assoc]
        refine (fold_snoc _ _ xe x hf rest).trans ?_
        simp only [foldT, hpx]
      | ok x' =>
        rw [hpx] at hP
        gi_wp2_with fail
        refine ⟨trivial, (CallsIn.inRound l (callsIn_wide.2 hP)).mono ?_⟩
        rintro e' W3 ⟨⟨v', rfl, K', m', n', rv'⟩, b3⟩
        obtain ⟨tv', uv', rfl⟩ := rv'.iface
        have g2 := h2.below b3 h2.lt
        have g6 := b6.below b3 b6.lt
        clear c1 c2 c3
        obtain ⟨c1, c2, c3⟩ := g6.facts
        have nK' : ¬ K' (w.heap.size + 1) := by
          intro hk
          rcases n' _ hk with e | e
          · rcases n _ e with e | e
            · exact nK 1 e
            · omega
          · have := b6.lt; omega
        gi_wp2
        refine ⟨(keepsO_below b3).trans (KeepsOthers.setCell _ _ _), ((Kept.of_below b3 ksW).setCell (p := ⟨w.heap.size + 1, 0, none⟩) (nK 1) _).block, .inr ⟨a0, as' ++ [⟨(xe, .iface t2 u2), re, le30⟩], x', _, K', rfl, ?_, plus_le hpx, by simpa using g6.set (i := 0) (.iface tv' uv'), fun k h => m' k (m k h), ?_, rv'.kept ((Kept.refl K' W3).setCell (p := ⟨w.heap.size + 1, 0, none⟩) nK' _)⟩, g2.other (a := ⟨w.heap.size + 1, 0, none⟩) (by show w.heap.size ≠ w.heap.size + 1; omega) _, (hW.trans (b3.mono hW.size)).setCell (p := ⟨w.heap.size + 1, 0, none⟩) (by show w.heap.size ≤ w.heap.size + 1; omega) _⟩
        · rw [List.map_append]
          refine (fold_snoc _ _ xe x hf []).trans ?_
          simp only [foldT, hpx]
        · intro k hk
          have hz : (W3.setCell ⟨w.heap.size + 1, 0, none⟩ (.iface tv' uv')).heap.size = W3.heap.size := by simp [World.setCell]
          rw [hz]
          rcases n' k hk with e | e
          · rcases n k e with e | e
            · exact .inl e
            · exact .inr ⟨e.1, Nat.lt_of_lt_of_le e.2 b3.size⟩
          · have := b6.lt
            have := h2.lt
            exact .inr ⟨by omega, e.2⟩
  case done =>
    rintro D W hD ⟨hs, h2, hW⟩ hK
    have DltW := (Array.getElem?_eq_some_iff.1 hK).1
    rcases hs with ⟨e1, -⟩ | ⟨a0, as', x, v, Kc, e1, hf, hx30, b6, m, n, rv⟩
    · exfalso
      rw [e1, hce] at hxs
      simp at hxs
    · obtain ⟨tv, uv, rfl⟩ := rv.iface
      have he : tvE a0 = e0 ∧ as'.map tvE = es := by
        rw [e1, hce] at hxs
        simpa using hxs
      rw [he.1, he.2] at hf
      obtain ⟨K2, rv2, n2, nD, m2⟩ : ∃ K2 : Nat → Prop, RV K2 W x (.iface tv uv) ∧ (∀ k, K2 k → K k ∨ (w.heap.size + 1 + 1 ≤ k ∧ k < W.heap.size)) ∧ ¬ K2 D ∧ (∀ k, K k → K2 k) := by
        refine ⟨fun k => K k ∨ (Kc k ∧ ∃ c t, Blk W k c t), rv.cells.mono (fun k hk => .inr hk), ?_, ?_, fun k hk => .inl hk⟩
        · rintro k (e | ⟨e, -⟩)
          · exact .inl e
          · exact n k e
        · rintro (e | ⟨-, c, t, hb⟩)
          · have := ksw _ e; omega
          · unfold Blk at hb
            rw [hK] at hb
            cases hb
      clear rv n m
      have S2 : StR (fun k => (K2 k ∨ k = w.heap.size) ∨ k = D) W p (us ++ [.iface 69 (.pointer tp)]) := h.growK hW (by
        rintro k ((e | rfl) | rfl)
        · rcases n2 k e with e | e
          · exact .inl e
          · exact .inr ⟨by omega, e.2⟩
        · exact .inr ⟨Nat.le_refl _, h2.lt⟩
        · exact .inr ⟨by omega, DltW⟩)
      have kw := Kept.of_below (K := K) hW ksw
      have nB : ¬ K2 w.heap.size := by
        intro hk
        rcases n2 _ hk with e | e
        · have := ksw _ e; omega
        · omega
      obtain ⟨c1, c2, c3⟩ := b6.facts
      have HF : Hid _ := hf
      clear hf
      gi_wp2_with fail
      refine ⟨trivial, (callsIn_wide.2 (swap_any _ W p _ S2 us.length 1 (by simp) h5 _ _)).mono ?_⟩
      rintro e' W4 ⟨rfl, s4, k4⟩
      rw [take_but1] at s4
      have hK4 : W4.heap[D]? = some (.deferred (some [])) := (k4.block D (.inr rfl)).trans hK
      have g2 := h2.kept k4 (.inl (.inr rfl))
      obtain ⟨d1, d2, d3⟩ := g2.facts
      have hK5 : (W4.setCell ⟨w.heap.size, 0, none⟩ (I 0)).heap[D]? = some (.deferred (some [])) := (((Kept.refl (fun k => k = D) W4).setCell (p := ⟨w.heap.size, 0, none⟩) (by show ¬ (w.heap.size = D); omega) (I 0)).block D rfl).trans hK4
      gi_wp2
      have k5 : Kept K2 W (W4.setCell ⟨w.heap.size, 0, none⟩ (I 0)) := (k4.weak (fun _ h => .inl (.inl h))).setCell nB _
      refine ⟨by simp, .inl ⟨_, _, rfl, run_takeDeferred hK5, ?_⟩⟩
      have cb : Blk ((W4.setCell ⟨w.heap.size, 0, none⟩ (I 0)).putObj D (.deferred none)) w.heap.size #[I 0] 26 := Blk.kept (by simpa using g2.set (i := 0) (I 0)) ((Kept.refl (fun k => k = w.heap.size) _).put (by omega) _) rfl
      have cc := cb.facts.1 0
      refine ⟨_, by simp [results, Try.results43, go_sem, cc], .inr ⟨x, HF.out, rfl, K2, .iface tv uv, m2, fun k hk => ?_, (rv2.kept k5).kept ((Kept.refl _ _).put nD _), ((s4.set (.inl (.inr rfl)) _).put).weak (fun k hk => .inl hk), ?_⟩⟩
      · rcases n2 k hk with e | e
        · exact .inl e
        · exact .inr (by omega)
      · exact (kw.trans (k5.weak m2)).put (fun hk => nD (m2 _ hk)) _
  case stop =>
    rintro D cd pre W hD ⟨r, hpre⟩ ⟨rfl, ⟨k, h2, a0, as', rfl, hf⟩, hW⟩ hK
    have DltW := (Array.getElem?_eq_some_iff.1 hK).1
    obtain ⟨d1, d2, d3⟩ := h2.facts
    have hF : foldT e0 es = .error k := by
      rw [← hpre, hce] at hxs
      simp only [List.cons_append, List.map_cons, List.map_append, List.cons.injEq] at hxs
      rw [← hxs.1, ← hxs.2]
      exact hf _
    have HF : Hid _ := hF
    clear hF hf
    gi_wp2
    refine ⟨by simp, .inl ⟨_, _, rfl, run_takeDeferred hK, ?_⟩⟩
    have cb : Blk (W.putObj D (.deferred none)) w.heap.size #[I k] 26 := h2.kept ((Kept.refl (fun k => k = w.heap.size) _).put (by omega) _) rfl
    have cc := cb.facts.1 0
    exact ⟨_, by simp [results, Try.results43, go_sem, cc], .inl ⟨k, HF.out, rfl, hW.grown (grownBy_putObj' _ D _) hW.size (fun k e => by cases e; omega)⟩⟩
end Go.Proofs.Qxb6500470a
