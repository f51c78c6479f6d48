import Derived.Test.Qxb6500470aXt7
namespace Go.Proofs.Qxb6500470a
open Go.RowKit Go.Shelf
attribute [local go_sem] Fx_round Oper.semAt_some
theorem StU.others {K : Nat → Prop} {w : World} {p : Nat} {a : Option Addr} {cap : Nat} {vs : List Value} (h : StU K w p a cap vs) : StU (fun k => K k ∨ ∃ o : Obj, w.heap[k]? = some o ∧ o.isCells = false) w p a cap vs := by
  refine ⟨h.head, h.own, h.far, ?_, ?_, ?_, h.le⟩
  · rintro (e | ⟨o, e, hc⟩)
    · exact h.kp e
    · have h' : w.heap[p]? = some (.cells _ _) := h.head
      rw [h'] at e
      cases e
      cases hc
  · rintro g hg (e | ⟨o, e, hc⟩)
    · exact h.ka g hg e
    · rcases h.own.2 with ⟨e1, -⟩ | ⟨g', c, cur, hv, -, hg', -⟩
      · simp only [Value.slice.injEq] at e1; rw [e1.1] at hg; cases hg
      · simp only [Value.slice.injEq] at hv
        rw [hv.1] at hg
        obtain rfl : g' = g := by simpa [blk?] using hg
        rw [hg'] at e
        cases e
        cases hc
  · rintro k (e | ⟨o, e, -⟩)
    · exact h.ks k e
    · exact (Array.getElem?_eq_some_iff.1 e).1
theorem StQ.others {K : Nat → Prop} {w : World} {p : Nat} {vs : List Value} (h : StQ K w p vs) : StQ (fun k => K k ∨ ∃ o : Obj, w.heap[k]? = some o ∧ o.isCells = false) w p vs := by
  obtain ⟨a, cap, h⟩ := h
  exact ⟨a, cap, h.others⟩
theorem StQ.grown {K : Nat → Prop} {w w' : World} {p : Nat} {vs : List Value} {row : Option Nat} (h : StQ K w p vs) (hg : w.grownBy w' row) (hr : ∀ r, row = some r → ∃ o : Obj, w.heap[r]? = some o ∧ o.isCells = false) : StQ K w' p vs := by
  obtain ⟨a, cap, h⟩ := h
  have hb : ∀ q, (∃ c t, Blk w q c t) → w'.heap[q]? = w.heap[q]? := by
    rintro q ⟨c, t, h⟩
    refine hg.block q h.lt ?_
    intro e
    obtain ⟨o, ho, hc⟩ := hr q e.symm
    have h' : w.heap[q]? = some (.cells c t) := h
    rw [h'] at ho
    cases ho
    cases hc
  refine ⟨a, cap, h.kept (L := fun q => ∃ c t, Blk w q c t) ⟨hg.os, hg.tape, hg.output, hg.size, hb⟩ ⟨_, _, h.head⟩ ?_⟩
  intro g hg'
  rcases h.own.2 with ⟨e1, -⟩ | ⟨g', c, cur, hv, -, hg2, -⟩
  · simp only [Value.slice.injEq] at e1; rw [e1.1] at hg'; cases hg'
  · simp only [Value.slice.injEq] at hv
    rw [hv.1] at hg'
    obtain rfl : g' = g := by simpa [blk?] using hg'
    exact ⟨cur, _, hg2⟩
theorem Kept.grown {K : Nat → Prop} {a w w' : World} {row : Option Nat} (h : Kept K a w) (hg : w.grownBy w' row) (hr : ∀ r, row = some r → ¬ K r) (ks : ∀ k, K k → k < w.heap.size) : Kept K a w' :=
  h.trans ⟨hg.os, hg.tape, hg.output, hg.size, fun k hk => hg.block k (ks k hk) (fun e => hr k e.symm hk)⟩
theorem Kept.oth {K : Nat → Prop} {w w' : World} (h : Kept (fun k => K k ∨ ∃ o : Obj, w.heap[k]? = some o ∧ o.isCells = false) w w') : KeepsOthers w w' :=
  ⟨h.size, fun k o e hc => (h.block k (.inr ⟨o, e, hc⟩)).trans e⟩
theorem El.rs {K : Nat → Prop} {w : World} : ∀ (xs : List (El K w)), RS K w (xs.map tvE) (xs.map encE)
  | [] => trivial
  | x :: xs => ⟨x.2.1, El.rs xs⟩
/-- The law of the statement 'for x := range seq' within Fx, a round may panic. -/
theorem range_pf {α : Type} {n : Nat} {g : Operand} {q : Tmp} {assign body : Code} {Q : Exit → Act → World → Prop} {a : Act} {w : World} (d : Nat)
    (h1 : 1 ≤ n) {gf : Nat} {lb : Array Value} (hg : a.eval g = .func (.func gf) #[] lb) (hFg : Fx.fn gf) (eg : ∀ args w, (callFunc gf args).run Try.prog w = .ok (.enter gf args) w)
    {enc : α → Value} {K : Nat → Prop} {xs : List α} (hseq : SeqP Fx (n - 1) Try.prog gf lb enc (KK K) xs w) (ks : ∀ k, K k → k < w.heap.size)
    (I : List α → World → Prop) (Ix : Code → List α → World → Prop) (Px : List PanicEntry → World → Prop) (hI : OwnFrom w.heap.size I) (hIx : ∀ c, OwnFrom w.heap.size (Ix c)) (h0 : I [] w)
    (hassign : ∀ (l : Nat) (x : α) (W : World) (K : Act → World → Prop), K (actR a q d (enc x)) W →
      assign.wpIn (Fx.inRound l) (n - 1 - 1) Try.prog (Exit.then K (fun _ _ _ => False)) { tmps := a.tmps.setIfInBounds q (enc x), defers := [] } W)
    (hbody : ∀ (l : Nat) (pre : List α) (x : α) (W : World), I pre W → pre.length < xs.length → body.wpIn (Fx.inRound l) (n - 1 - 1) Try.prog (pPost (KK K) I Ix Px (pre ++ [x]) W) (actR a q d (enc x)) W)
    (hdone : ∀ (D : Nat) (W : World), w.heap.size ≤ D → I xs W → W.heap[D]? = some (.deferred (some [])) → Q .normal { a with defers := { target := .collected D, args := #[] } :: a.defers } W)
    (hstop : ∀ (D : Nat) (c : Code) (pre : List α) (W : World), w.heap.size ≤ D → pre <+: xs → Ix c pre W → W.heap[D]? = some (.deferred (some [])) → c.wpIn Fx n Try.prog Q { a with defers := { target := .collected D, args := #[] } :: a.defers } W)
    (hpan : ∀ (D : Nat) (c : List PanicEntry) (W : World), w.heap.size ≤ D → Px c W → W.heap[D]? = some (.deferred (some [])) → Q (.panic c) { a with defers := { target := .collected D, args := #[] } :: a.defers } W) :
    (Code.rangeFunc g #[q] assign body).wpIn Fx n Try.prog Q a w :=
  range_p rfl h1 (fun _ h => h) hg hFg eg hseq KK.trans (fun W l _ o' hl _ _ _ => KK.put ks W l o' hl) (Below.refl _ _) I Ix Px hI hIx h0 (fun x => actR a q d (enc x))
    (fun l x W K' hK => by
      have h := hassign l x W K' hK
      have e : (#[q].zip #[enc x]).foldl (fun t (p, v) => t.setIfInBounds p v) a.tmps = a.tmps.setIfInBounds q (enc x) := by simp
      rw [e]
      exact h) hbody hdone hstop hpan
set_option maxRecDepth 100000 in
set_option maxHeartbeats 8000000 in
theorem spread_gen (K : Nat → Prop) (w : World) (p : Nat) (us : List Value) (t : TypeId) (u r : Value) (fA gf : FuncId) (oT : TypeId) (h : StQ K w p (us ++ [.iface t u]))
    (ta : ∀ w, (Instr.typeAssert (.iface t u) 64 75 true).run Try.prog w = .ok (.tuple #[.iface t u, .bool true]) w)
    (tb : ∀ w, (Instr.typeAssert (.iface t u) 64 75 false).run Try.prog w = .ok (.iface t u) w)
    (hm : ∀ W, (method 260 t u "All").run Try.prog W = .ok (fA, r) W) (hcf : ∀ args W, (callFunc fA args).run Try.prog W = .ok (.enter fA args) W) (hfA : Fx.fn fA) (hgf : Fx.fn gf)
    (hA : ∀ n W, CallsIn Fx n Try.prog fA #[r] W fun e w' => e = .returned (.func (.func gf) #[] #[ptr W.heap.size]) ∧ w' = W.alloc (.cells #[r] oT))
    (eg : ∀ args w, (callFunc gf args).run Try.prog w = .ok (.enter gf args) w) (xs : List (El K w))
    (hseq : ∀ (K3 : Nat → Prop) (W : World) (Bn : Nat), (∀ k, K k → K3 k) → K3 Bn → (∀ k, K3 k → k < W.heap.size) → Kept K w W → W.cell? ⟨Bn, 0, none⟩ = some r → SeqP Fx 6 Try.prog gf #[ptr Bn] encE (KK K3) xs W) :
    Calls Try.prog 77 #[ptr p] w fun e w' =>
      (us.length + xs.length ≤ 5 ∧ e = .returned (.tuple #[]) ∧ StQ K w' p (us ++ xs.map encE) ∧ Kept K w w') ∨ (5 < us.length + xs.length ∧ e = .panicked [{ v := .iface 26 (I 3), recovered := false }] ∧ (∃ x, Blk w' p #[x, .bool true] 62) ∧ Kept K w w') := by
  have ksw := h.ks
  have lw := h.le
  have hB0 : Below w.heap.size w (w.alloc (.cells #[ptr p] 29)) := (Below.refl _ _).alloc (Nat.le_refl _) _
  have hS0 := h.grow (q := w.heap.size) hB0 (Nat.le_refl _) (by simp)
  have bx0 : Blk (w.alloc (.cells #[ptr p] 29)) w.heap.size #[ptr p] 29 := Blk.new rfl
  refine CallsIn.calls (F := Fx) (n := 7) ?_ Fx.room
  refine callsIn_of_wp_marks Try.func77 rfl ⟨_, Try.func77⟩ ?_ rfl
  simp only [Try.ntmps77, List.size_toArray, List.length_cons, List.length_nil, Nat.reduceAdd, Nat.reduceSub, Array.replicate_succ, Array.replicate_zero, List.push_toArray, List.append_toArray, List.nil_append, List.cons_append]
  gi_wp2_with fail
  refine ⟨⟨_, Try.func94⟩, (takeX _ _ _ p us t u hS0).mono ?_⟩
  rintro e w1 ⟨rfl, s1, k1⟩
  gi_wp2_with fail
  refine (hA _ _).mono ?_
  rintro e w2 ⟨rfl, rfl⟩
  gi_wp2_with fail
  have B1 : Below w1.heap.size w1 (w1.alloc (.cells #[r] oT)) := (Below.refl _ _).alloc (Nat.le_refl _) _
  have S2 := s1.grow (q := w1.heap.size) B1 (Nat.le_refl _) (by simp)
  have bx2 : Blk (w1.alloc (.cells #[r] oT)) w.heap.size #[ptr p] 29 := (bx0.kept k1 (.inr rfl)).old _
  have bi : Blk (w1.alloc (.cells #[r] oT)) w1.heap.size #[r] oT := Blk.new rfl
  have kw : Kept K w (w1.alloc (.cells #[r] oT)) := ((Kept.of_below hB0 ksw).trans (k1.weak (fun _ h => .inl h))).trans (Kept.of_below B1 (fun k hk => s1.ks k (.inl hk)))
  clear B1
  generalize (w1.alloc (.cells #[r] oT)) = W0 at *
  generalize w1.heap.size = Bn at *
  obtain ⟨K3, hK3⟩ : ∃ K3 : Nat → Prop, K3 = fun k => (K k ∨ k = w.heap.size) ∨ k = Bn := ⟨_, rfl⟩
  rw [← hK3] at S2
  have m3 : ∀ k, K k → K3 k := fun k hk => by rw [hK3]; exact .inl (.inl hk)
  have kb0 : K3 w.heap.size := by rw [hK3]; exact .inl (.inr rfl)
  have kbn : K3 Bn := by rw [hK3]; exact .inr rfl
  clear hK3
  have ks3 := S2.ks
  refine range_pf 6 (by omega) (gf := gf) (lb := #[ptr Bn]) rfl hgf eg (hseq K3 W0 Bn m3 kbn ks3 kw (bi.cell 0)) ks3
    (fun pre W => StQ K3 W p (us ++ pre.map encE) ∧ Kept K3 W0 W)
    (fun _ _ _ => False)
    (fun c W => 5 < us.length + xs.length ∧ c = [{ v := .iface 26 (I 3), recovered := false }] ∧ (∃ x, Blk W p #[x, .bool true] 62) ∧ Kept K3 W0 W)
    ?hI ?hIx ?h0 ?assign ?body ?done ?stop ?pan
  case hI =>
    rintro s A B row ⟨h1, h2⟩ hg hr
    refine ⟨h1.grown hg (fun r e => (hr r e).2), h2.grown hg (fun r e hk => ?_) h1.ks⟩
    have := ks3 r hk
    have := (hr r e).1
    omega
  case hIx => exact fun _ _ _ _ _ h _ _ => h
  case h0 => exact ⟨by simpa using S2, Kept.refl _ _⟩
  case assign =>
    intro l e W K' hK
    gi_wp2
    exact hK
  case body =>
    rintro l pre ⟨⟨xe, ve⟩, re, le30⟩ W ⟨hs, hW⟩ hlt
    dsimp only at re le30
    obtain ⟨t2, u2, rfl⟩ := re.iface
    rw [show encE (⟨(xe, .iface t2 u2), re, le30⟩ : El K w) = .iface t2 u2 from rfl]
    have hl := hs.le
    have hlen : (us ++ pre.map encE).length = us.length + pre.length := by simp
    have bx := bx2.kept hW kb0
    obtain ⟨c1, c2, c3⟩ := bx.facts
    by_cases hf : us.length + pre.length = 5
    · gi_wp2_with fail
      refine ⟨⟨_, Try.func95⟩, (CallsIn.inRound l (giveX_full _ K3 W p _ (.iface t2 u2) hs (by rw [hlen]; exact hf))).mono ?_⟩
      rintro e w2 ⟨rfl, rfl⟩
      gi_wp2
      exact ⟨rfl, KeepsOthers.refl _, by omega, rfl, hs.blk, hW⟩
    · gi_wp2_with fail
      refine ⟨⟨_, Try.func95⟩, (CallsIn.inRound l (giveX_ok _ _ W p _ t2 u2 hs.others (by rw [hlen] at hl ⊢; omega))).mono ?_⟩
      rintro e w2 ⟨rfl, s2, k2⟩
      gi_wp2
      refine ⟨k2.oth, (k2.weak (fun _ h => .inl h)).block, ?_, hW.trans (k2.weak (fun _ h => .inl h))⟩
      have := s2.weak (L := K3) (fun _ h => .inl h)
      rw [List.map_append, ← List.append_assoc]
      exact this
  case done =>
    rintro D W hD ⟨hs, hW⟩ hK
    have hl := hs.le
    simp only [List.length_append, List.length_map] at hl
    refine ⟨by simp, .inl ⟨_, _, rfl, run_takeDeferred hK, ?_⟩⟩
    refine ⟨_, results_none rfl _ _ _, .inl ⟨by omega, rfl, ?_, (kw.trans (hW.weak m3)).put (fun hk => by have := ks3 _ (m3 _ hk); omega) _⟩⟩
    refine StQ.put (D := D) (hs.others.weak ?_)
    rintro k (e | rfl)
    · exact .inl (m3 k e)
    · exact .inr ⟨_, hK, rfl⟩
  case stop => exact fun _ _ _ _ _ _ h _ => h.elim
  case pan =>
    rintro D c W hD ⟨hn, rfl, ⟨x, hb⟩, hW⟩ hK
    refine ⟨by simp, .inl ⟨_, _, rfl, run_takeDeferred hK, ?_⟩⟩
    refine .inr ⟨hn, rfl, ⟨x, hb.kept ((Kept.refl (fun k => k = p) _).put (fun e => ?_) _) rfl⟩, (kw.trans (hW.weak m3)).put (fun hk => by have := ks3 _ (m3 _ hk); omega) _⟩
    have hb' : W.heap[p]? = some (.cells _ _) := hb
    rw [← e, hK] at hb'
    cases hb'
end Go.Proofs.Qxb6500470a
