import Derived.Test.Qxb6500470aIt4
namespace Go.Proofs.Qxb6500470a
open Go.RowKit Go.Shelf
attribute [local go_sem] Oper.semAt_some
/-- A list's elements. -/
def elems : TV → List TV
  | .cons h t => h :: elems t
  | _ => []
theorem elem_len (y : TV) : ∀ e ∈ elems y, (text e).length ≤ (inner y).length := by
  induction y with
  | cons h t _ ih =>
    intro e he
    simp only [elems, List.mem_cons] at he
    rw [inner_cons]
    rcases he with rfl | he
    · simp
    · have hc : t.isCons = true := by cases t <;> first | rfl | simp [elems] at he
      have := ih e he
      rw [hc]
      simp
      omega
  | _ => intro e he; simp [elems] at he
theorem elems_len (y : TV) : (elems y).length ≤ (inner y).length := by
  induction y with
  | cons h t _ ih =>
    rw [inner_cons]
    have := text_pos h
    simp only [elems, List.length_cons, List.length_append]
    cases hc : t.isCons with
    | true => simp; omega
    | false =>
      have : elems t = [] := by cases t <;> first | rfl | simp [TV.isCons] at hc
      rw [this]
      simp
      omega
  | _ => simp [elems]
abbrev encE {K : Nat → Prop} {w0 : World} (x : El K w0) : Value := x.1.2
abbrev tvE {K : Nat → Prop} {w0 : World} (x : El K w0) : TV := x.1.1
theorem elems_list {K : Nat → Prop} {w : World} : ∀ (y : TV) (tp : Option Addr), RV K w y (.iface 69 (.pointer tp)) → (∀ e ∈ elems y, (text e).length ≤ 30) → ∃ xs : List (El K w), Ch encE K w tp xs ∧ xs.map tvE = elems y := by
  intro y
  induction y with
  | cons h t _ ih =>
    rintro tp ⟨q, hv, tq, e, kq, bl, rh, rt⟩ hl
    simp at e
    subst e
    obtain ⟨xs, hc, hm⟩ := ih tq rt (fun e he => hl e (by simp [elems, he]))
    exact ⟨⟨(h, hv), rh, hl h (by simp [elems])⟩ :: xs, ⟨q, tq, rfl, kq, bl, hc⟩, by simp [hm, elems]⟩
  | nil =>
    intro tp h _
    have e : Value.iface 69 (.pointer tp) = VL := h
    simp at e
    exact ⟨[], e, rfl⟩
  | int n => rintro tp ⟨e, -⟩; simp at e
  | str s => intro tp h; exact absurd (show Value.iface _ _ = VS s from h) (by simp)
  | pair a b => rintro tp ⟨q, av, bv, e, -⟩; simp at e
theorem ownBlk {β : Type} {B b : Nat} {c : β → Array Value} {t : TypeId} : OwnFrom B (fun (s : β) W => Blk W b (c s) t) := by
  intro s W W' row h hg hr
  have lb := Blk.lt h
  refine (hg.block b lb ?_).trans h
  intro e
  obtain ⟨-, o, ho, hc⟩ := hr b e.symm
  have h' : W.heap[b]? = some (.cells (c s) t) := h
  rw [h'] at ho
  cases ho
  cases hc
theorem StR.put {K : Nat → Prop} {w : World} {p : Nat} {vs : List Value} {D : Nat} {o : Obj} (h : StR (fun k => K k ∨ k = D) w p vs) : StR K (w.putObj D o) p vs := by
  obtain ⟨a, cap, h⟩ := h
  have kk : Kept (fun k => k ≠ D) w (w.putObj D o) := ⟨rfl, rfl, rfl, by simp, fun k hk => World.putObj_heap_other hk⟩
  have hp : p ≠ D := fun e => h.kp (.inr e)
  have ha : ∀ g, blk? a = some g → g ≠ D := fun g hg e => h.ka g hg (.inr e)
  have h' := h.kept kk hp ha
  exact ⟨a, cap, h'.head, h'.own, h'.far, fun e => h'.kp (.inl e), fun g hg e => h'.ka g hg (.inl e), fun k hk => h'.ks k (.inl hk), h'.le⟩
theorem Kept.put {K : Nat → Prop} {a w : World} (h : Kept K a w) {D : Nat} (hD : ¬ K D) (o : Obj) : Kept K a (w.putObj D o) :=
  ⟨h.os, h.tape, h.output, by simpa using h.size, fun k hk => (World.putObj_heap_other (by rintro rfl; exact hD hk)).trans (h.block k hk)⟩
theorem keepsO_below {A B : World} (h : Below A.heap.size A B) : KeepsOthers A B := ⟨h.size, fun k _ hk _ => (h.block k (Array.getElem?_eq_some_iff.1 hk).1).trans hk⟩
theorem seqP_stops {α : Type} {F : Fence} {n : Nat} {P : Program} {g : Nat} {lb : Array Value} {enc : α → Value} {Kp : World → World → Prop} {xs : List α} {w : World} (h : SeqP F n P g lb enc Kp xs w) :
    SeqStopsK F n P g lb (fun x => #[enc x]) Kp (fun ys => ys = xs) (fun pre => pre <+: xs) xs.length w := by
  intro l J Jx W hW _ _ hY h0
  refine (h l J Jx (fun _ _ => False) W hW (fun pre x W1 hj hl => ?_) h0).mono ?_
  · obtain ⟨fn, tmps, assign, body, hy, hR⟩ := hY pre x W1 hj hl
    refine ⟨fn, tmps, assign, body, hy, hR.mono ?_⟩
    rintro e W' (h | h)
    · exact .inl h
    · exact .inr (.inl h)
  · rintro e W' (h | ⟨c, -, h⟩)
    · exact h
    · exact h.elim
theorem kkB {K : Nat → Prop} {w : World} (ks : ∀ k, K k → k < w.heap.size) (W : World) (l : Nat) (o o' : Obj) (hl : w.heap.size ≤ l) (_h : W.heap[l]? = some o) (_h1 : o.isCells = false) (_h2 : o.isWalk = false) : KK K W (W.putObj l o') := KK.put ks W l o' hl
/-- The loop's act in a round: the handed value in yield's slot and in the loop's variable. -/
abbrev actR (a : Act) (q d : Nat) (v : Value) : Act := { tmps := (a.tmps.setIfInBounds q v).setIfInBounds d v, defers := [] }
/-- 'for x := range seq' at the wide fence, no round panicking. -/
theorem range_n {α : Type} {n : Nat} {g : Operand} {q : Tmp} {assign body : Code} {Q : Exit → Act → World → Prop} {a : Act} {w : World} (d : Nat)
    (h1 : 1 ≤ n) {gf : Nat} {lb : Array Value} (hg : a.eval g = .func (.func gf) #[] lb) (eg : ∀ args w, (callFunc gf args).run Try.prog w = .ok (.enter gf args) w)
    {enc : α → Value} {K : Nat → Prop} {xs : List α} (hseq : SeqP Fence.wide (n - 1) Try.prog gf lb enc (KK K) xs w) (ks : ∀ k, K k → k < w.heap.size)
    (I : List α → World → Prop) (Ix : Code → List α → World → Prop) (hI : OwnFrom w.heap.size I) (hIx : ∀ c, OwnFrom w.heap.size (Ix c)) (h0 : I [] w)
    (hassign : ∀ (l : Nat) (x : α) (W : World) (K : Act → World → Prop), K (actR a q d (enc x)) W →
      assign.wpIn (Fence.wide.inRound l) (n - 1 - 1) Try.prog (Exit.then K (fun _ _ _ => False)) { tmps := a.tmps.setIfInBounds q (enc x), defers := [] } W)
    (hbody : ∀ (l : Nat) (pre : List α) (x : α) (W : World), I pre W → pre.length < xs.length → body.wpIn (Fence.wide.inRound l) (n - 1 - 1) Try.prog (ownPostK (KK K) I Ix (pre ++ [x]) W) (actR a q d (enc x)) W)
    (hdone : ∀ (D : Nat) (W : World), w.heap.size ≤ D → I xs W → W.heap[D]? = some (.deferred (some [])) → Q .normal { a with defers := { target := .collected D, args := #[] } :: a.defers } W)
    (hstop : ∀ (D : Nat) (c : Code) (pre : List α) (W : World), w.heap.size ≤ D → pre <+: xs → Ix c pre W → W.heap[D]? = some (.deferred (some [])) → c.wpIn Fence.wide n Try.prog Q { a with defers := { target := .collected D, args := #[] } :: a.defers } W) :
    (Code.rangeFunc g #[q] assign body).wpIn Fence.wide n Try.prog Q a w :=
  wpIn_rangeFunc_ownF rfl h1 hg trivial eg (seqP_stops hseq) KK.trans (kkB ks) (Below.refl _ _) (fun _ => rfl) I Ix hI hIx h0 (fun x => actR a q d (enc x))
    (fun l x W K' hK => by
      have h := hassign l x W K' hK
      have e : (#[q].zip #[enc x]).foldl (fun t (p, v) => t.setIfInBounds p v) a.tmps = a.tmps.setIfInBounds q (enc x) := by simp
      rw [e]
      exact h) hbody (fun D ys W hD e hi hk => by subst e; exact hdone D W hD hi hk) hstop
end Go.Proofs.Qxb6500470a
