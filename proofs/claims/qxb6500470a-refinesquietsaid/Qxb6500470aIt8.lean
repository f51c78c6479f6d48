import Derived.Test.Qxb6500470aIt7
import Derived.Maps.AppendAt
namespace Go.Proofs.Qxb6500470a
open Go.RowKit Go.Shelf
attribute [local go_sem] Oper.semAt_some
/-- Two lists, one behind the other. -/
def appT : TV → TV → TV
  | .cons h t, d => .cons h (appT t d)
  | _, d => d
def conses : List TV → TV → TV
  | [], d => d
  | e :: es, d => .cons e (conses es d)
theorem conses_elems (c d : TV) (h : c.isList = true) : conses (elems c) d = appT c d := by
  induction c with
  | cons a b _ ih =>
    show TV.cons a (conses (elems b) d) = TV.cons a (appT b d)
    cases hb : b.isList with
    | true => rw [ih hb]
    | false => cases b <;> first | (simp [TV.isList] at hb; done) | rfl
  | nil => rfl
  | _ => simp [TV.isList] at h
theorem RV.isList {K : Nat → Prop} {w : World} {y : TV} {tp : Option Addr} (h : RV K w y (.iface 69 (.pointer tp))) : y.isList = true := by
  rcases h.list with ⟨rfl, -⟩ | ⟨a, b, q, hv, tq, rfl, -⟩ <;> rfl
/-- Behind a call that lays new cells alone: the value, and the kept blocks. -/
def NewV (K : Nat → Prop) (w : World) (x : TV) (v : Value) (w' : World) : Prop := ∃ K' : Nat → Prop, (∀ k, K k → K' k) ∧ (∀ k, K' k → K k ∨ (w.heap.size ≤ k ∧ k < w'.heap.size)) ∧ RV K' w' x v
theorem getD_map_enc {K : Nat → Prop} {w : World} (xs : List (El K w)) (k : Nat) (hk : k < xs.length) : (xs.map encE).getD k .nilIface = encE xs[k] := by
  simp [List.getD, hk]
theorem row_cell {w : World} {base : Nat} {g cap : Nat} {vs : List Value} (h : w.ownsRow base 64 1 (.slice (some ⟨g, 0, none⟩) vs.length cap) vs.length vs) (i : Nat) (hi : i < vs.length) : w.cell? ⟨g, i, none⟩ = some (vs.getD i .nilIface) := by
  rcases h.2 with ⟨e, _⟩ | ⟨g', c, cur, hv, -, hg, hle, -, hs, ht⟩
  · simp at e
  · simp only [Value.slice.injEq, true_and, Option.some.injEq, Addr.mk.injEq, and_true] at hv
    obtain ⟨rfl, rfl⟩ := hv
    rw [Blk.cell (w := w) (c := cur) (t := 64) hg i, ← Array.getElem?_toList]
    have e : (cur.toList.take (vs.length * 1))[i]? = vs[i]? := by rw [ht]
    rw [List.getElem?_take, if_pos (by omega)] at e
    rw [e, List.getElem?_eq_getElem hi, List.getD_eq_getElem?_getD, List.getElem?_eq_getElem hi]
    rfl
set_option maxRecDepth 100000 in
set_option maxHeartbeats 8000000 in
theorem listAdd (K : Nat → Prop) (w : World) (tp tq : Option Addr) (c d : TV) (rc : RV K w c (.iface 69 (.pointer tp))) (rd : RV K w d (.iface 69 (.pointer tq))) (ksw : ∀ k, K k → k < w.heap.size) (hc : (text c).length ≤ 30) :
    Calls Try.prog 135 #[.pointer tp, .iface 69 (.pointer tq)] w fun e w' => ∃ r, e = .returned (.tuple #[.iface 69 (.pointer r), I 0]) ∧ NewV K w (appT c d) (.iface 69 (.pointer r)) w' ∧ Below w.heap.size w w' := by
  have ta : ∀ w, (Instr.typeAssert (.iface 69 (.pointer tq)) 64 69 true).run Try.prog w = .ok (.tuple #[.pointer tq, .bool true]) w := fun _ => by kernel_rfl
  have hel : ∀ e ∈ elems c, (text e).length ≤ 30 := fun e he => Nat.le_trans (elem_len c e he) (Nat.le_trans (inner_len c) hc)
  obtain ⟨xs, hch, hxs⟩ := elems_list c tp rc hel
  have hxl : xs.length ≤ 30 := by
    have e1 := congrArg List.length hxs
    have e2 := elems_len c
    have e3 := inner_len c
    simp at e1
    omega
  have hap : conses (xs.map tvE) d = appT c d := by rw [hxs]; exact conses_elems c d rc.isList
  obtain ⟨i0, hi, hz0, hz1, hz2⟩ := info_parts vInfo
  refine (callsIn_wide (n := 7)).1 ?_
  refine callsIn_of_wp_marks Try.func135 rfl trivial ?_ rfl
  simp only [Try.ntmps135, List.size_toArray, List.length_cons, List.length_nil, Nat.reduceAdd, Nat.reduceSub, Array.replicate_succ, Array.replicate_zero, List.push_toArray, List.append_toArray, List.nil_append, List.cons_append]
  gi_wp2_with fail
  refine ⟨trivial, (callsIn_wide.2 (lAll tp _)).mono ?_⟩
  rintro e w2 ⟨rfl, rfl⟩
  gi_wp2_with fail
  have BW : Below w.heap.size w ((w.alloc (.cells #[.slice none 0 0] 60)).alloc (.cells #[.pointer tp] 69)) := ((Below.refl _ _).alloc (Nat.le_refl _) _).alloc (by simp) _
  have B8 : Boxed ((w.alloc (.cells #[.slice none 0 0] 60)).alloc (.cells #[.pointer tp] 69)) w.heap.size 60 (.slice none 0 0) := (Boxed.new w _ _).alloc _
  have B9 : Blk ((w.alloc (.cells #[.slice none 0 0] 60)).alloc (.cells #[.pointer tp] 69)) (w.heap.size + 1) #[.pointer tp] 69 := Blk.new (by simp)
  generalize ((w.alloc (.cells #[.slice none 0 0] 60)).alloc (.cells #[.pointer tp] 69)) = W0 at *
  have lt9 := B9.lt
  have ks0 : ∀ k, K k → k < W0.heap.size := fun k hk => by have := ksw k hk; omega
  refine range_n 9 (by omega) (gf := 139) (lb := #[ptr (w.heap.size + 1)]) rfl (enters_of Try.func139 (by kernel_rfl) rfl)
    (list_seq encE K (w.heap.size + 1) tp xs W0 6 (by omega) B9.lt (B9.cell 0) ks0 (hch.below (fun q hq => BW.block q (ksw q hq)))) ks0
    (fun pre W => (∃ v, Boxed W w.heap.size 60 v ∧ W.ownsRow w.heap.size 64 1 v pre.length (pre.map encE) ∧ (v = .slice none 0 0 ↔ pre = [])) ∧ Below w.heap.size w W)
    (fun _ _ _ => False)
    ?hI ?hIx ?h0 ?assign ?body ?done ?stop
  case hI =>
    exact OwnFrom.and (Own.from (holdsRow_own w.heap.size w.heap.size 60 64 1 (fun pre : List (El K w) => pre.length) (fun pre => pre.map encE) (fun pre v => v = .slice none 0 0 ↔ pre = [])) _) (ownFrom_below (Nat.le_refl _) (by omega))
  case hIx => exact fun _ _ _ _ _ h _ _ => h
  case h0 => exact ⟨⟨_, B8, World.ownsRow_nil _ _ _ _, by simp⟩, BW⟩
  case assign =>
    intro l e W K' hK
    gi_wp2
    exact hK
  case body =>
    rintro l pre ⟨⟨xe, ve⟩, re, le30⟩ W ⟨⟨v, hv, hrow, hnil⟩, hB⟩ hlt
    obtain ⟨t2, u2, rfl⟩ := re.iface
    have hc0 := hv.cell
    gi_wp2_with (gi_at_builtin; refine wpListIn_append_own _ rfl _ _ 60 rfl w.heap.size 64 i0 .nilIface 1 16 Try.underlying60 hi hz0 hz1 hz2 rfl (by decide) _ _ _ rfl (hrow.alloc _) ⟨W.heap.size, 0, none⟩ 1 1 [.iface t2 u2] rfl rfl (cell_one_new _ _ _) (by simp [Value.oneCell']) (by unfold maxLen; omega) (by omega) (by have := hB.size; simp; omega) ?_; intro v' w1 hown' hgrow _; obtain ⟨g', cap', rfl⟩ := ownsRow_succ hown'; obtain ⟨hv1, hv2, hr2, hk2, hb2⟩ := hv.appended (by decide) hrow hB.size (Nat.le_refl _) hown' hgrow; have hc1 := hv1.cell; have hf1 := hv1.frozen)
    exact ⟨hk2, fun q hq => hb2.block q (ksw q hq), ⟨_, hv2, by simpa using hr2, by simp⟩, hB.trans hb2⟩
  case done =>
    rintro D W hD ⟨⟨v, hv, hrow, hnil⟩, hB⟩ hK
    have hc0 := hv.cell
    have hap' : Hid _ := hap
    have fin : ∀ (W' : World) (r : Option Addr) (Kc : Nat → Prop), (∀ k, K k → Kc k) → (∀ k, Kc k → K k ∨ (w.heap.size ≤ k ∧ k < W'.heap.size ∧ k ≠ D)) → RV Kc W' (conses (xs.map tvE) d) (.iface 69 (.pointer r)) → Below w.heap.size w W' → NewV K w (appT c d) (.iface 69 (.pointer r)) (W'.putObj D (.deferred none)) ∧ Below w.heap.size w (W'.putObj D (.deferred none)) := by
      intro W' r Kc m n rv bb
      rw [hap'.out] at rv
      have kk : Kept Kc W' (W'.putObj D (.deferred none)) := ⟨rfl, rfl, rfl, by simp, fun k hk => World.putObj_heap_other (by
        rcases n k hk with e | e
        · have := ksw k e; omega
        · exact e.2.2)⟩
      refine ⟨⟨Kc, m, fun k hk => ?_, rv.kept kk⟩, bb.grown (grownBy_putObj' _ D _) bb.size (fun k e => by cases e; omega)⟩
      rcases n k hk with e | e
      · exact .inl e
      · exact .inr ⟨e.1, by simpa using e.2.1⟩
    have rdW := rd.kept (Kept.of_below hB ksw)
    have DltW := (Array.getElem?_eq_some_iff.1 hK).1
    cases hx : xs with
    | nil =>
      obtain rfl : v = .slice none 0 0 := hnil.2 hx
      have hx' : Hid _ := hx
      clear hx hnil hrow hap hxs hch hxl
      gi_wp2
      gi_loopw [6, 10, 11] (fun sm i cc wr => sm = .pointer tq ∧ i = I (-1) ∧ wr = W) (fun _ _ _ _ => 0)
      case atStart => exact ⟨rfl, rfl, rfl⟩
      case round =>
        obtain ⟨rfl, rfl, rfl⟩ := hrel
        gi_wp2
        refine ⟨by simp, .inl ⟨_, _, rfl, run_takeDeferred hK, ?_⟩⟩
        refine ⟨_, by simp [results, Try.results135, go_sem], ⟨tq, rfl, fin wr tq K (fun _ h => h) (fun _ h => .inl h) (by rw [hx'.out]; exact rdW) hB⟩⟩
    | cons x0 xs' =>
      have hlen : xs.length = xs'.length + 1 := by rw [hx]; rfl
      obtain ⟨g, cap, hvg⟩ : ∃ g cap, v = .slice (some ⟨g, 0, none⟩) xs.length cap := by
        have hrow' := hrow
        rw [hlen] at hrow'
        obtain ⟨g, cap, e⟩ := ownsRow_succ hrow'
        exact ⟨g, cap, by rw [hlen]; exact e⟩
      subst hvg
      clear hx hlen hnil
      gi_wp2
      gi_loopw [6, 10, 11] (fun sm i cc wr => ∃ (k : Nat) (r : Option Addr) (Kc : Nat → Prop), k ≤ xs.length ∧ i = I ((k : Int) - 1) ∧ sm = .pointer r ∧ (∀ k, K k → Kc k) ∧ (∀ k, Kc k → K k ∨ (w.heap.size ≤ k ∧ k < wr.heap.size ∧ k ≠ D)) ∧ RV Kc wr (conses ((xs.drop k).map tvE) d) (.iface 69 (.pointer r)) ∧ Below W.heap.size W wr) (fun _ i _ _ => (intOf i + 1).toNat)
      case atStart => exact ⟨xs.length, tq, K, Nat.le_refl _, by go_num, rfl, fun _ h => h, fun _ h => .inl h, by rw [List.drop_length]; exact rdW, Below.refl _ _⟩
      case round =>
        obtain ⟨k, r, Kc, hk, rfl, rfl, hm, hn, rv, br⟩ := hrel
        have hKr : wr.heap[D]? = some (.deferred (some [])) := (br.block D DltW).trans hK
        cases k with
        | zero =>
          gi_wp2
          refine ⟨by simp, .inl ⟨_, _, rfl, run_takeDeferred hKr, ?_⟩⟩
          refine ⟨_, by simp [results, Try.results135, go_sem], ⟨r, rfl, fin wr r Kc hm hn (by simpa using rv) (hB.trans (br.mono hB.size))⟩⟩
        | succ j =>
          have hj : j < xs.length := by omega
          obtain ⟨t2, u2, he⟩ := xs[j].2.1.iface
          have ksr : ∀ k, Kc k → k < wr.heap.size := by
            intro k hk
            rcases hn k hk with e | e
            · have := ksw k e; have := hB.size; have := br.size; omega
            · exact e.2.1
          have rj : RV Kc wr (tvE xs[j]) (.iface t2 u2) := by
            have := ((xs[j].2.1.kept (Kept.of_below hB ksw)).kept (Kept.of_below br (fun k hk => by have := ksw k hk; have := hB.size; omega))).mono hm
            rw [he] at this
            exact this
          have hvr : Boxed wr w.heap.size 60 (.slice (some ⟨g, 0, none⟩) xs.length cap) := (br.block _ hv.lt).trans hv
          have hr2 : W.ownsRow w.heap.size 64 1 (.slice (some ⟨g, 0, none⟩) (xs.map encE).length cap) (xs.map encE).length (xs.map encE) := by simpa using hrow
          have cg := row_cell hr2 j (by simpa using hj)
          rw [getD_map_enc xs j hj, show encE xs[j] = .iface t2 u2 from he] at cg
          have lg : g < W.heap.size := World.block_lt_of_cell? W ⟨g, j, none⟩ cg
          have cg2 : wr.cell? ⟨g, j, none⟩ = some (.iface t2 u2) := (br.cell (p := ⟨g, j, none⟩) lg).trans cg
          have cgA : ∀ cl, (wr.alloc (.cells cl 72)).cell? ⟨g, j, none⟩ = some (.iface t2 u2) := fun cl => by
            have bz : Below wr.heap.size wr (wr.alloc (.cells cl 72)) := (Below.refl _ _).alloc (Nat.le_refl _) _
            exact (bz.cell (p := ⟨g, j, none⟩) (by have := br.size; show g < wr.heap.size; omega)).trans cg2
          have cvA : ∀ cl, (wr.alloc (.cells cl 72)).cell? ⟨w.heap.size, 0, none⟩ = some (.slice (some ⟨g, 0, none⟩) xs.length cap) := fun cl => (hvr.alloc _).cell
          have hj0 : (0 : Int) ≤ (j : Int) := by omega
          have hj1 : (j : Int) < (xs.length : Int) := by omega
          have hj2 : ((j + 1 : Nat) : Int) - 1 = (j : Int) := by omega
          rw [hj2]
          have DR : Hid (xs.drop j = xs[j] :: xs.drop (j + 1)) := List.drop_eq_getElem_cons hj
          have RN := RV.consNew (x := tvE xs[j]) ksr rj rv
          have Dr := br.size
          clear hrow hr2 cg rd rc hch hxs hap
          gi_wp2
          go_roundw
          case rel =>
            refine ⟨j, some ⟨wr.heap.size, 0, none⟩, (fun k => Kc k ∨ k = wr.heap.size), by omega, by go_num, rfl, fun k h => .inl (hm k h), ?_, ?_, br.trans ((Below.refl _ _).alloc br.size _)⟩
            · rintro k (e | rfl)
              · rcases hn k e with e | e
                · exact .inl e
                · exact .inr ⟨e.1, by rw [World.size_alloc]; omega, e.2.2⟩
              · exact .inr ⟨by have := hB.size; omega, by rw [World.size_alloc]; omega, by omega⟩
            · rw [DR.out]
              exact RN
          case measure => simp [intOf]
  case stop =>
    rintro D cd pre W hD hpre h hK
    exact h.elim
end Go.Proofs.Qxb6500470a
