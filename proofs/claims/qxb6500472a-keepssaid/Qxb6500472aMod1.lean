import Derived.Test.Qxb6500472aSer8
import Derived.Deep.AppendLies
namespace Go.Proofs.Qxb6500472a
open Go.RowKit
attribute [local go_sem] run_store_float drewN_alloc drewN_setCell
/-- The block of a slice's address. -/
def blk? : Option Addr → Option Nat
  | some a => some a.block
  | none => none
theorem own_slice (a : Option Addr) (n c : Nat) : (Value.slice a n c).ownBlock = blk? a := by cases a <;> rfl
/-- The abstract series at p: its samples ys in a row of its own (block blk? a), k calls of Min and Max. -/
structure SerM (w : World) (p : Nat) (a : Option Addr) (cap : Nat) (k : Int) (ys : List Nat) : Prop where
  head : Blk w p #[.slice a ys.length cap, I k] 106
  own : w.ownsRow 0 80 1 (.slice a ys.length cap) ys.length (ys.map D64)
  far : blk? a ≠ some p
  le : ys.length ≤ 8
theorem SerM.form {w : World} {p : Nat} {a : Option Addr} {cap : Nat} {k : Int} {ys : List Nat} (h : SerM w p a cap k ys) (hn : 0 < ys.length) :
    ∃ g, a = some ⟨g, 0, none⟩ ∧ (∀ i, i < ys.length → w.cell? ⟨g, i, none⟩ = some (D64 (ys.getD i 0))) ∧ ys.length ≤ cap ∧ g ≠ p ∧ g < w.heap.size := by
  rcases h.own.2 with ⟨_, h0⟩ | ⟨g, c, cur, hv, -, hg, hle, -, hs, ht⟩
  · omega
  · simp only [Value.slice.injEq, true_and] at hv
    obtain ⟨rfl, rfl⟩ := hv
    refine ⟨g, rfl, ?_, hle, ?_, Blk.lt (w := w) (c := cur) (t := 80) hg⟩
    · intro i hi
      rw [Blk.cell (w := w) (c := cur) (t := 80) hg i, ← Array.getElem?_toList]
      have e : (cur.toList.take (ys.length * 1))[i]? = (ys.map D64)[i]? := by rw [ht]
      rw [List.getElem?_take, if_pos (by omega)] at e
      rw [e, List.getElem?_map, List.getElem?_eq_getElem hi, List.getD_eq_getElem?_getD, List.getElem?_eq_getElem hi]
      rfl
    · intro e
      subst e
      exact h.far rfl
theorem SerM.upd {bs : List Nat} {w w' : World} {p : Nat} {a : Option Addr} {cap : Nat} {k : Int} {ys : List Nat} (h : SerM w p a cap k ys) (u : Upd bs w w') (hp : p ∉ bs) (ha : ∀ g, blk? a = some g → g ∉ bs) : SerM w' p a cap k ys := by
  refine ⟨h.head.upd u hp, ?_, h.far, h.le⟩
  refine ⟨h.own.1, ?_⟩
  rcases h.own.2 with h0 | ⟨g, c, cur, hv, h1, hg, h2⟩
  · exact .inl h0
  · refine .inr ⟨g, c, cur, hv, h1, ?_, h2⟩
    have e : a = some ⟨g, 0, none⟩ := by simp only [Value.slice.injEq] at hv; exact hv.1
    exact Blk.upd (w := w) (t := 80) hg u (ha g (by rw [e]; rfl))
theorem SerM.later {w w' : World} {p : Nat} {a : Option Addr} {cap : Nat} {k : Int} {ys : List Nat} (h : SerM w p a cap k ys) (u : Below w.heap.size w w') : SerM w' p a cap k ys :=
  h.upd (Upd.of_below (bs := []) u) (by simp) (fun _ _ => by simp)
theorem SerM.drewN {w : World} {p : Nat} {a : Option Addr} {cap : Nat} {k : Int} {ys : List Nat} (h : SerM w p a cap k ys) (n : Nat) : SerM (w.drewN n) p a cap k ys := ⟨h.head, h.own, h.far, h.le⟩
theorem SerM.asks {w : World} {p : Nat} {a : Option Addr} {cap : Nat} {k : Int} {ys : List Nat} (h : SerM w p a cap k ys) (j : Int) : SerM (w.setCell ⟨p, 1, none⟩ (I j)) p a cap j ys := by
  refine ⟨h.head.set (i := 1) (I j), ?_, h.far, h.le⟩
  refine ⟨h.own.1, ?_⟩
  rcases h.own.2 with h0 | ⟨g, c, cur, hv, h1, hg, h2⟩
  · exact .inl h0
  · refine .inr ⟨g, c, cur, hv, h1, ?_, h2⟩
    have e : a = some ⟨g, 0, none⟩ := by simp only [Value.slice.injEq] at hv; exact hv.1
    exact Blk.other (w := w) (t := 80) hg (a := ⟨p, 1, none⟩) (fun e2 => h.far (by rw [e]; exact congrArg some e2)) _
theorem SerM.at0 {w : World} {p : Nat} {a : Option Addr} {cap : Nat} {k : Int} {ys : List Nat} (h : SerM w p a cap k ys) : w.cell? ⟨p, 0, none⟩ = some (.slice a ys.length cap) ∧ w.cell? ⟨p, 1, none⟩ = some (I k) ∧ w.frozen? ⟨p, 0, none⟩ = false ∧ w.frozen? ⟨p, 1, none⟩ = false ∧ p < w.heap.size :=
  ⟨h.head.cell 0, h.head.cell 1, h.head.frozen 0, h.head.frozen 1, h.head.lt⟩

set_option maxHeartbeats 400000 in
theorem mNew_any (w : World) :
    Calls Try.prog 34 #[] w fun e w' => e = .returned (ptr w.heap.size) ∧ SerM w' w.heap.size none 0 0 [] ∧ Below w.heap.size w w' := by
  go_enter Try.func34, Try.ntmps34
  go_wp2
  go_ret
  exact ⟨rfl, ⟨Blk.new rfl, World.ownsRow_nil _ _ _ _, by simp [blk?], by simp⟩, (Below.refl _ _).alloc (Nat.le_refl _) _⟩

set_option maxHeartbeats 400000 in
theorem mLen_any (w : World) (p : Nat) (a : Option Addr) (cap : Nat) (k : Int) (ys : List Nat) (h : SerM w p a cap k ys) :
    Calls Try.prog 42 #[ptr p] w fun e w' => e = .returned (I ys.length) ∧ w' = w := by
  obtain ⟨c0, c1, f0, f1, lp⟩ := h.at0
  go_enter Try.func42, Try.ntmps42
  go_wp2
  go_ret
  exact ⟨rfl, rfl⟩

theorem mInfo : (Try.prog.info? 80).map (fun i => (i.zero, i.size, i.bytes)) = some (some (D64 0), 1, 8) := by kernel_rfl

set_option maxHeartbeats 1000000 in
theorem mPush_full (num den : Int) (w : World) (p : Nat) (a : Option Addr) (cap : Nat) (k : Int) (ys : List Nat) (h : SerM w p a cap k ys) (hn : ys.length = 8) :
    Calls Try.prog 43 #[ptr p, I num, I den] w fun e w' => e = .returned (I 1) ∧ w' = w := by
  obtain ⟨c0, c1, f0, f1, lp⟩ := h.at0
  have h8 : (8 : Int) ≤ (ys.length : Int) := by omega
  clear hn
  go_enter Try.func43, Try.ntmps43
  go_wp2
  go_ret
  exact ⟨rfl, rfl⟩

theorem mstore {w : World} {p g cap : Nat} {k : Int} {ys : List Nat} {v0 : Value} (P1 : Blk w p #[v0, I k] 106) (O : w.ownsRow 0 80 1 (.slice (some ⟨g, 0, none⟩) ys.length cap) ys.length (ys.map D64)) (hne : g ≠ p) (hle : ys.length ≤ 8) :
    SerM (w.setCell ⟨p, 0, none⟩ (.slice (some ⟨g, 0, none⟩) ys.length cap)) p (some ⟨g, 0, none⟩) cap k ys := by
  refine ⟨P1.set (i := 0) _, ⟨O.1, ?_⟩, fun e => hne (by simpa [blk?] using e), hle⟩
  rcases O.2 with h0 | ⟨g', c, cur, hv, h1, hg, h2⟩
  · exact .inl h0
  · refine .inr ⟨g', c, cur, hv, h1, ?_, h2⟩
    have e : g = g' := by simp only [Value.slice.injEq, Option.some.injEq, Addr.mk.injEq] at hv; exact hv.1.1
    subst e
    exact Blk.other (w := w) (t := 80) hg (a := ⟨p, 0, none⟩) hne _

set_option maxHeartbeats 2000000 in
theorem mPush_room (num den : Int) (w : World) (p : Nat) (a : Option Addr) (cap : Nat) (k : Int) (ys : List Nat) (h : SerM w p a cap k ys) (hn : ys.length < 8) :
    Calls Try.prog 43 #[ptr p, I num, I den] w fun e w' => e = .returned (I 0) ∧ ∃ g cap' y, SerM w' p (some ⟨g, 0, none⟩) cap' k (ys ++ [y]) ∧ can64 y = ratioF num den ∧ (blk? a = some g ∨ w.heap.size ≤ g) ∧ (∀ bs, p ∈ bs → (∀ g, blk? a = some g → g ∈ bs) → Upd bs w w') := by
  obtain ⟨c0, c1, f0, f1, lp⟩ := h.at0
  have h8 : ¬ (8 : Int) ≤ (ys.length : Int) := by omega
  obtain ⟨rq, nq, hq, cq⟩ := arith_ex Try.prog .quo 80 .f64 (by simp)
  obtain ⟨i0, hi, hz0, hz1, hz2⟩ := info_parts mInfo
  have HO : w.ownsRow 0 80 1 (.slice a ys.length cap) ys.length (ys.map D64) := h.own
  have HF := h.far
  have HH := h.head
  clear h
  go_enter Try.func43, Try.ntmps43
  go_wp2_with (at_builtin; go_loud (refine wpList_append_lies _ rfl (.tmp 17) (.tmp 23) 104 rfl 0 80 i0 (D64 0) 1 8 Try.underlying104 hi hz0 hz1 hz2 rfl (by decide) (.slice a ys.length cap) _ _ rfl (World.ownsRow.alloc HO _) ⟨w.heap.size, 0, none⟩ 1 1 [D64 _] rfl rfl (cell_one_new _ _ _) (by intro u hu; simp at hu; subst hu; rfl) (by decide) (by unfold maxLen; omega) (by omega) (Nat.zero_le _) (w.heap.size + 1) (World.size_alloc _ _) ?_); intro g cap' w1 hown hgrow hat hlt; go_loud (rw [own_slice] at hgrow hat); have P1 : Blk w1 p #[.slice a ys.length cap, I k] 106 := (hgrow.block p (by show p < (w.alloc _).heap.size; rw [World.size_alloc]; omega) (fun e => HF e.symm)).trans (HH.old _); have d0 := P1.cell 0; have d1 := P1.frozen 0)
  go_ret
  have hgp : g ≠ p := by
    rcases hat with e | e
    · intro e2; subst e2; exact HF e
    · omega
  have hl : (ys ++ [rq (floatOfInt .f64 num) (floatOfInt .f64 den) w]).length = ys.length + 1 := by simp
  refine ⟨rfl, g, cap', rq (floatOfInt .f64 num) (floatOfInt .f64 den) w, ?_, ?_, ?_, ?_⟩
  · have hm := mstore (w := w1) (g := g) (cap := cap') (ys := ys ++ [rq (floatOfInt .f64 num) (floatOfInt .f64 den) w]) P1 (by rw [hl, List.map_append]; exact hown) hgp (by rw [hl]; omega)
    rw [hl] at hm
    exact hm
  · exact (cq.out _ _ _).trans (by rw [can_ofInt, can_ofInt]; rfl)
  · rcases hat with e | e
    · exact .inl e
    · exact .inr (by omega)
  · intro bs hp hb
    refine Upd.setCell ?_ (Or.inl hp) _
    have hs : w.heap.size < w1.heap.size := Nat.lt_of_lt_of_le (by show w.heap.size < (w.alloc _).heap.size; rw [World.size_alloc]; omega) hgrow.size
    exact ⟨hgrow.os, hgrow.tape, hgrow.output, by omega, fun j hj hjn => (hgrow.block j (by show j < (w.alloc _).heap.size; rw [World.size_alloc]; omega) (fun e => hjn (hb j e.symm))).trans (Below.heap_alloc _ _ _ hj)⟩
end Go.Proofs.Qxb6500472a
