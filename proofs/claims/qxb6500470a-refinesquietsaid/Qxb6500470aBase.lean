import Derived.WalkKit
namespace Go.Proofs.Qxb6500470a
open Go.RowKit

abbrev I (n : Int) : Value := .int .i64 n

/-- Block b of the world is the row of cells c (of element type t, nothing in it frozen). -/
def Blk (w : World) (b : Nat) (c : Array Value) (t : TypeId) : Prop := w.heap[b]? = some (.cells c t)

theorem Blk.cell {w : World} {b : Nat} {c : Array Value} {t : TypeId} (h : Blk w b c t) (i : Nat) : w.cell? ⟨b, i, none⟩ = c[i]? := by
  unfold Blk at h; simp [World.cell?, h]
theorem Blk.frozen {w : World} {b : Nat} {c : Array Value} {t : TypeId} (h : Blk w b c t) (i : Nat) : w.frozen? ⟨b, i, none⟩ = false := by
  unfold Blk at h; simp [World.frozen?, h]
theorem Blk.lt {w : World} {b : Nat} {c : Array Value} {t : TypeId} (h : Blk w b c t) : b < w.heap.size := by
  unfold Blk at h
  rcases Nat.lt_or_ge b w.heap.size with h' | h'
  · exact h'
  · simp [Array.getElem?_eq_none h'] at h
theorem Blk.new {w : World} {b : Nat} {c : Array Value} {t : TypeId} (hb : b = w.heap.size) : Blk (w.alloc (.cells c t)) b c t := by
  subst hb; unfold Blk; show (w.heap.push _)[w.heap.size]? = _; simp
theorem Blk.old {w : World} {b : Nat} {c : Array Value} {t : TypeId} (h : Blk w b c t) (o : Obj) : Blk (w.alloc o) b c t := by
  have hl := h.lt; unfold Blk at *
  rw [Below.heap_alloc _ _ _ hl]; exact h
theorem Blk.drew {w : World} {b : Nat} {c : Array Value} {t : TypeId} (h : Blk w b c t) : Blk w.drew b c t := h
theorem Blk.set {w : World} {b i : Nat} {c : Array Value} {t : TypeId} (h : Blk w b c t) (v : Value) : Blk (w.setCell ⟨b, i, none⟩ v) b (c.setIfInBounds i v) t := by
  unfold Blk at *; simp [World.setCell, Array.getElem?_modify, h]
theorem Blk.other {w : World} {b : Nat} {c : Array Value} {t : TypeId} (h : Blk w b c t) {a : Addr} (ha : b ≠ a.block) (v : Value) : Blk (w.setCell a v) b c t := by
  unfold Blk at *; rw [Below.heap_setCell _ _ _ _ ha]; exact h
theorem Blk.below {w w' : World} {B b : Nat} {c : Array Value} {t : TypeId} (h : Blk w b c t) (hb : Below B w w') (hl : b < B) : Blk w' b c t := by
  unfold Blk at *; rw [hb.block b hl]; exact h
theorem Blk.facts {w : World} {b : Nat} {c : Array Value} {t : TypeId} (h : Blk w b c t) : (∀ i, w.cell? ⟨b, i, none⟩ = c[i]?) ∧ (∀ i, w.frozen? ⟨b, i, none⟩ = false) ∧ b < w.heap.size := ⟨h.cell, h.frozen, h.lt⟩
/-- Behind a call that leaves what was there as it was. -/
theorem Below.all {w w' : World} (h : Below w.heap.size w w') {b : Nat} {c : Array Value} {t : TypeId} (k : Blk w b c t) : Blk w' b c t := k.below h k.lt
theorem bcell {W w1 : World} (hb : Below W.heap.size W w1) : (∀ b o, b < W.heap.size → w1.cell? ⟨b, o, none⟩ = W.cell? ⟨b, o, none⟩) ∧ (∀ b o, b < W.heap.size → w1.frozen? ⟨b, o, none⟩ = W.frozen? ⟨b, o, none⟩) :=
  ⟨fun b o h => hb.cell (p := ⟨b, o, none⟩) h, fun b o h => hb.frozen (p := ⟨b, o, none⟩) h⟩
/-- A result that is a struct in memory: its block's cells. -/
theorem ret_row {P : Program} {fn : Func} {R : Ending → World → Prop} {a : Act} {w : World} {p : Tmp} {ty t : TypeId} {g : Nat} {cs : Array Value} {d : TypeDesc} (h : fn.results = #[.cell p ty]) (hdf : a.defers = []) (hp : a.tmps.getD p undef = .pointer (some ⟨g, 0, none⟩)) (hg : Blk w g cs t)
    (hu : P.underlying ty = some d) (hd : (match d with | .struct _ | .array _ _ => true | _ => false) = true) (hi : (P.info? ty).map (·.size) = some cs.size) (hR : R (.returned (.agg cs)) w) : bodyPost P fn R .ret a w :=
  bodyPost_ret (results_cell_row h a.tmps w g t cs (0, 0) d hp hg hu hd hi) hdf hR
/-- Of the blocks that stood in w only those of the list have turned. -/
structure Upd (bs : List Nat) (w w' : World) : Prop where
  os : w'.os = w.os
  tape : w'.tape = w.tape
  output : w'.output = w.output
  size : w.heap.size ≤ w'.heap.size
  block : ∀ k, k < w.heap.size → k ∉ bs → w'.heap[k]? = w.heap[k]?
theorem Upd.refl (bs : List Nat) (w : World) : Upd bs w w := ⟨rfl, rfl, rfl, Nat.le_refl _, fun _ _ _ => rfl⟩
theorem Upd.trans {bs : List Nat} {a b c : World} (h : Upd bs a b) (k : Upd bs b c) : Upd bs a c :=
  ⟨k.os.trans h.os, k.tape.trans h.tape, k.output.trans h.output, Nat.le_trans h.size k.size, fun i hi hn => (k.block i (Nat.lt_of_lt_of_le hi h.size) hn).trans (h.block i hi hn)⟩
theorem Upd.mono {bs cs : List Nat} {w w' : World} (h : Upd bs w w') (hs : ∀ x, x ∈ bs → x ∈ cs) : Upd cs w w' := ⟨h.os, h.tape, h.output, h.size, fun k hk hn => h.block k hk (fun hb => hn (hs k hb))⟩
theorem Upd.drew {bs : List Nat} {a w : World} (h : Upd bs a w) : Upd bs a w.drew := ⟨h.os, h.tape, h.output, h.size, h.block⟩
theorem Upd.alloc {bs : List Nat} {a w : World} (h : Upd bs a w) (o : Obj) : Upd bs a (w.alloc o) :=
  h.trans ⟨rfl, rfl, rfl, by simp, fun k hk _ => Below.heap_alloc _ _ _ hk⟩
theorem Upd.setCell {bs : List Nat} {a w : World} (h : Upd bs a w) {p : Addr} (hp : p.block ∈ bs ∨ a.heap.size ≤ p.block) (u : Value) : Upd bs a (w.setCell p u) :=
  ⟨h.os, h.tape, h.output, by simpa [World.setCell] using h.size, fun k hk hn => by
    rw [Below.heap_setCell _ _ _ _ (by rcases hp with hp | hp; (intro e; subst e; exact hn hp); omega)]; exact h.block k hk hn⟩
theorem Upd.of_below {bs : List Nat} {w w' : World} (h : Below w.heap.size w w') : Upd bs w w' := ⟨h.os, h.tape, h.output, h.size, fun k hk _ => h.block k hk⟩
theorem Upd.below {bs : List Nat} {B : Nat} {w w' : World} (h : Upd bs w w') (hB : B ≤ w.heap.size) (hb : ∀ b, b ∈ bs → B ≤ b) : Below B w w' := ⟨h.os, h.tape, h.output, h.size, fun k hk => h.block k (by omega) (fun hm => by have := hb k hm; omega)⟩
theorem Blk.upd {bs : List Nat} {w w' : World} {b : Nat} {c : Array Value} {t : TypeId} (k : Blk w b c t) (h : Upd bs w w') (hn : b ∉ bs) : Blk w' b c t := by
  have hl := k.lt; unfold Blk at *; rw [h.block b hl hn]; exact k
theorem wr64 (n : Int) (h : -9223372036854775808 ≤ n) (h' : n ≤ 9223372036854775807) : IntKind.i64.wrap n = n := by rw [IntWalk.i64_left]; exact IntWalk.wrap64_in n ⟨h, h'⟩
theorem ret_int {k : IntKind} {a b : Int} (h : a = b) : Ending.returned (.int k a) = .returned (.int k b) := by rw [h]
end Go.Proofs.Qxb6500470a
