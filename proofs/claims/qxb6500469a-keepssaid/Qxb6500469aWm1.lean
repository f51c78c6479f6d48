import Derived.Test.Qxb6500469aWd8
namespace Go.Proofs.Qxb6500469a
open Go.RowKit

/-! ### a row of ints -/
def inC (xs : List Nat) : List Value := xs.map fun (x : Nat) => I (x : Int)
theorem iInfo : (Try.prog.info? 3).map (fun i => (i.zero, i.size, i.bytes)) = some (some (I 0), 1, 8) := by kernel_rfl
structure OwnI (N : Nat) (w : World) (a : Option Addr) (cap : Nat) (xs : List Nat) : Prop where
  own : w.ownsRow 0 3 1 (.slice a xs.length cap) xs.length (inC xs)
  fresh : ∀ g, blk? a = some g → N ≤ g
theorem OwnI.nil (N : Nat) (w : World) : OwnI N w none 0 [] := ⟨World.ownsRow_nil _ _ _ _, fun g hg => by cases hg⟩
theorem OwnI.push {N : Nat} {w w1 : World} {a : Option Addr} {cap g cap' : Nat} {xs : List Nat} {o : Obj} {c : Nat} (h : OwnI N w a cap xs) (hN : N ≤ w.heap.size)
    (hown : w1.ownsRow 0 3 1 (.slice (some ⟨g, 0, none⟩) (xs.length + 1) cap') (xs.length + 1) (inC xs ++ [I (c : Int)])) (hgrow : (w.alloc o).grownBy w1 (blk? a)) (hat : blk? a = some g ∨ g = w.heap.size + 1) :
    OwnI N w1 (some ⟨g, 0, none⟩) cap' (xs ++ [c]) ∧ Below N w w1 := by
  refine ⟨⟨?_, fun g' e => ?_⟩, ?_⟩
  · rw [List.length_append]
    unfold inC at *
    rw [List.map_append]
    exact hown
  · obtain rfl : g = g' := by simpa [blk?] using e
    rcases hat with e | e
    · exact h.fresh _ e
    · omega
  · have hs : w.heap.size < w1.heap.size := Nat.lt_of_lt_of_le (by show w.heap.size < (w.alloc _).heap.size; rw [World.size_alloc]; omega) hgrow.size
    refine ⟨hgrow.os, hgrow.tape, hgrow.output, by omega, fun j hj => ?_⟩
    exact (hgrow.block j (by show j < (w.alloc _).heap.size; rw [World.size_alloc]; omega) (fun e => by have := h.fresh j e.symm; omega)).trans (Below.heap_alloc _ _ _ (by omega))
theorem OwnI.later {N : Nat} {w w' : World} {a : Option Addr} {cap : Nat} {xs : List Nat} (h : OwnI N w a cap xs) (b : Below w.heap.size w w') : OwnI N w' a cap xs := by
  refine ⟨⟨h.own.1, ?_⟩, h.fresh⟩
  rcases h.own.2 with h0 | ⟨g, c, cur, hv, h1, hg, h2⟩
  · exact .inl h0
  · exact .inr ⟨g, c, cur, hv, h1, Blk.below (w := w) (t := 3) hg b (Blk.lt (w := w) (c := cur) (t := 3) hg), h2⟩

/-! ### the model's board -/
structure MbR (w : World) (b : Nat) (ad : Option Addr) (cap u : Nat) (a p q : Int) : Prop where
  head : Blk w b #[.slice ad (bitsL u 64).length cap, I a, I p, I q] 89
  own : w.ownsRow 0 3 1 (.slice ad (bitsL u 64).length cap) (bitsL u 64).length (inC (bitsL u 64))
  far : blk? ad ≠ some b
  hu : u < 18446744073709551616
  ha : -128 ≤ a ∧ a ≤ 127
  hp : -32768 ≤ p ∧ p ≤ 32767
  hq : 0 ≤ q ∧ q ≤ 65535
theorem MbR.upd {bs : List Nat} {w w' : World} {b : Nat} {ad : Option Addr} {cap u : Nat} {a p q : Int} (h : MbR w b ad cap u a p q) (k : Upd bs w w') (hb : b ∉ bs) (hg : ∀ g, blk? ad = some g → g ∉ bs) : MbR w' b ad cap u a p q := by
  refine ⟨h.head.upd k hb, ⟨h.own.1, ?_⟩, h.far, h.hu, h.ha, h.hp, h.hq⟩
  rcases h.own.2 with h0 | ⟨g, c, cur, hv, h1, hB, h2⟩
  · exact .inl h0
  · refine .inr ⟨g, c, cur, hv, h1, ?_, h2⟩
    have e : ad = some ⟨g, 0, none⟩ := by simp only [Value.slice.injEq] at hv; exact hv.1
    exact Blk.upd (w := w) (t := 3) hB k (hg g (by rw [e]; rfl))
theorem MbR.later {w w' : World} {b : Nat} {ad : Option Addr} {cap u : Nat} {a p q : Int} (h : MbR w b ad cap u a p q) (k : Below w.heap.size w w') : MbR w' b ad cap u a p q := h.upd (Upd.of_below (bs := []) k) (by simp) (fun _ _ => by simp)
theorem MbR.rowlt {w : World} {b : Nat} {ad : Option Addr} {cap u : Nat} {a p q : Int} (h : MbR w b ad cap u a p q) : ∀ g, blk? ad = some g → (bitsL u 64).length ≠ 0 → g < w.heap.size := by
  intro g hg hl
  rcases h.own.2 with ⟨-, h0⟩ | ⟨g', c, cur, hv, h1, hB, h2⟩
  · exact absurd h0 hl
  · have e : ad = some ⟨g', 0, none⟩ := by simp only [Value.slice.injEq] at hv; exact hv.1
    rw [e] at hg
    obtain rfl : g' = g := by simpa [blk?] using hg
    exact Blk.lt (w := w) (c := cur) (t := 3) hB
theorem MbR.row {w : World} {b : Nat} {ad : Option Addr} {cap u : Nat} {a p q : Int} (h : MbR w b ad cap u a p q) (k : Nat) (hk : k < (bitsL u 64).length) :
    ∃ g, ad = some ⟨g, 0, none⟩ ∧ w.cell? ⟨g, k, none⟩ = some (I ((bitsL u 64).getD k 0 : Nat)) ∧ (bitsL u 64).length ≤ cap := by
  rcases h.own.2 with ⟨-, h0⟩ | ⟨g, c, cur, hv, -, hg, hle, -, hs, ht⟩
  · omega
  · simp only [Value.slice.injEq, true_and] at hv
    obtain ⟨rfl, rfl⟩ := hv
    refine ⟨g, rfl, ?_, hle⟩
    rw [Blk.cell (w := w) (c := cur) (t := 3) hg k, ← Array.getElem?_toList]
    have e : (cur.toList.take ((bitsL u 64).length * 1))[k]? = (inC (bitsL u 64))[k]? := by rw [ht]
    rw [List.getElem?_take, if_pos (by omega)] at e
    rw [e]
    unfold inC
    rw [List.getElem?_map, List.getElem?_eq_getElem hk, List.getD_eq_getElem?_getD, List.getElem?_eq_getElem hk]
    rfl
theorem MbR.cells {w : World} {b : Nat} {ad : Option Addr} {cap u : Nat} {a p q : Int} (h : MbR w b ad cap u a p q) : w.cell? ⟨b, 0, none⟩ = some (.slice ad (bitsL u 64).length cap) ∧ w.cell? ⟨b, 1, none⟩ = some (I a) ∧ w.cell? ⟨b, 2, none⟩ = some (I p) ∧ w.cell? ⟨b, 3, none⟩ = some (I q) := ⟨h.head.cell 0, h.head.cell 1, h.head.cell 2, h.head.cell 3⟩
/-- The board's set becomes an owned row. -/
theorem MbR.take {N : Nat} {w : World} {b : Nat} {ad : Option Addr} {cap u : Nat} {a p q : Int} (h : MbR w b ad cap u a p q) {ad2 : Option Addr} {cap2 v : Nat} (o : OwnI N w ad2 cap2 (bitsL v 64)) (hv : v < 18446744073709551616) (hb : b < N) : MbR (w.setCell ⟨b, 0, none⟩ (.slice ad2 (bitsL v 64).length cap2)) b ad2 cap2 v a p q := by
  have hf : blk? ad2 ≠ some b := fun e => by have := o.fresh b e; omega
  refine ⟨h.head.set (i := 0) (.slice ad2 (bitsL v 64).length cap2), ⟨o.own.1, ?_⟩, hf, hv, h.ha, h.hp, h.hq⟩
  rcases o.own.2 with h0 | ⟨g, c, cur, hvv, h1, hB, h2⟩
  · exact .inl h0
  · refine .inr ⟨g, c, cur, hvv, h1, ?_, h2⟩
    have e : ad2 = some ⟨g, 0, none⟩ := by simp only [Value.slice.injEq] at hvv; exact hvv.1
    exact Blk.other (w := w) (t := 3) hB (a := ⟨b, 0, none⟩) (fun e2 => hf (by rw [e]; exact congrArg some e2)) _

set_option maxHeartbeats 400000 in
theorem mNew_any (w : World) : Calls Try.prog 63 #[] w fun e w' => e = .returned (ptr w.heap.size) ∧ MbR w' w.heap.size none 0 0 0 0 0 ∧ Below w.heap.size w w' := by
  go_enter Try.func63, Try.ntmps63
  go_wp2
  go_ret
  refine ⟨rfl, ⟨?_, ?_, by simp [blk?], by omega, by omega, by omega, by omega⟩, (Below.refl _ _).alloc (Nat.le_refl _) _⟩
  · rw [bitsL_zero]; exact Blk.new rfl
  · rw [bitsL_zero]; exact World.ownsRow_nil _ _ _ _
theorem hasB_mem (u : Nat) (i : Int) : hasB u i = true ↔ ∃ x, x ∈ bitsL u 64 ∧ (x : Int) = i := by
  unfold hasB inB
  constructor
  · intro h
    simp only [Bool.and_eq_true, decide_eq_true_eq] at h
    exact ⟨i.toNat, (bitsL_mem u 64 _).2 ⟨by omega, h.2⟩, by omega⟩
  · rintro ⟨x, hx, rfl⟩
    obtain ⟨a, b⟩ := (bitsL_mem u 64 x).1 hx
    simp only [Bool.and_eq_true, decide_eq_true_eq, Int.toNat_natCast]
    exact ⟨⟨by omega, by omega⟩, b⟩
set_option maxRecDepth 100000 in
set_option maxHeartbeats 2000000 in
theorem mhas_any (w : World) (b : Nat) (ad : Option Addr) (cap u : Nat) (a p q : Int) (h : MbR w b ad cap u a p q) (i : Int) : Calls Try.prog 67 #[ptr b, I i] w fun e w' => e = .returned (.bool (hasB u i)) ∧ w' = w := by
  obtain ⟨c0, -, -, -⟩ := h.cells
  have hl := bitsL_len u 64
  have HM : Hid _ := hasB_mem u i
  obtain ⟨L, hL⟩ : ∃ L, L = (bitsL u 64).length := ⟨_, rfl⟩
  have hrow := h.row
  rw [← hL] at c0 hl hrow
  have hmem : ∀ k, k < L → (bitsL u 64).getD k 0 ∈ bitsL u 64 := by
    intro k hk
    rw [List.getD_eq_getElem?_getD, List.getElem?_eq_getElem (by omega)]
    exact List.getElem_mem _
  have hget : ∀ x, x ∈ bitsL u 64 → ∃ k, k < L ∧ (bitsL u 64).getD k 0 = x := by
    intro x hx
    obtain ⟨k, hk, e⟩ := List.getElem_of_mem hx
    exact ⟨k, by omega, by rw [List.getD_eq_getElem?_getD, List.getElem?_eq_getElem hk]; exact e⟩
  have HME : Hid _ := hmem
  have HGE : Hid _ := hget
  have HRO : Hid _ := hrow
  clear h hL hmem hget hrow
  generalize hlist : bitsL u 64 = l at *
  generalize hasB u i = res at *
  go_enter Try.func67, Try.ntmps67
  go_wp2
  go_loopw [5] (fun k wr => ∃ n : Nat, n ≤ L ∧ k = I n ∧ Hid (∀ j, j < n → ((l.getD j 0 : Nat) : Int) ≠ i) ∧ wr = w) (fun k _ => (L - intOf k).toNat)
  case atStart => exact ⟨0, by omega, rfl, fun j hj => by omega, rfl⟩
  case round =>
    obtain ⟨n, hn, rfl, hno, rfl⟩ := hrel
    by_cases hlt : n < L
    · have q1 : (n : Int) < (L : Int) := by omega
      obtain ⟨g, rfl, r0, r1⟩ := HRO.out n hlt
      have hmm := HME.out n hlt
      have q2 := wr64 ((n : Int) + 1) (by omega) (by omega)
      generalize hx : l.getD n 0 = x at *
      have HX : Hid _ := hx
      clear hx
      by_cases hi : (x : Int) = i
      · have hres : res = true := HM.out.2 ⟨x, hmm, hi⟩
        subst hres
        subst hi
        go_wp2
        go_ret
        exact ⟨rfl, rfl⟩
      · have hi' : ((x : Int) == i) = false := by simpa using hi
        have HI : Hid _ := hi
        clear hi
        go_wp2
        go_roundw
        case rel =>
          refine ⟨n + 1, by omega, by go_num, ?_, trivial⟩
          intro j hj
          by_cases e : j < n
          · exact hno.out j e
          · obtain rfl : j = n := by omega
            rw [HX.out]
            exact HI.out
        case measure => simp [intOf]; omega
    · obtain rfl : n = L := by omega
      have hres : res = false := by
        cases hr : res with
        | false => rfl
        | true =>
          rw [hr] at HM
          obtain ⟨x, hx, e⟩ := HM.out.1 rfl
          obtain ⟨k, hk, e2⟩ := HGE.out x hx
          exact absurd (by rw [e2]; exact e) (hno.out k hk)
      subst hres
      have q1 : ¬ (n : Int) < (n : Int) := by omega
      go_wp2
      go_ret
      exact ⟨rfl, rfl⟩
end Go.Proofs.Qxb6500469a
