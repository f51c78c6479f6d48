import Derived.Test.Qxb6500473aLaw4
namespace Go.Proofs.Qxb6500473a
open Go.RowKit
attribute [local go_sem] run_store_float drewN_alloc drewN_setCell
/-- The real side holds the samples A, the model B; nothing of theirs lies below N. -/
structure Two (N : Nat) (w : World) (p bl q : Nat) (o : Option Nat) (A B : List Nat) : Prop where
  real : SerA w p bl A
  mod : MA w q o B
  np : N ≤ p
  nb : N ≤ bl
  nq : N ≤ q
  no : ∀ g, o = some g → N ≤ g ∧ g ≠ p ∧ g ≠ bl
  pq : p ≠ q
  bq : bl ≠ q
theorem Two.later {N : Nat} {w w' : World} {p bl q : Nat} {o : Option Nat} {A B : List Nat} (h : Two N w p bl q o A B) (b : Below w.heap.size w w') : Two N w' p bl q o A B :=
  ⟨h.real.later b, h.mod.later b, h.np, h.nb, h.nq, h.no, h.pq, h.bq⟩
theorem Two.alloc {N : Nat} {w : World} {p bl q : Nat} {o : Option Nat} {A B : List Nat} (h : Two N w p bl q o A B) (x : Obj) : Two N (w.alloc x) p bl q o A B := h.later ((Below.refl _ _).alloc (Nat.le_refl _) _)
theorem Two.size {N : Nat} {w : World} {p bl q : Nat} {o : Option Nat} {A B : List Nat} (h : Two N w p bl q o A B) : N ≤ w.heap.size := by
  have := h.real.lt.1; have := h.np; omega
theorem Two.model {N : Nat} {w w' : World} {p bl q : Nat} {o : Option Nat} {A B C : List Nat} (h : Two N w p bl q o A B) (m : MPost q o w C w') : (∃ o', Two N w' p bl q o' A C) ∧ Below N w w' := by
  obtain ⟨o', m', ho, u⟩ := m
  obtain ⟨l1, l2, -, -⟩ := h.real.lt
  have hs := h.size
  have hp : ∀ x, (∀ g, o = some g → g ≠ x) → x ≠ q → x ∉ q :: o.toList := by
    intro x h1 h2 hm
    simp only [List.mem_cons, Option.mem_toList] at hm
    rcases hm with e | e
    · exact h2 e
    · exact h1 x e rfl
  refine ⟨⟨o', h.real.upd u (hp p (fun g hg => (h.no g hg).2.1) h.pq) (hp bl (fun g hg => (h.no g hg).2.2) h.bq), m', h.np, h.nb, h.nq, ?_, h.pq, h.bq⟩, ?_⟩
  · intro g hg
    rcases ho with e | ⟨g', e, hl⟩
    · exact h.no g (by rw [← e, hg])
    · rw [hg] at e
      obtain rfl : g = g' := by simpa using e
      omega
  · refine u.below hs ?_
    intro x hx
    simp only [List.mem_cons, Option.mem_toList] at hx
    rcases hx with e | e
    · rw [e]; exact h.nq
    · exact (h.no x e).1
theorem MPost.blk {w w' : World} {q : Nat} {o : Option Nat} {C : List Nat} (m : MPost q o w C w') {b : Nat} {c : Array Value} {t : TypeId} (k : Blk w b c t) (hb : b ≠ q) (ho : ∀ g, o = some g → g ≠ b) : Blk w' b c t := by
  obtain ⟨o', -, -, u⟩ := m
  refine k.upd u ?_
  intro hm
  simp only [List.mem_cons, Option.mem_toList] at hm
  rcases hm with e | e
  · exact hb e
  · exact ho b e rfl
theorem Two.mid {N : Nat} {w w' : World} {p bl q : Nat} {o : Option Nat} {A B C : List Nat} (h : Two N w p bl q o A B) (s : SerA w' p bl C) (u : Upd [p, bl] w w') : Two N w' p bl q o C B ∧ Below N w w' := by
  refine ⟨⟨s, h.mod.upd u (by simp; exact ⟨fun e => h.pq e.symm, fun e => h.bq e.symm⟩) (fun g hg => ?_), h.np, h.nb, h.nq, h.no, h.pq, h.bq⟩, u.below h.size ?_⟩
  · have := h.no g hg
    simp
    exact ⟨this.2.1, this.2.2⟩
  · intro x hx
    simp only [List.mem_cons, List.not_mem_nil, or_false] at hx
    rcases hx with e | e <;> rw [e]
    · exact h.np
    · exact h.nb
theorem Two.lt {N : Nat} {w : World} {p bl q : Nat} {o : Option Nat} {A B : List Nat} (h : Two N w p bl q o A B) : p < w.heap.size ∧ bl < w.heap.size ∧ q < w.heap.size ∧ ∀ g, o = some g → g < w.heap.size :=
  ⟨h.real.lt.1, h.real.lt.2.1, h.mod.lt.1, fun g hg => (h.mod.lt.2.1 g hg).1⟩

set_option maxHeartbeats 1000000 in
theorem alike_any (N : Nat) (w : World) (p bl q : Nat) (o : Option Nat) (A : List Nat) (h : Two N w p bl q o A A) :
    Calls Try.prog 35 #[ptr p, ptr q] w fun e w' => e = .returned (.bool true) ∧ (∃ o', Two N w' p bl q o' A A) ∧ Below N w w' := by
  go_enter Try.func35, Try.ntmps35
  go_wp2_with fail
  refine (show_any w p bl A h.real).mono ?_
  rintro e w1 ⟨rfl, b1⟩
  have t1 := h.later b1
  go_wp2_with fail
  refine (ma_show w1 q o A t1.mod).mono ?_
  rintro e w2 ⟨rfl, m2⟩
  obtain ⟨⟨o', t2⟩, b2⟩ := t1.model m2
  have bb : Below N w w2 := (b1.mono h.size).trans b2
  clear m2 b2 b1 t1
  go_wp2_with fail
  refine (check_any w2 p bl A t2.real).mono ?_
  rintro e w3 ⟨rfl, b3⟩
  have t3 := t2.later b3
  go_wp2
  go_ret
  exact ⟨rfl, ⟨o', t3⟩, bb.trans (b3.mono t2.size)⟩

set_option maxHeartbeats 1000000 in
theorem build_any (w : World) :
    Calls Try.prog 9 #[] w fun e w' => ∃ p bl, e = .returned (ptr p) ∧ SerA w' p bl [] ∧ w.heap.size ≤ p ∧ w.heap.size ≤ bl ∧ Below w.heap.size w w' := by
  go_enter Try.func9, Try.ntmps9
  go_wp2_with fail
  refine (serNew_any w).mono ?_
  rintro e w1 ⟨rfl, s1, b1⟩
  go_wp2
  go_ret
  exact ⟨_, _, rfl, ⟨_, s1, by intro i hi; simp at hi⟩, by omega, Nat.le_refl _, b1⟩

/-- Step i of the script that lies at ao. -/
def OpAt (w : World) (ao : Option Addr) (i : Nat) : Prop := ∃ (b off : Nat) (K x y z : Int) (s t : ByteArray), ao = some ⟨b, off, none⟩ ∧ b < w.heap.size ∧ w.cell? ⟨b, off + i * 6, none⟩ = some (I K) ∧ w.cell? ⟨b, off + i * 6 + 1, none⟩ = some (I x) ∧ w.cell? ⟨b, off + i * 6 + 2, none⟩ = some (I y) ∧ w.cell? ⟨b, off + i * 6 + 3, none⟩ = some (I z) ∧ w.cell? ⟨b, off + i * 6 + 4, none⟩ = some (.string s) ∧ w.cell? ⟨b, off + i * 6 + 5, none⟩ = some (.string t)
theorem OpAt.below {w w' : World} {ao : Option Addr} {i : Nat} (h : OpAt w ao i) (b : Below w.heap.size w w') : OpAt w' ao i := by
  obtain ⟨k, off, K, x, y, z, s, t, e, hl, c0, c1, c2, c3, c4, c5⟩ := h
  have := b.size
  exact ⟨k, off, K, x, y, z, s, t, e, by omega, (b.cell (p := ⟨k, _, none⟩) hl).trans c0, (b.cell (p := ⟨k, _, none⟩) hl).trans c1, (b.cell (p := ⟨k, _, none⟩) hl).trans c2, (b.cell (p := ⟨k, _, none⟩) hl).trans c3, (b.cell (p := ⟨k, _, none⟩) hl).trans c4, (b.cell (p := ⟨k, _, none⟩) hl).trans c5⟩

set_option maxRecDepth 100000 in
set_option maxHeartbeats 4000000 in
theorem walk_loud (w : World) (ao : Option Addr) (n cap : Nat) (hops : ∀ i, i < n → OpAt w ao i) (hn : n < 9223372036854775808) :
    Calls Try.prog 16 #[.slice ao n cap, .bool false] w fun e w' => ∃ k : Int, e = .returned (.tuple #[I (-1), I k]) ∧ Below w.heap.size w w' := by
  have Hops : Hid _ := hops
  clear hops
  go_enter Try.func16, Try.ntmps16
  go_wp2_with fail
  refine (build_any w).mono ?_
  rintro e w1 ⟨p, bl, rfl, s1, np, nb, b1⟩
  go_wp2_with fail
  refine (mNew_any w1).mono ?_
  rintro e w2 ⟨rfl, m2, b2⟩
  have hz := b1.size
  have t2 : Two w.heap.size w2 p bl w1.heap.size none [] [] := ⟨s1.later b2, ⟨_, _, _, _, m2, rfl, rfl⟩, np, nb, hz, (by intro g hg; cases hg), (by have := s1.lt.1; omega), (by have := s1.lt.2.1; omega)⟩
  have bb2 : Below w.heap.size w w2 := b1.trans (b2.mono hz)
  generalize w1.heap.size = q at *
  clear b1 b2 m2 s1 np nb hz
  go_wp2
  go_loopw [8] (fun i wr => ∃ (j : Nat) (o : Option Nat) (A : List Nat), j ≤ n ∧ i = I (j : Int) ∧ Two w.heap.size wr p bl q o A A ∧ Below w.heap.size w wr) (fun i _ => (n - intOf i).toNat)
  case atStart => exact ⟨0, none, [], by omega, rfl, t2, bb2⟩
  case round =>
    obtain ⟨j, o, A, hj, rfl, tr, br⟩ := hrel
    by_cases hlt : j < n
    · by_cases hM : (j : Int) < 4398046511104
      · obtain ⟨b, off, K, x, y, z, s, t, e, hl, c0, c1, c2, c3, c4, c5⟩ := (Hops.out j hlt)
        subst e
        have hjn : (j : Int) < (n : Int) := by omega
        rw [← br.cell (p := ⟨b, _, none⟩) hl] at c0 c1 c2 c3 c4 c5
        have D := fun V hV => do_any V p bl A hV K x y z s t
        have M := fun V o hV => dom_any V q o A hV K x y z s t
        generalize doA K x y A = r at D M
        obtain ⟨⟨er, nr, sr⟩, B⟩ := r
        go_wp2_with fail
        clear c0 c1 c2 c3 c4 c5
        have tA := tr.alloc (.cells #[I K, I x, I y, I z, .string s, .string t] 33)
        have bA := br.alloc br.size (.cells #[I K, I x, I y, I z, .string s, .string t] 33)
        have TO : Blk (wr.alloc (.cells #[I K, I x, I y, I z, .string s, .string t] 33)) wr.heap.size #[I K, I x, I y, I z, .string s, .string t] 33 := Blk.new rfl
        obtain ⟨lp, lb, lq, lo⟩ := tr.lt
        clear tr br
        refine (D _ tA.real).mono ?_
        rintro e w3 ⟨rfl, s3, u3⟩
        obtain ⟨t3, b3⟩ := tA.mid s3 u3
        have TO3 := TO.upd u3 (by simp; omega)
        have bb3 := bA.trans b3
        clear tA bA TO D s3 u3 b3
        generalize wr.heap.size = G at *
        dsimp only at t3 bb3 TO3 ⊢
        have TO4 := TO3.old (.cells #[I er, I nr, I 0, S sr] 36)
        obtain ⟨o0, o1, o2⟩ := TO4.facts
        go_wp2_with fail
        have t4 := t3.alloc (.cells #[I er, I nr, I 0, S sr] 36)
        have b4 := bb3.alloc bb3.size (.cells #[I er, I nr, I 0, S sr] 36)
        have TR : Blk (w3.alloc (.cells #[I er, I nr, I 0, S sr] 36)) w3.heap.size #[I er, I nr, I 0, S sr] 36 := Blk.new rfl
        obtain ⟨lp3, lb3, lq3, lo3⟩ := t3.lt
        clear t3 bb3 TO3 TO4 o0 o1 o2
        refine (M _ o t4.mod).mono ?_
        rintro e w5 ⟨rfl, m5⟩
        have TR5 := m5.blk TR (by omega) (fun g hg => by have := lo3 g hg; omega)
        obtain ⟨⟨o', t5⟩, b5⟩ := t4.model m5
        have bb5 := b4.trans b5
        clear t4 b4 TR M m5 b5
        generalize w3.heap.size = H at *
        dsimp only at t5 bb5 TR5 ⊢
        have TR6 := TR5.old (.cells #[I er, I nr, I 0, S sr] 36)
        obtain ⟨r0, r1, r2⟩ := TR6.facts
        have t6 := t5.alloc (.cells #[I er, I nr, I 0, S sr] 36)
        have b6 := bb5.alloc bb5.size (.cells #[I er, I nr, I 0, S sr] 36)
        go_wp2_with fail
        refine (alike_any _ _ p bl q o' B t6).mono ?_
        rintro e w7 ⟨rfl, ⟨o7, t7⟩, b7⟩
        have bb7 := b6.trans b7
        clear t6 b6 b7 r0 r1 r2 TR5 TR6 t5 bb5
        go_wp2
        go_roundw
        case rel => exact ⟨j + 1, o7, B, by omega, by go_num, t7, bb7⟩
        case measure => simp [intOf]; omega
      · have hjn : (j : Int) < (n : Int) := by omega
        have hnM : ¬ (n : Int) < 4398046511104 := by omega
        go_wp2
        go_ret2
        exact ⟨⟨_, rfl⟩, br⟩
    · have hjn : ¬ (j : Int) < (n : Int) := by omega
      by_cases hnM : (n : Int) < 4398046511104
      · go_wp2
        go_ret2
        exact ⟨⟨_, rfl⟩, br⟩
      · go_wp2
        go_ret2
        exact ⟨⟨_, rfl⟩, br⟩

set_option maxRecDepth 100000 in
set_option maxHeartbeats 4000000 in
theorem walk_quiet (w : World) (ao : Option Addr) (n cap : Nat) (hops : ∀ i, i < n → OpAt w ao i) (hn : n < 9223372036854775808) :
    Calls Try.prog 16 #[.slice ao n cap, .bool true] w fun e w' => ∃ k : Int, e = .returned (.tuple #[I (-1), I k]) ∧ Below w.heap.size w w' := by
  have Hops : Hid _ := hops
  clear hops
  go_enter Try.func16, Try.ntmps16
  go_wp2_with fail
  refine (build_any w).mono ?_
  rintro e w1 ⟨p, bl, rfl, s1, np, nb, b1⟩
  go_wp2_with fail
  refine (mNew_any w1).mono ?_
  rintro e w2 ⟨rfl, m2, b2⟩
  have hz := b1.size
  have t2 : Two w.heap.size w2 p bl w1.heap.size none [] [] := ⟨s1.later b2, ⟨_, _, _, _, m2, rfl, rfl⟩, np, nb, hz, (by intro g hg; cases hg), (by have := s1.lt.1; omega), (by have := s1.lt.2.1; omega)⟩
  have bb2 : Below w.heap.size w w2 := b1.trans (b2.mono hz)
  generalize w1.heap.size = q at *
  clear b1 b2 m2 s1 np nb hz
  go_wp2
  go_loopw [8] (fun i wr => ∃ (j : Nat) (o : Option Nat) (A : List Nat), j ≤ n ∧ i = I (j : Int) ∧ Two w.heap.size wr p bl q o A A ∧ Below w.heap.size w wr) (fun i _ => (n - intOf i).toNat)
  case atStart => exact ⟨0, none, [], by omega, rfl, t2, bb2⟩
  case round =>
    obtain ⟨j, o, A, hj, rfl, tr, br⟩ := hrel
    by_cases hlt : j < n
    · by_cases hM : (j : Int) < 4398046511104
      · obtain ⟨b, off, K, x, y, z, s, t, e, hl, c0, c1, c2, c3, c4, c5⟩ := (Hops.out j hlt)
        subst e
        have hjn : (j : Int) < (n : Int) := by omega
        rw [← br.cell (p := ⟨b, _, none⟩) hl] at c0 c1 c2 c3 c4 c5
        have D := fun V hV => do_any V p bl A hV K x y z s t
        have M := fun V o hV => dom_any V q o A hV K x y z s t
        generalize doA K x y A = r at D M
        obtain ⟨⟨er, nr, sr⟩, B⟩ := r
        go_wp2_with fail
        clear c0 c1 c2 c3 c4 c5
        have tA := tr.alloc (.cells #[I K, I x, I y, I z, .string s, .string t] 33)
        have bA := br.alloc br.size (.cells #[I K, I x, I y, I z, .string s, .string t] 33)
        have TO : Blk (wr.alloc (.cells #[I K, I x, I y, I z, .string s, .string t] 33)) wr.heap.size #[I K, I x, I y, I z, .string s, .string t] 33 := Blk.new rfl
        obtain ⟨lp, lb, lq, lo⟩ := tr.lt
        clear tr br
        refine (D _ tA.real).mono ?_
        rintro e w3 ⟨rfl, s3, u3⟩
        obtain ⟨t3, b3⟩ := tA.mid s3 u3
        have TO3 := TO.upd u3 (by simp; omega)
        have bb3 := bA.trans b3
        clear tA bA TO D s3 u3 b3
        generalize wr.heap.size = G at *
        dsimp only at t3 bb3 TO3 ⊢
        have TO4 := TO3.old (.cells #[I er, I nr, I 0, S sr] 36)
        obtain ⟨o0, o1, o2⟩ := TO4.facts
        go_wp2_with fail
        have t4 := t3.alloc (.cells #[I er, I nr, I 0, S sr] 36)
        have b4 := bb3.alloc bb3.size (.cells #[I er, I nr, I 0, S sr] 36)
        have TR : Blk (w3.alloc (.cells #[I er, I nr, I 0, S sr] 36)) w3.heap.size #[I er, I nr, I 0, S sr] 36 := Blk.new rfl
        obtain ⟨lp3, lb3, lq3, lo3⟩ := t3.lt
        clear t3 bb3 TO3 TO4 o0 o1 o2
        refine (M _ o t4.mod).mono ?_
        rintro e w5 ⟨rfl, m5⟩
        have TR5 := m5.blk TR (by omega) (fun g hg => by have := lo3 g hg; omega)
        obtain ⟨⟨o', t5⟩, b5⟩ := t4.model m5
        have bb5 := b4.trans b5
        clear t4 b4 TR M m5 b5
        generalize w3.heap.size = H at *
        dsimp only at t5 bb5 TR5 ⊢
        have TR6 := TR5.old (.cells #[I er, I nr, I 0, S sr] 36)
        obtain ⟨r0, r1, r2⟩ := TR6.facts
        have t6 := t5.alloc (.cells #[I er, I nr, I 0, S sr] 36)
        have b6 := bb5.alloc bb5.size (.cells #[I er, I nr, I 0, S sr] 36)
        go_wp2
        go_roundw
        case rel => exact ⟨j + 1, o', B, by omega, by go_num, t6, b6⟩
        case measure => simp [intOf]; omega
      · have hjn : (j : Int) < (n : Int) := by omega
        have hnM : ¬ (n : Int) < 4398046511104 := by omega
        go_wp2
        go_ret2
        exact ⟨⟨_, rfl⟩, br⟩
    · have hjn : ¬ (j : Int) < (n : Int) := by omega
      by_cases hnM : (n : Int) < 4398046511104
      · go_wp2
        go_ret2
        exact ⟨⟨_, rfl⟩, br⟩
      · go_wp2
        go_ret2
        exact ⟨⟨_, rfl⟩, br⟩

set_option maxHeartbeats 400000 in
theorem refines_any (w : World) (ao : Option Addr) (n cap : Nat) (hops : ∀ i, i < n → OpAt w ao i) (hn : n < 9223372036854775808) :
    Calls Try.prog 4 #[.slice ao n cap] w fun e w' => e = .returned (.bool true) ∧ Below w.heap.size w w' := by
  have up : Calls Try.prog 7 #[.slice ao n cap] w fun e w' => e = .returned (I (-1)) ∧ Below w.heap.size w w' := by
    go_enter Try.func7, Try.ntmps7
    go_wp2_with fail
    refine (walk_loud w ao n cap hops hn).mono ?_
    rintro e w1 ⟨k, rfl, b1⟩
    go_wp2
    go_ret
    exact ⟨rfl, b1⟩
  go_enter Try.func4, Try.ntmps4
  go_wp2_with fail
  refine up.mono ?_
  rintro e w1 ⟨rfl, b1⟩
  go_wp2
  go_ret
  exact ⟨rfl, b1⟩
set_option maxHeartbeats 400000 in
theorem refinesQuiet_any (w : World) (ao : Option Addr) (n cap : Nat) (hops : ∀ i, i < n → OpAt w ao i) (hn : n < 9223372036854775808) :
    Calls Try.prog 5 #[.slice ao n cap] w fun e w' => e = .returned (.bool true) ∧ Below w.heap.size w w' := by
  have up : Calls Try.prog 8 #[.slice ao n cap] w fun e w' => e = .returned (I (-1)) ∧ Below w.heap.size w w' := by
    go_enter Try.func8, Try.ntmps8
    go_wp2_with fail
    refine (walk_quiet w ao n cap hops hn).mono ?_
    rintro e w1 ⟨k, rfl, b1⟩
    go_wp2
    go_ret
    exact ⟨rfl, b1⟩
  go_enter Try.func5, Try.ntmps5
  go_wp2_with fail
  refine up.mono ?_
  rintro e w1 ⟨rfl, b1⟩
  go_wp2
  go_ret
  exact ⟨rfl, b1⟩
end Go.Proofs.Qxb6500473a
