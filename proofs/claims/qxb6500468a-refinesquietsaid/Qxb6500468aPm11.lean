import Derived.Test.Qxb6500468aPm10
import Derived.Test.Qxb6500468aOpAt
import Derived.Deep.DeepCutAuto
namespace Go.Proofs.Qxb6500468a
open Go.RowKit

structure Wst (N : Nat) (w : World) (bb x bw ub m d : Nat) (u : Nat) (ws : List Nat) (u2 : Nat) (ws2 : List Nat) (ds : List Int) (img : List UInt8) : Prop where
  box : Blk w bb #[ptr ub] 48
  sto : StoR w x bw ub u ws
  mod : ∃ us hs, MoR w m us hs ∧ Tells u2 ws2 us hs
  dk : DkR w d ds img
  nb : N ≤ bb
  nw : N ≤ bw
  nu : N ≤ ub
  nm : N ≤ m
  nd : N ≤ d
  b1 : bb ≠ x
  b2 : bb ≠ bw
  b3 : bb ≠ ub
  b4 : bb ≠ m
  b5 : bb ≠ d
  m1 : m ≠ x
  m2 : m ≠ bw
  m3 : m ≠ ub
  d1 : d ≠ x
  d2 : d ≠ bw
  d3 : d ≠ ub
  d4 : d ≠ m
theorem Wst.later {N : Nat} {w w' : World} {bb x bw ub m d u : Nat} {ws : List Nat} {u2 : Nat} {ws2 : List Nat} {ds : List Int} {img : List UInt8} (h : Wst N w bb x bw ub m d u ws u2 ws2 ds img) (b : Below w.heap.size w w') : Wst N w' bb x bw ub m d u ws u2 ws2 ds img := by
  obtain ⟨us, hs, h1, h2⟩ := h.mod
  exact ⟨h.box.below b h.box.lt, h.sto.later b, ⟨us, hs, h1.later b, h2⟩, h.dk.later b, h.nb, h.nw, h.nu, h.nm, h.nd, h.b1, h.b2, h.b3, h.b4, h.b5, h.m1, h.m2, h.m3, h.d1, h.d2, h.d3, h.d4⟩
theorem Wst.zs {N : Nat} {w : World} {bb x bw ub m d u : Nat} {ws : List Nat} {u2 : Nat} {ws2 : List Nat} {ds : List Int} {img : List UInt8} (h : Wst N w bb x bw ub m d u ws u2 ws2 ds img) : bb < w.heap.size ∧ x < w.heap.size ∧ bw < w.heap.size ∧ ub < w.heap.size ∧ m < w.heap.size ∧ d < w.heap.size := by
  obtain ⟨-, -, l1, l2, l3⟩ := h.sto.at0
  obtain ⟨_, _, hm, _⟩ := h.mod
  exact ⟨h.box.lt, l1, l2, l3, hm.head.lt, h.dk.head.lt⟩
theorem Wst.real {N : Nat} {w w' : World} {bb x bw ub m d u : Nat} {ws : List Nat} {u2 : Nat} {ws2 : List Nat} {ds : List Int} {img : List UInt8} (h : Wst N w bb x bw ub m d u ws u2 ws2 ds img) (hN : N ≤ w.heap.size) {U : Nat} {W : List Nat} (s : StoR w' x bw ub U W) (k : Upd [bw, ub] w w') : Wst N w' bb x bw ub m d U W u2 ws2 ds img ∧ Below N w w' := by
  obtain ⟨us, hs, h1, h2⟩ := h.mod
  refine ⟨⟨h.box.upd k (by simp; exact ⟨h.b2, h.b3⟩), s, ⟨us, hs, h1.upd k (by simp; exact ⟨h.m2, h.m3⟩), h2⟩, h.dk.upd k (by simp; exact ⟨h.d2, h.d3⟩), h.nb, h.nw, h.nu, h.nm, h.nd, h.b1, h.b2, h.b3, h.b4, h.b5, h.m1, h.m2, h.m3, h.d1, h.d2, h.d3, h.d4⟩, k.below hN ?_⟩
  intro y hy
  simp only [List.mem_cons, List.not_mem_nil, or_false] at hy
  rcases hy with e | e <;> rw [e]
  · exact h.nw
  · exact h.nu
theorem Wst.model {N : Nat} {w w' : World} {bb x bw ub m d u : Nat} {ws : List Nat} {u2 : Nat} {ws2 : List Nat} {ds : List Int} {img : List UInt8} (h : Wst N w bb x bw ub m d u ws u2 ws2 ds img) (hN : N ≤ w.heap.size) {U : Nat} {W : List Nat} (k : Mon w m U W w') : Wst N w' bb x bw ub m d u ws U W ds img ∧ Below N w w' ∧ Upd [m] w w' := by
  obtain ⟨us, hs, h1, h2, k⟩ := k
  refine ⟨⟨h.box.upd k (fun e => h.b4 (List.mem_singleton.1 e)), h.sto.upd k (fun e => h.m1 (List.mem_singleton.1 e).symm) (fun e => h.m2 (List.mem_singleton.1 e).symm) (fun e => h.m3 (List.mem_singleton.1 e).symm), ⟨us, hs, h1, h2⟩, h.dk.upd k (fun e => h.d4 (List.mem_singleton.1 e)), h.nb, h.nw, h.nu, h.nm, h.nd, h.b1, h.b2, h.b3, h.b4, h.b5, h.m1, h.m2, h.m3, h.d1, h.d2, h.d3, h.d4⟩, k.below hN ?_, k⟩
  intro y hy
  rw [List.mem_singleton.1 hy]
  exact h.nm
theorem Wst.note {N : Nat} {w w' : World} {bb x bw ub m d u : Nat} {ws : List Nat} {u2 : Nat} {ws2 : List Nat} {ds : List Int} {img : List UInt8} (h : Wst N w bb x bw ub m d u ws u2 ws2 ds img) (hN : N ≤ w.heap.size) {ds' : List Int} {img' : List UInt8} (g : DkR w' d ds' img') (k : Upd [d] w w') : Wst N w' bb x bw ub m d u ws u2 ws2 ds' img' ∧ Below N w w' := by
  obtain ⟨us, hs, h1, h2⟩ := h.mod
  refine ⟨⟨h.box.upd k (fun e => h.b5 (List.mem_singleton.1 e)), h.sto.upd k (fun e => h.d1 (List.mem_singleton.1 e).symm) (fun e => h.d2 (List.mem_singleton.1 e).symm) (fun e => h.d3 (List.mem_singleton.1 e).symm), ⟨us, hs, h1.upd k (fun e => h.d4 (List.mem_singleton.1 e).symm), h2⟩, g, h.nb, h.nw, h.nu, h.nm, h.nd, h.b1, h.b2, h.b3, h.b4, h.b5, h.m1, h.m2, h.m3, h.d1, h.d2, h.d3, h.d4⟩, k.below hN ?_⟩
  intro y hy
  rw [List.mem_singleton.1 hy]
  exact h.nd
theorem str_of (s : ByteArray) : ∃ l, s = str l := ⟨s.data.toList, by simp [str]⟩

set_option maxRecDepth 100000 in
set_option maxHeartbeats 8000000 in
theorem walk_quiet (w : World) (ao : Option Addr) (n cap : Nat) (hops : ∀ i, i < n → OpAt w ao i) (hn : n < 9223372036854775808) :
    Calls Try.prog 31 #[.slice ao n cap, .bool true] w fun e w' => ∃ k : Int, e = .returned (.tuple #[I (-1), I k]) ∧ Below w.heap.size w w' := by
  have Hops : Hid _ := hops
  clear hops
  go_enter Try.func31, Try.ntmps31
  go_wp2_with fail
  refine (ground_any w).mono ?_
  rintro e w1 ⟨p, rfl, np, hp, b1⟩
  have lp := hp.lt
  have hp1 := hp.old (.cells #[ptr p] 48)
  have XB : Blk (w1.alloc (.cells #[ptr p] 48)) w1.heap.size #[ptr p] 48 := Blk.new rfl
  have bb1 : Below w.heap.size w (w1.alloc (.cells #[ptr p] 48)) := b1.alloc b1.size _
  have nb : w.heap.size ≤ w1.heap.size := b1.size
  have pb : w1.heap.size ≠ p := by omega
  go_wp2_with fail
  clear b1 hp
  generalize w1.alloc (.cells #[ptr p] 48) = v1 at *
  refine (pNew_any _ p hp1).mono ?_
  rintro e w2 ⟨x0, bw0, rfl, nx, nbw, s2, b2⟩
  have XB2 := XB.below b2 XB.lt
  have lb1 := XB.lt
  have bb2 := bb1.trans (b2.mono bb1.size)
  have hz1 := bb1.size
  clear hp1 XB bb1
  generalize w1.heap.size = bb at *
  go_wp2_with fail
  refine (mNew_any w2).mono ?_
  rintro e w3 ⟨rfl, m3, b3⟩
  have XB3 := XB2.below b3 XB2.lt
  have s3 := s2.later b3
  have bb3 := bb2.trans (b3.mono bb2.size)
  have hz2 := bb2.size
  obtain ⟨-, -, l1, l2, l3⟩ := s2.at0
  have l4 := XB2.lt
  have l5 := m3.head.lt
  clear XB2 s2 b3 bb2
  have t2 : Wst w.heap.size (w3.alloc (.cells (dkC [0, 0, 0, 0, 0] []) 36)) bb x0 bw0 p w2.heap.size w3.heap.size 0 [0, 0, 0, 0, 0, 0, 0, 0] 0 [0, 0, 0, 0, 0, 0, 0, 0] [0, 0, 0, 0, 0] [] := by
    have aG := (Below.refl w3.heap.size w3).alloc (Nat.le_refl _) (.cells (dkC [0, 0, 0, 0, 0] []) 36)
    exact ⟨XB3.below aG XB3.lt, s3.later aG, ⟨f8, z40, m3.later aG, tells0 _⟩, ⟨Blk.new rfl, rfl⟩, nb, by omega, np, by omega, by omega, by omega, by omega, pb, by omega, by omega, by omega, by omega, by omega, by omega, by omega, by omega, by omega⟩
  have bb4 : Below w.heap.size w (w3.alloc (.cells (dkC [0, 0, 0, 0, 0] []) 36)) := bb3.alloc bb3.size _
  rw [show (Obj.cells (dkC [0, 0, 0, 0, 0] []) 36) = Obj.cells #[I 0, I 0, I 0, I 0, I 0, .string ⟨#[]⟩] 36 from rfl] at t2 bb4
  clear s3 XB3 m3 bb3
  go_wp2_with fail
  generalize w3.alloc (Obj.cells #[I 0, I 0, I 0, I 0, I 0, .string ⟨#[]⟩] 36) = v4 at *
  generalize w3.heap.size = d at *
  go_loopw [7, 8, 10] (fun xs ms i wr => ∃ (j x bw ub m u : Nat) (ws : List Nat) (ds : List Int) (img : List UInt8), j ≤ n ∧ xs = ptr x ∧ ms = ptr m ∧ i = I (j : Int) ∧ Wst w.heap.size wr bb x bw ub m d u ws u ws ds img ∧ Below w.heap.size w wr) (fun _ _ i _ => (n - intOf i).toNat)
  case atStart => exact ⟨0, x0, bw0, p, w2.heap.size, 0, [0, 0, 0, 0, 0, 0, 0, 0], [0, 0, 0, 0, 0], [], by omega, rfl, rfl, rfl, t2, bb4⟩
  case round =>
    clear t2 bb4 nx nbw np pb lp lb1 hz1 hz2 l1 l2 l3 l4 l5
    obtain ⟨j, x, bw, ub, m, u, ws, ds, img, hj, rfl, rfl, rfl, tr, br⟩ := hrel
    by_cases hlt : j < n
    · by_cases hM : (j : Int) < 4398046511104
      · obtain ⟨b, off, K, A, B, C, s, t, e, hl, c0, c1, c2, c3, c4, c5⟩ := (Hops.out j hlt)
        subst e
        obtain ⟨S1, rfl⟩ := str_of s
        have hjn : (j : Int) < (n : Int) := by omega
        rw [← br.cell (p := ⟨b, _, none⟩) hl] at c0 c1 c2 c3 c4 c5
        have tA := tr.later ((Below.refl wr.heap.size wr).alloc (Nat.le_refl _) (.cells #[I K, I A, I B, I C, .string (str S1), .string t] 38))
        have bA := br.alloc br.size (.cells #[I K, I A, I B, I C, .string (str S1), .string t] 38)
        have TO : Blk (wr.alloc (.cells #[I K, I A, I B, I C, .string (str S1), .string t] 38)) wr.heap.size #[I K, I A, I B, I C, .string (str S1), .string t] 38 := Blk.new rfl
        obtain ⟨y0, y1, y2, y3, y4, y5⟩ := tr.zs
        by_cases k1 : K = 1
        · subst k1
          go_wp2_with fail
          clear c0 c1 c2 c3 c4 c5 tr br
          generalize wr.alloc (.cells #[I 1, I A, I B, I C, .string (str S1), .string t] 38) = v2 at *
          generalize wr.heap.size = G at *
          refine (ground_any v2).mono ?_
          rintro e w3 ⟨p', rfl, np', hp', b3⟩
          have tB := tA.later b3
          have TO3 := TO.below b3 TO.lt
          have bB := bA.trans (b3.mono bA.size)
          have hG2 := TO.lt
          obtain ⟨q0, q1, q2, q3, q4, q5⟩ := tA.zs
          have hnp := bA.size
          clear tA TO bA b3
          have XB := tB.box
          obtain ⟨x1, x2, x3⟩ := XB.facts
          have hbp : bb ≠ p' := by omega
          have hpb : p' ≠ bb := by omega
          have hGb : G ≠ bb := by omega
          have hp4 := hp'.other (a := ⟨bb, 0, none⟩) hpb (ptr p')
          have XB4 : Blk _ bb #[ptr p'] 48 := XB.set (i := 0) (ptr p')
          have Ub : Upd [bb] w3 (w3.setCell ⟨bb, 0, none⟩ (ptr p')) := (Upd.refl _ _).setCell (p := ⟨bb, 0, none⟩) (by simp) _
          have TO4 := TO3.upd Ub (fun hm => hGb (List.mem_singleton.1 hm))
          have dk4 := tB.dk.upd Ub (fun hm => tB.b5 (List.mem_singleton.1 hm).symm)
          have bB4 := bB.trans (Ub.below bB.size (fun z hz => by rw [List.mem_singleton.1 hz]; exact nb))
          have e1 := tB.b5
          have e2 := tB.nd
          have e3 := tB.nb
          go_wp2_with fail
          clear x1 x2 x3 XB TO3 bB tB hp' Ub
          generalize w3.setCell ⟨bb, 0, none⟩ (ptr p') = v4 at *
          refine (pNew_any _ p' hp4).mono ?_
          rintro e w5 ⟨x', bw', rfl, nx', nbw', s5, b5⟩
          have l9 := XB4.lt
          have l8 := TO4.lt
          have l7 := dk4.head.lt
          have l6 := hp4.lt
          have XB5 : Blk w5 bb #[ptr p'] 48 := XB4.below b5 XB4.lt
          have TO5 := TO4.below b5 TO4.lt
          have dk5 := dk4.later b5
          have bB5 := bB4.trans (b5.mono bB4.size)
          have hz5 := b5.size
          obtain ⟨-, -, s1', s2', s3'⟩ := s5.at0
          clear XB4 TO4 dk4 bB4 b5 hp4
          go_wp2_with fail
          refine (mNew_any w5).mono ?_
          rintro e v3 ⟨rfl, m6, b6⟩
          have hz6 := b6.size
          have l5 := m6.head.lt
          have tA : Wst w.heap.size v3 bb x' bw' p' w5.heap.size d 0 [0, 0, 0, 0, 0, 0, 0, 0] 0 [0, 0, 0, 0, 0, 0, 0, 0] ds img :=
            ⟨XB5.below b6 XB5.lt, s5.later b6, ⟨f8, z40, m6, tells0 _⟩, dk5.later b6, nb, by omega, by omega, by omega, e2, by omega, by omega, hbp, by omega, e1, by omega, by omega, by omega, by omega, by omega, by omega, by omega⟩
          have TO := TO5.below b6 TO5.lt
          have bA := bB5.trans (b6.mono bB5.size)
          have n1 : G ≠ bw' := by omega
          have n2 : G ≠ p' := by omega
          have n3 : G ≠ w5.heap.size := by have := TO5.lt; omega
          have n4 : G ≠ d := by omega
          clear XB5 s5 m6 dk5 b6 TO5 bB5
          generalize w5.heap.size = m' at *
          clear s1' s2' s3' l5 l6 l7 l8 l9 hz5 hz6 q0 q1 q2 q3 q4 q5 hnp
          have D := fun V hV hd => do_any V x' bw' p' 0 [0, 0, 0, 0, 0, 0, 0, 0] hV d 0 (ds.getD 0 0) (ds.getD 1 0) (ds.getD 2 0) (ds.getD 3 0) (ds.getD 4 0) img hd 1 A B C S1 t
          have M := fun V us hs (hV : MoR V m' us hs) (ht : Tells 0 [0, 0, 0, 0, 0, 0, 0, 0] us hs) hd => dom_any V m' us hs hV 0 [0, 0, 0, 0, 0, 0, 0, 0] ht tA.sto.hu tA.sto.len tA.sto.lt d 0 (ds.getD 0 0) (ds.getD 1 0) (ds.getD 2 0) (ds.getD 3 0) (ds.getD 4 0) img hd 1 A B C S1 t
          generalize doP 1 A B S1 img (ds.getD 0 0) (ds.getD 1 0) (ds.getD 2 0) (ds.getD 3 0) (ds.getD 4 0) 0 [0, 0, 0, 0, 0, 0, 0, 0] = r at D M
          obtain ⟨⟨er, nr, sr⟩, U, WW⟩ := r
          dsimp only at D M
          obtain ⟨z0, z1, z2, z3, z4, z5⟩ := tA.zs
          have HD : Hid _ := D
          have HM : Hid _ := M
          clear D M
          obtain ⟨o0, o1, o2⟩ := TO.facts
          go_wp2_with fail
          refine (HD.out _ tA.sto tA.dk.desk).mono ?_
          rintro e w4 ⟨rfl, s4, u4⟩
          obtain ⟨t4, b4⟩ := tA.real bA.size s4 u4
          have TO4 := TO.upd u4 (by simp; omega)
          have bb4 := bA.trans b4
          clear o0 o1 o2 TO tA bA s4 u4 b4 HD
          dsimp only at t4 ⊢
          have aN := (Below.refl w4.heap.size w4).alloc (Nat.le_refl _) (.cells #[I er, I nr, I 0, S sr] 42)
          have t5 := t4.later aN
          have TO5 := TO4.below aN TO4.lt
          have TR5 : Blk (w4.alloc (.cells #[I er, I nr, I 0, S sr] 42)) w4.heap.size #[I er, I nr, I 0, S sr] 42 := Blk.new rfl
          have bb5 := bb4.alloc bb4.size (.cells #[I er, I nr, I 0, S sr] 42)
          obtain ⟨o0, o1, o2⟩ := TO5.facts
          have hz4 := t4.zs
          have hG4 := TO4.lt
          go_wp2_with fail
          clear aN t4 TO4 bb4
          generalize w4.alloc (.cells #[I er, I nr, I 0, S sr] 42) = v5 at *
          generalize w4.heap.size = H at *
          obtain ⟨us, hs, m5, te5⟩ := t5.mod
          refine (HM.out _ us hs m5 te5 t5.dk.desk).mono ?_
          rintro e w6 ⟨rfl, M6⟩
          obtain ⟨t6, b6, u6⟩ := t5.model bb5.size M6
          have TO6 := TO5.upd u6 (fun e => n3 (List.mem_singleton.1 e))
          have TR6 := TR5.upd u6 (fun e => by have := List.mem_singleton.1 e; omega)
          have bb6 := bb5.trans b6
          clear o0 o1 o2 TO5 TR5 t5 bb5 M6 b6 u6 m5 te5 HM
          dsimp only at t6 ⊢
          have aN := (Below.refl w6.heap.size w6).alloc (Nat.le_refl _) (.cells #[I er, I nr, I 0, S sr] 42)
          have t7 := t6.later aN
          have TO7 := TO6.below aN TO6.lt
          have TR7 := TR6.below aN TR6.lt
          have TQ7 : Blk (w6.alloc (.cells #[I er, I nr, I 0, S sr] 42)) w6.heap.size #[I er, I nr, I 0, S sr] 42 := Blk.new rfl
          have bb7 := bb6.alloc bb6.size (.cells #[I er, I nr, I 0, S sr] 42)
          have hz6 := t6.zs
          have hG6 := TO6.lt
          have hH6 := TR6.lt
          obtain ⟨o0, o1, o2⟩ := TO7.facts
          obtain ⟨a0, a1, a2⟩ := TR7.facts
          have NT := fun V hV => dnote_any V d ds img hV 1 A B C (str S1) t er nr sr
          generalize noteD 1 A B C ds = ds' at *
          generalize noteI 1 sr img = img' at *
          go_wp2_with fail
          clear aN t6 TO6 TR6 bb6 hz4 hG4
          generalize w6.alloc (.cells #[I er, I nr, I 0, S sr] 42) = v7 at *
          generalize w6.heap.size = J at *
          refine (NT _ t7.dk).mono ?_
          rintro e w8 ⟨rfl, g8, u8⟩
          obtain ⟨t8, b8⟩ := t7.note bb7.size g8 u8
          have bb8 := bb7.trans b8
          clear o0 o1 o2 a0 a1 a2 TO7 TR7 TQ7 t7 bb7 g8 u8 b8 NT hz6 hG6 hH6
          have x0 : w8.cell? ⟨bb, 0, none⟩ = some (ptr p') := t8.box.cell 0
          obtain ⟨us, hs, m8, te8⟩ := t8.mod
          have hHa := handed_any w8 m' us hs m8 U WW te8 t8.sto.hu p' t8.sto.brd
          go_wp2_with fail
          refine hHa.mono ?_
          rintro e w9 ⟨rfl, b9⟩
          have t9 := t8.later b9
          have bb9 := bb8.trans (b9.mono bb8.size)
          clear x0 hHa m8 te8 t8 bb8 b9
          go_wp2
          go_roundw
          case rel => exact ⟨j + 1, x', bw', p', m', U, WW, ds', img', by omega, rfl, rfl, by go_num, t9, bb9⟩
          case measure => simp [intOf]; omega
        · have k1b : (K == 1) = false := by simpa using k1
          have n1 : wr.heap.size ≠ bw := by omega
          have n2 : wr.heap.size ≠ ub := by omega
          have n3 : wr.heap.size ≠ m := by omega
          have n4 : wr.heap.size ≠ d := by omega
          go_upto_region 13 with fail
          clear c0 c1 c2 c3 c4 c5 tr br
          generalize wr.alloc (.cells #[I K, I A, I B, I C, .string (str S1), .string t] 38) = v3 at *
          generalize wr.heap.size = G at *
          have D := fun V hV hd => do_any V x bw ub u ws hV d 0 (ds.getD 0 0) (ds.getD 1 0) (ds.getD 2 0) (ds.getD 3 0) (ds.getD 4 0) img hd K A B C S1 t
          have M := fun V us hs (hV : MoR V m us hs) (ht : Tells u ws us hs) hd => dom_any V m us hs hV u ws ht tA.sto.hu tA.sto.len tA.sto.lt d 0 (ds.getD 0 0) (ds.getD 1 0) (ds.getD 2 0) (ds.getD 3 0) (ds.getD 4 0) img hd K A B C S1 t
          generalize doP K A B S1 img (ds.getD 0 0) (ds.getD 1 0) (ds.getD 2 0) (ds.getD 3 0) (ds.getD 4 0) u ws = r at D M
          obtain ⟨⟨er, nr, sr⟩, U, WW⟩ := r
          dsimp only at D M
          obtain ⟨z0, z1, z2, z3, z4, z5⟩ := tA.zs
          have HD : Hid _ := D
          have HM : Hid _ := M
          clear D M
          obtain ⟨o0, o1, o2⟩ := TO.facts
          go_wp2_with fail
          refine (HD.out _ tA.sto tA.dk.desk).mono ?_
          rintro e w4 ⟨rfl, s4, u4⟩
          obtain ⟨t4, b4⟩ := tA.real bA.size s4 u4
          have TO4 := TO.upd u4 (by simp; omega)
          have bb4 := bA.trans b4
          clear o0 o1 o2 TO tA bA s4 u4 b4 HD
          dsimp only at t4 ⊢
          have aN := (Below.refl w4.heap.size w4).alloc (Nat.le_refl _) (.cells #[I er, I nr, I 0, S sr] 42)
          have t5 := t4.later aN
          have TO5 := TO4.below aN TO4.lt
          have TR5 : Blk (w4.alloc (.cells #[I er, I nr, I 0, S sr] 42)) w4.heap.size #[I er, I nr, I 0, S sr] 42 := Blk.new rfl
          have bb5 := bb4.alloc bb4.size (.cells #[I er, I nr, I 0, S sr] 42)
          obtain ⟨o0, o1, o2⟩ := TO5.facts
          have hz4 := t4.zs
          have hG4 := TO4.lt
          go_wp2_with fail
          clear aN t4 TO4 bb4
          generalize w4.alloc (.cells #[I er, I nr, I 0, S sr] 42) = v5 at *
          generalize w4.heap.size = H at *
          obtain ⟨us, hs, m5, te5⟩ := t5.mod
          refine (HM.out _ us hs m5 te5 t5.dk.desk).mono ?_
          rintro e w6 ⟨rfl, M6⟩
          obtain ⟨t6, b6, u6⟩ := t5.model bb5.size M6
          have TO6 := TO5.upd u6 (fun e => n3 (List.mem_singleton.1 e))
          have TR6 := TR5.upd u6 (fun e => by have := List.mem_singleton.1 e; omega)
          have bb6 := bb5.trans b6
          clear o0 o1 o2 TO5 TR5 t5 bb5 M6 b6 u6 m5 te5 HM
          dsimp only at t6 ⊢
          have aN := (Below.refl w6.heap.size w6).alloc (Nat.le_refl _) (.cells #[I er, I nr, I 0, S sr] 42)
          have t7 := t6.later aN
          have TO7 := TO6.below aN TO6.lt
          have TR7 := TR6.below aN TR6.lt
          have TQ7 : Blk (w6.alloc (.cells #[I er, I nr, I 0, S sr] 42)) w6.heap.size #[I er, I nr, I 0, S sr] 42 := Blk.new rfl
          have bb7 := bb6.alloc bb6.size (.cells #[I er, I nr, I 0, S sr] 42)
          have hz6 := t6.zs
          have hG6 := TO6.lt
          have hH6 := TR6.lt
          obtain ⟨o0, o1, o2⟩ := TO7.facts
          obtain ⟨a0, a1, a2⟩ := TR7.facts
          have NT := fun V hV => dnote_any V d ds img hV K A B C (str S1) t er nr sr
          generalize noteD K A B C ds = ds' at *
          generalize noteI K sr img = img' at *
          go_wp2_with fail
          clear aN t6 TO6 TR6 bb6 hz4 hG4
          generalize w6.alloc (.cells #[I er, I nr, I 0, S sr] 42) = v7 at *
          generalize w6.heap.size = J at *
          refine (NT _ t7.dk).mono ?_
          rintro e w8 ⟨rfl, g8, u8⟩
          obtain ⟨t8, b8⟩ := t7.note bb7.size g8 u8
          have bb8 := bb7.trans b8
          clear o0 o1 o2 a0 a1 a2 TO7 TR7 TQ7 t7 bb7 g8 u8 b8 NT hz6 hG6 hH6
          have x0 : w8.cell? ⟨bb, 0, none⟩ = some (ptr ub) := t8.box.cell 0
          obtain ⟨us, hs, m8, te8⟩ := t8.mod
          have hHa := handed_any w8 m us hs m8 U WW te8 t8.sto.hu ub t8.sto.brd
          go_wp2_with fail
          refine hHa.mono ?_
          rintro e w9 ⟨rfl, b9⟩
          have t9 := t8.later b9
          have bb9 := bb8.trans (b9.mono bb8.size)
          clear x0 hHa m8 te8 t8 bb8 b9
          go_wp2
          go_roundw
          case rel => exact ⟨j + 1, x, bw, ub, m, U, WW, ds', img', by omega, rfl, rfl, by go_num, t9, bb9⟩
          case measure => simp [intOf]; omega
      · have hjn : (j : Int) < (n : Int) := by omega
        have hnM : ¬ (n : Int) < 4398046511104 := by omega
        go_wp2
        go_ret2
        exact ⟨⟨_, rfl⟩, br⟩
    · have hjn : ¬ (j : Int) < (n : Int) := by omega
      by_cases hnM : (n : Int) < 4398046511104
      · go_wp2
        go_ret2
        exact ⟨⟨_, rfl⟩, br⟩
      · go_wp2
        go_ret2
        exact ⟨⟨_, rfl⟩, br⟩

set_option maxRecDepth 100000 in
set_option maxHeartbeats 8000000 in
theorem walk_loud (w : World) (ao : Option Addr) (n cap : Nat) (hops : ∀ i, i < n → OpAt w ao i) (hn : n < 9223372036854775808) :
    Calls Try.prog 31 #[.slice ao n cap, .bool false] w fun e w' => ∃ k : Int, e = .returned (.tuple #[I (-1), I k]) ∧ Below w.heap.size w w' := by
  have Hops : Hid _ := hops
  clear hops
  go_enter Try.func31, Try.ntmps31
  go_wp2_with fail
  refine (ground_any w).mono ?_
  rintro e w1 ⟨p, rfl, np, hp, b1⟩
  have lp := hp.lt
  have hp1 := hp.old (.cells #[ptr p] 48)
  have XB : Blk (w1.alloc (.cells #[ptr p] 48)) w1.heap.size #[ptr p] 48 := Blk.new rfl
  have bb1 : Below w.heap.size w (w1.alloc (.cells #[ptr p] 48)) := b1.alloc b1.size _
  have nb : w.heap.size ≤ w1.heap.size := b1.size
  have pb : w1.heap.size ≠ p := by omega
  go_wp2_with fail
  clear b1 hp
  generalize w1.alloc (.cells #[ptr p] 48) = v1 at *
  refine (pNew_any _ p hp1).mono ?_
  rintro e w2 ⟨x0, bw0, rfl, nx, nbw, s2, b2⟩
  have XB2 := XB.below b2 XB.lt
  have lb1 := XB.lt
  have bb2 := bb1.trans (b2.mono bb1.size)
  have hz1 := bb1.size
  clear hp1 XB bb1
  generalize w1.heap.size = bb at *
  go_wp2_with fail
  refine (mNew_any w2).mono ?_
  rintro e w3 ⟨rfl, m3, b3⟩
  have XB3 := XB2.below b3 XB2.lt
  have s3 := s2.later b3
  have bb3 := bb2.trans (b3.mono bb2.size)
  have hz2 := bb2.size
  obtain ⟨-, -, l1, l2, l3⟩ := s2.at0
  have l4 := XB2.lt
  have l5 := m3.head.lt
  clear XB2 s2 b3 bb2
  have t2 : Wst w.heap.size (w3.alloc (.cells (dkC [0, 0, 0, 0, 0] []) 36)) bb x0 bw0 p w2.heap.size w3.heap.size 0 [0, 0, 0, 0, 0, 0, 0, 0] 0 [0, 0, 0, 0, 0, 0, 0, 0] [0, 0, 0, 0, 0] [] := by
    have aG := (Below.refl w3.heap.size w3).alloc (Nat.le_refl _) (.cells (dkC [0, 0, 0, 0, 0] []) 36)
    exact ⟨XB3.below aG XB3.lt, s3.later aG, ⟨f8, z40, m3.later aG, tells0 _⟩, ⟨Blk.new rfl, rfl⟩, nb, by omega, np, by omega, by omega, by omega, by omega, pb, by omega, by omega, by omega, by omega, by omega, by omega, by omega, by omega, by omega⟩
  have bb4 : Below w.heap.size w (w3.alloc (.cells (dkC [0, 0, 0, 0, 0] []) 36)) := bb3.alloc bb3.size _
  rw [show (Obj.cells (dkC [0, 0, 0, 0, 0] []) 36) = Obj.cells #[I 0, I 0, I 0, I 0, I 0, .string ⟨#[]⟩] 36 from rfl] at t2 bb4
  clear s3 XB3 m3 bb3
  go_wp2_with fail
  generalize w3.alloc (Obj.cells #[I 0, I 0, I 0, I 0, I 0, .string ⟨#[]⟩] 36) = v4 at *
  generalize w3.heap.size = d at *
  go_loopw [7, 8, 10] (fun xs ms i wr => ∃ (j x bw ub m u : Nat) (ws : List Nat) (ds : List Int) (img : List UInt8), j ≤ n ∧ xs = ptr x ∧ ms = ptr m ∧ i = I (j : Int) ∧ Wst w.heap.size wr bb x bw ub m d u ws u ws ds img ∧ Below w.heap.size w wr) (fun _ _ i _ => (n - intOf i).toNat)
  case atStart => exact ⟨0, x0, bw0, p, w2.heap.size, 0, [0, 0, 0, 0, 0, 0, 0, 0], [0, 0, 0, 0, 0], [], by omega, rfl, rfl, rfl, t2, bb4⟩
  case round =>
    clear t2 bb4 nx nbw np pb lp lb1 hz1 hz2 l1 l2 l3 l4 l5
    obtain ⟨j, x, bw, ub, m, u, ws, ds, img, hj, rfl, rfl, rfl, tr, br⟩ := hrel
    by_cases hlt : j < n
    · by_cases hM : (j : Int) < 4398046511104
      · obtain ⟨b, off, K, A, B, C, s, t, e, hl, c0, c1, c2, c3, c4, c5⟩ := (Hops.out j hlt)
        subst e
        obtain ⟨S1, rfl⟩ := str_of s
        have hjn : (j : Int) < (n : Int) := by omega
        rw [← br.cell (p := ⟨b, _, none⟩) hl] at c0 c1 c2 c3 c4 c5
        have tA := tr.later ((Below.refl wr.heap.size wr).alloc (Nat.le_refl _) (.cells #[I K, I A, I B, I C, .string (str S1), .string t] 38))
        have bA := br.alloc br.size (.cells #[I K, I A, I B, I C, .string (str S1), .string t] 38)
        have TO : Blk (wr.alloc (.cells #[I K, I A, I B, I C, .string (str S1), .string t] 38)) wr.heap.size #[I K, I A, I B, I C, .string (str S1), .string t] 38 := Blk.new rfl
        obtain ⟨y0, y1, y2, y3, y4, y5⟩ := tr.zs
        by_cases k1 : K = 1
        · subst k1
          go_wp2_with fail
          clear c0 c1 c2 c3 c4 c5 tr br
          generalize wr.alloc (.cells #[I 1, I A, I B, I C, .string (str S1), .string t] 38) = v2 at *
          generalize wr.heap.size = G at *
          refine (ground_any v2).mono ?_
          rintro e w3 ⟨p', rfl, np', hp', b3⟩
          have tB := tA.later b3
          have TO3 := TO.below b3 TO.lt
          have bB := bA.trans (b3.mono bA.size)
          have hG2 := TO.lt
          obtain ⟨q0, q1, q2, q3, q4, q5⟩ := tA.zs
          have hnp := bA.size
          clear tA TO bA b3
          have XB := tB.box
          obtain ⟨x1, x2, x3⟩ := XB.facts
          have hbp : bb ≠ p' := by omega
          have hpb : p' ≠ bb := by omega
          have hGb : G ≠ bb := by omega
          have hp4 := hp'.other (a := ⟨bb, 0, none⟩) hpb (ptr p')
          have XB4 : Blk _ bb #[ptr p'] 48 := XB.set (i := 0) (ptr p')
          have Ub : Upd [bb] w3 (w3.setCell ⟨bb, 0, none⟩ (ptr p')) := (Upd.refl _ _).setCell (p := ⟨bb, 0, none⟩) (by simp) _
          have TO4 := TO3.upd Ub (fun hm => hGb (List.mem_singleton.1 hm))
          have dk4 := tB.dk.upd Ub (fun hm => tB.b5 (List.mem_singleton.1 hm).symm)
          have bB4 := bB.trans (Ub.below bB.size (fun z hz => by rw [List.mem_singleton.1 hz]; exact nb))
          have e1 := tB.b5
          have e2 := tB.nd
          have e3 := tB.nb
          go_wp2_with fail
          clear x1 x2 x3 XB TO3 bB tB hp' Ub
          generalize w3.setCell ⟨bb, 0, none⟩ (ptr p') = v4 at *
          refine (pNew_any _ p' hp4).mono ?_
          rintro e w5 ⟨x', bw', rfl, nx', nbw', s5, b5⟩
          have l9 := XB4.lt
          have l8 := TO4.lt
          have l7 := dk4.head.lt
          have l6 := hp4.lt
          have XB5 : Blk w5 bb #[ptr p'] 48 := XB4.below b5 XB4.lt
          have TO5 := TO4.below b5 TO4.lt
          have dk5 := dk4.later b5
          have bB5 := bB4.trans (b5.mono bB4.size)
          have hz5 := b5.size
          obtain ⟨-, -, s1', s2', s3'⟩ := s5.at0
          clear XB4 TO4 dk4 bB4 b5 hp4
          go_wp2_with fail
          refine (mNew_any w5).mono ?_
          rintro e v3 ⟨rfl, m6, b6⟩
          have hz6 := b6.size
          have l5 := m6.head.lt
          have tA : Wst w.heap.size v3 bb x' bw' p' w5.heap.size d 0 [0, 0, 0, 0, 0, 0, 0, 0] 0 [0, 0, 0, 0, 0, 0, 0, 0] ds img :=
            ⟨XB5.below b6 XB5.lt, s5.later b6, ⟨f8, z40, m6, tells0 _⟩, dk5.later b6, nb, by omega, by omega, by omega, e2, by omega, by omega, hbp, by omega, e1, by omega, by omega, by omega, by omega, by omega, by omega, by omega⟩
          have TO := TO5.below b6 TO5.lt
          have bA := bB5.trans (b6.mono bB5.size)
          have n1 : G ≠ bw' := by omega
          have n2 : G ≠ p' := by omega
          have n3 : G ≠ w5.heap.size := by have := TO5.lt; omega
          have n4 : G ≠ d := by omega
          clear XB5 s5 m6 dk5 b6 TO5 bB5
          generalize w5.heap.size = m' at *
          clear s1' s2' s3' l5 l6 l7 l8 l9 hz5 hz6 q0 q1 q2 q3 q4 q5 hnp
          have D := fun V hV hd => do_any V x' bw' p' 0 [0, 0, 0, 0, 0, 0, 0, 0] hV d 0 (ds.getD 0 0) (ds.getD 1 0) (ds.getD 2 0) (ds.getD 3 0) (ds.getD 4 0) img hd 1 A B C S1 t
          have M := fun V us hs (hV : MoR V m' us hs) (ht : Tells 0 [0, 0, 0, 0, 0, 0, 0, 0] us hs) hd => dom_any V m' us hs hV 0 [0, 0, 0, 0, 0, 0, 0, 0] ht tA.sto.hu tA.sto.len tA.sto.lt d 0 (ds.getD 0 0) (ds.getD 1 0) (ds.getD 2 0) (ds.getD 3 0) (ds.getD 4 0) img hd 1 A B C S1 t
          generalize doP 1 A B S1 img (ds.getD 0 0) (ds.getD 1 0) (ds.getD 2 0) (ds.getD 3 0) (ds.getD 4 0) 0 [0, 0, 0, 0, 0, 0, 0, 0] = r at D M
          obtain ⟨⟨er, nr, sr⟩, U, WW⟩ := r
          dsimp only at D M
          obtain ⟨z0, z1, z2, z3, z4, z5⟩ := tA.zs
          have HD : Hid _ := D
          have HM : Hid _ := M
          clear D M
          obtain ⟨o0, o1, o2⟩ := TO.facts
          go_wp2_with fail
          refine (HD.out _ tA.sto tA.dk.desk).mono ?_
          rintro e w4 ⟨rfl, s4, u4⟩
          obtain ⟨t4, b4⟩ := tA.real bA.size s4 u4
          have TO4 := TO.upd u4 (by simp; omega)
          have bb4 := bA.trans b4
          clear o0 o1 o2 TO tA bA s4 u4 b4 HD
          dsimp only at t4 ⊢
          have aN := (Below.refl w4.heap.size w4).alloc (Nat.le_refl _) (.cells #[I er, I nr, I 0, S sr] 42)
          have t5 := t4.later aN
          have TO5 := TO4.below aN TO4.lt
          have TR5 : Blk (w4.alloc (.cells #[I er, I nr, I 0, S sr] 42)) w4.heap.size #[I er, I nr, I 0, S sr] 42 := Blk.new rfl
          have bb5 := bb4.alloc bb4.size (.cells #[I er, I nr, I 0, S sr] 42)
          obtain ⟨o0, o1, o2⟩ := TO5.facts
          have hz4 := t4.zs
          have hG4 := TO4.lt
          go_wp2_with fail
          clear aN t4 TO4 bb4
          generalize w4.alloc (.cells #[I er, I nr, I 0, S sr] 42) = v5 at *
          generalize w4.heap.size = H at *
          obtain ⟨us, hs, m5, te5⟩ := t5.mod
          refine (HM.out _ us hs m5 te5 t5.dk.desk).mono ?_
          rintro e w6 ⟨rfl, M6⟩
          obtain ⟨t6, b6, u6⟩ := t5.model bb5.size M6
          have TO6 := TO5.upd u6 (fun e => n3 (List.mem_singleton.1 e))
          have TR6 := TR5.upd u6 (fun e => by have := List.mem_singleton.1 e; omega)
          have bb6 := bb5.trans b6
          clear o0 o1 o2 TO5 TR5 t5 bb5 M6 b6 u6 m5 te5 HM
          dsimp only at t6 ⊢
          have aN := (Below.refl w6.heap.size w6).alloc (Nat.le_refl _) (.cells #[I er, I nr, I 0, S sr] 42)
          have t7 := t6.later aN
          have TO7 := TO6.below aN TO6.lt
          have TR7 := TR6.below aN TR6.lt
          have TQ7 : Blk (w6.alloc (.cells #[I er, I nr, I 0, S sr] 42)) w6.heap.size #[I er, I nr, I 0, S sr] 42 := Blk.new rfl
          have bb7 := bb6.alloc bb6.size (.cells #[I er, I nr, I 0, S sr] 42)
          have hz6 := t6.zs
          have hG6 := TO6.lt
          have hH6 := TR6.lt
          obtain ⟨o0, o1, o2⟩ := TO7.facts
          obtain ⟨a0, a1, a2⟩ := TR7.facts
          have NT := fun V hV => dnote_any V d ds img hV 1 A B C (str S1) t er nr sr
          generalize noteD 1 A B C ds = ds' at *
          generalize noteI 1 sr img = img' at *
          go_wp2_with fail
          clear aN t6 TO6 TR6 bb6 hz4 hG4
          generalize w6.alloc (.cells #[I er, I nr, I 0, S sr] 42) = v7 at *
          generalize w6.heap.size = J at *
          refine (NT _ t7.dk).mono ?_
          rintro e w8 ⟨rfl, g8, u8⟩
          obtain ⟨t8, b8⟩ := t7.note bb7.size g8 u8
          have bb8 := bb7.trans b8
          clear o0 o1 o2 a0 a1 a2 TO7 TR7 TQ7 t7 bb7 g8 u8 b8 NT hz6 hG6 hH6
          have x0 : w8.cell? ⟨bb, 0, none⟩ = some (ptr p') := t8.box.cell 0
          obtain ⟨us, hs, m8, te8⟩ := t8.mod
          have hHa := handed_any w8 m' us hs m8 U WW te8 t8.sto.hu p' t8.sto.brd
          go_wp2_with fail
          refine hHa.mono ?_
          rintro e w9 ⟨rfl, b9⟩
          have t9 := t8.later b9
          have bb9 := bb8.trans (b9.mono bb8.size)
          clear x0 hHa m8 te8 t8 bb8 b9
          go_wp2_with fail
          refine (show_any w9 x' bw' p' U WW t9.sto).mono ?_
          rintro e w10 ⟨rfl, b10⟩
          have t10 := t9.later b10
          have bb10 := bb9.trans (b10.mono bb9.size)
          clear t9 bb9 b10
          obtain ⟨us, hs, m10, te10⟩ := t10.mod
          go_wp2_with fail
          refine (mshow_any w10 m' us hs m10 U WW te10).mono ?_
          rintro e w11 ⟨rfl, b11⟩
          have t11 := t10.later b11
          have bb11 := bb10.trans (b11.mono bb10.size)
          clear t10 bb10 b11 m10 te10
          go_wp2_with fail
          refine (check_any w11 x' bw' p' U WW t11.sto).mono ?_
          rintro e w12 ⟨rfl, b12⟩
          have t12 := t11.later b12
          have bb12 := bb11.trans (b12.mono bb11.size)
          clear t11 bb11 b12
          go_wp2
          go_roundw
          case rel => exact ⟨j + 1, x', bw', p', m', U, WW, ds', img', by omega, rfl, rfl, by go_num, t12, bb12⟩
          case measure => simp [intOf]; omega
        · have k1b : (K == 1) = false := by simpa using k1
          have n1 : wr.heap.size ≠ bw := by omega
          have n2 : wr.heap.size ≠ ub := by omega
          have n3 : wr.heap.size ≠ m := by omega
          have n4 : wr.heap.size ≠ d := by omega
          go_upto_region 13 with fail
          clear c0 c1 c2 c3 c4 c5 tr br
          generalize wr.alloc (.cells #[I K, I A, I B, I C, .string (str S1), .string t] 38) = v3 at *
          generalize wr.heap.size = G at *
          have D := fun V hV hd => do_any V x bw ub u ws hV d 0 (ds.getD 0 0) (ds.getD 1 0) (ds.getD 2 0) (ds.getD 3 0) (ds.getD 4 0) img hd K A B C S1 t
          have M := fun V us hs (hV : MoR V m us hs) (ht : Tells u ws us hs) hd => dom_any V m us hs hV u ws ht tA.sto.hu tA.sto.len tA.sto.lt d 0 (ds.getD 0 0) (ds.getD 1 0) (ds.getD 2 0) (ds.getD 3 0) (ds.getD 4 0) img hd K A B C S1 t
          generalize doP K A B S1 img (ds.getD 0 0) (ds.getD 1 0) (ds.getD 2 0) (ds.getD 3 0) (ds.getD 4 0) u ws = r at D M
          obtain ⟨⟨er, nr, sr⟩, U, WW⟩ := r
          dsimp only at D M
          obtain ⟨z0, z1, z2, z3, z4, z5⟩ := tA.zs
          have HD : Hid _ := D
          have HM : Hid _ := M
          clear D M
          obtain ⟨o0, o1, o2⟩ := TO.facts
          go_wp2_with fail
          refine (HD.out _ tA.sto tA.dk.desk).mono ?_
          rintro e w4 ⟨rfl, s4, u4⟩
          obtain ⟨t4, b4⟩ := tA.real bA.size s4 u4
          have TO4 := TO.upd u4 (by simp; omega)
          have bb4 := bA.trans b4
          clear o0 o1 o2 TO tA bA s4 u4 b4 HD
          dsimp only at t4 ⊢
          have aN := (Below.refl w4.heap.size w4).alloc (Nat.le_refl _) (.cells #[I er, I nr, I 0, S sr] 42)
          have t5 := t4.later aN
          have TO5 := TO4.below aN TO4.lt
          have TR5 : Blk (w4.alloc (.cells #[I er, I nr, I 0, S sr] 42)) w4.heap.size #[I er, I nr, I 0, S sr] 42 := Blk.new rfl
          have bb5 := bb4.alloc bb4.size (.cells #[I er, I nr, I 0, S sr] 42)
          obtain ⟨o0, o1, o2⟩ := TO5.facts
          have hz4 := t4.zs
          have hG4 := TO4.lt
          go_wp2_with fail
          clear aN t4 TO4 bb4
          generalize w4.alloc (.cells #[I er, I nr, I 0, S sr] 42) = v5 at *
          generalize w4.heap.size = H at *
          obtain ⟨us, hs, m5, te5⟩ := t5.mod
          refine (HM.out _ us hs m5 te5 t5.dk.desk).mono ?_
          rintro e w6 ⟨rfl, M6⟩
          obtain ⟨t6, b6, u6⟩ := t5.model bb5.size M6
          have TO6 := TO5.upd u6 (fun e => n3 (List.mem_singleton.1 e))
          have TR6 := TR5.upd u6 (fun e => by have := List.mem_singleton.1 e; omega)
          have bb6 := bb5.trans b6
          clear o0 o1 o2 TO5 TR5 t5 bb5 M6 b6 u6 m5 te5 HM
          dsimp only at t6 ⊢
          have aN := (Below.refl w6.heap.size w6).alloc (Nat.le_refl _) (.cells #[I er, I nr, I 0, S sr] 42)
          have t7 := t6.later aN
          have TO7 := TO6.below aN TO6.lt
          have TR7 := TR6.below aN TR6.lt
          have TQ7 : Blk (w6.alloc (.cells #[I er, I nr, I 0, S sr] 42)) w6.heap.size #[I er, I nr, I 0, S sr] 42 := Blk.new rfl
          have bb7 := bb6.alloc bb6.size (.cells #[I er, I nr, I 0, S sr] 42)
          have hz6 := t6.zs
          have hG6 := TO6.lt
          have hH6 := TR6.lt
          obtain ⟨o0, o1, o2⟩ := TO7.facts
          obtain ⟨a0, a1, a2⟩ := TR7.facts
          have NT := fun V hV => dnote_any V d ds img hV K A B C (str S1) t er nr sr
          generalize noteD K A B C ds = ds' at *
          generalize noteI K sr img = img' at *
          go_wp2_with fail
          clear aN t6 TO6 TR6 bb6 hz4 hG4
          generalize w6.alloc (.cells #[I er, I nr, I 0, S sr] 42) = v7 at *
          generalize w6.heap.size = J at *
          refine (NT _ t7.dk).mono ?_
          rintro e w8 ⟨rfl, g8, u8⟩
          obtain ⟨t8, b8⟩ := t7.note bb7.size g8 u8
          have bb8 := bb7.trans b8
          clear o0 o1 o2 a0 a1 a2 TO7 TR7 TQ7 t7 bb7 g8 u8 b8 NT hz6 hG6 hH6
          have x0 : w8.cell? ⟨bb, 0, none⟩ = some (ptr ub) := t8.box.cell 0
          obtain ⟨us, hs, m8, te8⟩ := t8.mod
          have hHa := handed_any w8 m us hs m8 U WW te8 t8.sto.hu ub t8.sto.brd
          go_wp2_with fail
          refine hHa.mono ?_
          rintro e w9 ⟨rfl, b9⟩
          have t9 := t8.later b9
          have bb9 := bb8.trans (b9.mono bb8.size)
          clear x0 hHa m8 te8 t8 bb8 b9
          go_wp2_with fail
          refine (show_any w9 x bw ub U WW t9.sto).mono ?_
          rintro e w10 ⟨rfl, b10⟩
          have t10 := t9.later b10
          have bb10 := bb9.trans (b10.mono bb9.size)
          clear t9 bb9 b10
          obtain ⟨us, hs, m10, te10⟩ := t10.mod
          go_wp2_with fail
          refine (mshow_any w10 m us hs m10 U WW te10).mono ?_
          rintro e w11 ⟨rfl, b11⟩
          have t11 := t10.later b11
          have bb11 := bb10.trans (b11.mono bb10.size)
          clear t10 bb10 b11 m10 te10
          go_wp2_with fail
          refine (check_any w11 x bw ub U WW t11.sto).mono ?_
          rintro e w12 ⟨rfl, b12⟩
          have t12 := t11.later b12
          have bb12 := bb11.trans (b12.mono bb11.size)
          clear t11 bb11 b12
          go_wp2
          go_roundw
          case rel => exact ⟨j + 1, x, bw, ub, m, U, WW, ds', img', by omega, rfl, rfl, by go_num, t12, bb12⟩
          case measure => simp [intOf]; omega
      · have hjn : (j : Int) < (n : Int) := by omega
        have hnM : ¬ (n : Int) < 4398046511104 := by omega
        go_wp2
        go_ret2
        exact ⟨⟨_, rfl⟩, br⟩
    · have hjn : ¬ (j : Int) < (n : Int) := by omega
      by_cases hnM : (n : Int) < 4398046511104
      · go_wp2
        go_ret2
        exact ⟨⟨_, rfl⟩, br⟩
      · go_wp2
        go_ret2
        exact ⟨⟨_, rfl⟩, br⟩
end Go.Proofs.Qxb6500468a
