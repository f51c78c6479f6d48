import Derived.Test.Qxb6500468aPk23
import Derived.Test.Qxb6500468aOpAt
import Derived.Deep.DeepCutAuto
namespace Go.Proofs.Qxb6500468a
open Go.RowKit

structure Kst (N : Nat) (w : World) (bb x bw ub g u : Nat) (ws : List Nat) (ds : List Int) (img : List UInt8) : Prop where
  box : ∃ p, Blk w bb #[ptr p] 48
  sto : StoR w x bw ub u ws
  gh : ∃ us hs, GhR w g us hs ds img ∧ Tells u ws us hs
  nb : N ≤ bb
  nw : N ≤ bw
  nu : N ≤ ub
  ng : N ≤ g
  b1 : bb ≠ x
  b2 : bb ≠ bw
  b3 : bb ≠ ub
  b4 : bb ≠ g
  g1 : g ≠ x
  g2 : g ≠ bw
  g3 : g ≠ ub
theorem Kst.later {N : Nat} {w w' : World} {bb x bw ub g u : Nat} {ws : List Nat} {ds : List Int} {img : List UInt8} (h : Kst N w bb x bw ub g u ws ds img) (b : Below w.heap.size w w') : Kst N w' bb x bw ub g u ws ds img := by
  obtain ⟨p, hp⟩ := h.box
  obtain ⟨us, hs, h1, h2⟩ := h.gh
  exact ⟨⟨p, hp.below b hp.lt⟩, h.sto.later b, ⟨us, hs, h1.later b, h2⟩, h.nb, h.nw, h.nu, h.ng, h.b1, h.b2, h.b3, h.b4, h.g1, h.g2, h.g3⟩
/-- Behind Do: the store has gone on, the ghost not yet. -/
theorem Kst.done {N : Nat} {w w' : World} {bb x bw ub g u : Nat} {ws : List Nat} {ds : List Int} {img : List UInt8} (h : Kst N w bb x bw ub g u ws ds img) (hN : N ≤ w.heap.size) (k : Upd [bw, ub] w w') :
    (∃ p, Blk w' bb #[ptr p] 48) ∧ (∃ us hs, GhR w' g us hs ds img ∧ Tells u ws us hs) ∧ Below N w w' := by
  obtain ⟨p, hp⟩ := h.box
  obtain ⟨us, hs, h1, h2⟩ := h.gh
  refine ⟨⟨p, hp.upd k (by simp; exact ⟨h.b2, h.b3⟩)⟩, ⟨us, hs, h1.upd k (by simp; exact ⟨h.g2, h.g3⟩), h2⟩, k.below hN ?_⟩
  intro y hy
  simp only [List.mem_cons, List.not_mem_nil, or_false] at hy
  rcases hy with e | e <;> rw [e]
  · exact h.nw
  · exact h.nu
theorem Kst.zs {N : Nat} {w : World} {bb x bw ub g u : Nat} {ws : List Nat} {ds : List Int} {img : List UInt8} (h : Kst N w bb x bw ub g u ws ds img) : x < w.heap.size ∧ bw < w.heap.size ∧ ub < w.heap.size ∧ g < w.heap.size ∧ bb < w.heap.size := by
  obtain ⟨-, -, l1, l2, l3⟩ := h.sto.at0
  obtain ⟨_, hp⟩ := h.box
  obtain ⟨_, _, hg, _⟩ := h.gh
  exact ⟨l1, l2, l3, hg.head.lt, hp.lt⟩
structure Mid (w wx : World) (bb x bw ub g u : Nat) (ws : List Nat) (ds : List Int) (img : List UInt8) (U : Nat) (W : List Nat) (G : Nat) (op : Array Value) : Prop where
  sto : StoR wx x bw ub U W
  op : Blk wx G op 38
  gh : ∃ us hs, GhR wx g us hs ds img ∧ Tells u ws us hs
  box : ∃ p, Blk wx bb #[ptr p] 48
  bel : Below w.heap.size w wx
theorem Mid.upd {w wx wy : World} {bb x bw ub g u : Nat} {ws : List Nat} {ds : List Int} {img : List UInt8} {U : Nat} {W : List Nat} {G : Nat} {op : Array Value} (h : Mid w wx bb x bw ub g u ws ds img U W G op) {y : Nat} (k : Upd [y] wx wy) (y1 : x ≠ y) (y2 : bw ≠ y) (y3 : ub ≠ y) (y4 : G ≠ y) (y5 : g ≠ y) (y6 : bb ≠ y) (y7 : w.heap.size ≤ y) : Mid w wy bb x bw ub g u ws ds img U W G op := by
  obtain ⟨us, hs, h1, h2⟩ := h.gh
  obtain ⟨p, hp⟩ := h.box
  refine ⟨h.sto.upd k (by simpa using y1) (by simpa using y2) (by simpa using y3), h.op.upd k (by simpa using y4), ⟨us, hs, h1.upd k (by simpa using y5), h2⟩, ⟨p, hp.upd k (by simpa using y6)⟩, h.bel.trans (k.below h.bel.size ?_)⟩
  intro z hz
  rw [List.mem_singleton.1 hz]
  exact y7
theorem Mid.later {w wx wy : World} {bb x bw ub g u : Nat} {ws : List Nat} {ds : List Int} {img : List UInt8} {U : Nat} {W : List Nat} {G : Nat} {op : Array Value} (h : Mid w wx bb x bw ub g u ws ds img U W G op) (b : Below wx.heap.size wx wy) : Mid w wy bb x bw ub g u ws ds img U W G op := by
  obtain ⟨us, hs, h1, h2⟩ := h.gh
  obtain ⟨p, hp⟩ := h.box
  exact ⟨h.sto.later b, h.op.below b h.op.lt, ⟨us, hs, h1.later b, h2⟩, ⟨p, hp.below b hp.lt⟩, h.bel.trans (b.mono h.bel.size)⟩
theorem five {l : List Int} (h : l.length = 5) : ∃ a b c d e, l = [a, b, c, d, e] := by
  match l, h with
  | [a, b, c, d, e], _ => exact ⟨a, b, c, d, e, rfl⟩
def KeptOk : Prop := ∀ (w : World) (x bw ub u : Nat) (ws : List Nat) (g : Nat) (us : List Bool) (hs ds : List Int) (img : List UInt8) (K A B C : Int) (S1 : List UInt8) (t : ByteArray) (r : (Int × Int × List UInt8) × Nat × List Nat)
    (_ : doP K A B S1 img (ds.getD 0 0) (ds.getD 1 0) (ds.getD 2 0) (ds.getD 3 0) (ds.getD 4 0) u ws = r) (_ : StoR w x bw ub r.2.1 r.2.2) (_ : GhR w g us hs ds img) (_ : Tells u ws us hs) (_ : u < 256) (_ : ws.length = 8) (_ : ∀ i, ws.getD i 0 < 72057594037927936) (_ : g ≠ x) (_ : g ≠ bw) (_ : g ≠ ub),
    Calls Try.prog 30 #[ptr x, ptr g, OpV K A B C (str S1) t, AnsV r.1.1 r.1.2.1 r.1.2.2] w fun e w' => e = .returned (.bool true) ∧ Gone w g ds img r.2.1 r.2.2 w'
theorem str_of (s : ByteArray) : ∃ l, s = str l := ⟨s.data.toList, by simp [str]⟩
def f8 : List Bool := [false, false, false, false, false, false, false, false]
def z40 : List Int := List.replicate 40 0
theorem tells0 (hs : List Int) : Tells 0 [0, 0, 0, 0, 0, 0, 0, 0] f8 hs := by
  intro i hi
  refine ⟨?_, fun e => by rw [Nat.zero_testBit] at e; cases e⟩
  rw [Nat.zero_testBit]
  match i, hi with
  | 0, _ => rfl
  | 1, _ => rfl
  | 2, _ => rfl
  | 3, _ => rfl
  | 4, _ => rfl
  | 5, _ => rfl
  | 6, _ => rfl
  | 7, _ => rfl

set_option maxRecDepth 100000 in
set_option maxHeartbeats 4000000 in
theorem keepsUpTo_any (HK : KeptOk) (w : World) (ao : Option Addr) (n cap : Nat) (hops : ∀ i, i < n → OpAt w ao i) (hn : n < 9223372036854775808) :
    Calls Try.prog 11 #[.slice ao n cap] w fun e w' => e = .returned (I (-1)) ∧ Below w.heap.size w w' := by
  have Hops : Hid _ := hops
  have HHK : Hid _ := HK
  clear hops HK
  go_enter Try.func11, Try.ntmps11
  go_wp2_with fail
  refine (ground_any w).mono ?_
  rintro e w1 ⟨p, rfl, np, hp, b1⟩
  have lp := hp.lt
  have aB := (Below.refl w1.heap.size w1).alloc (Nat.le_refl _) (.cells #[ptr p] 48)
  have hp1 := hp.old (.cells #[ptr p] 48)
  have XB : Blk (w1.alloc (.cells #[ptr p] 48)) w1.heap.size #[ptr p] 48 := Blk.new rfl
  have bb1 : Below w.heap.size w (w1.alloc (.cells #[ptr p] 48)) := b1.alloc b1.size _
  have nb : w.heap.size ≤ w1.heap.size := b1.size
  have pb : w1.heap.size ≠ p := by omega
  go_wp2_with fail
  clear b1 aB hp
  generalize w1.alloc (.cells #[ptr p] 48) = v1 at *
  refine (pNew_any _ p hp1).mono ?_
  rintro e w2 ⟨x0, bw0, rfl, nx, nbw, s2, b2⟩
  have XB2 := XB.below b2 XB.lt
  have lb1 := XB.lt
  have bb2 := bb1.trans (b2.mono bb1.size)
  have hz1 := bb1.size
  clear hp1 XB bb1
  generalize w1.heap.size = bb at *
  have t2 : Kst w.heap.size (w2.alloc (.cells (ghC f8 z40 [0, 0, 0, 0, 0] []) 56)) bb x0 bw0 p w2.heap.size 0 [0, 0, 0, 0, 0, 0, 0, 0] [0, 0, 0, 0, 0] [] := by
    have aG := (Below.refl w2.heap.size w2).alloc (Nat.le_refl _) (.cells (ghC f8 z40 [0, 0, 0, 0, 0] []) 56)
    obtain ⟨-, -, l1, l2, l3⟩ := s2.at0
    have l4 := XB2.lt
    exact ⟨⟨p, XB2.below aG XB2.lt⟩, s2.later aG, ⟨f8, z40, ⟨Blk.new rfl, rfl, rfl, rfl⟩, tells0 _⟩, nb, by omega, np, by omega, by omega, by omega, pb, by omega, by omega, by omega, by omega⟩
  have bb3 : Below w.heap.size w (w2.alloc (.cells (ghC f8 z40 [0, 0, 0, 0, 0] []) 56)) := bb2.alloc bb2.size _
  rw [show (Obj.cells (ghC f8 z40 [0, 0, 0, 0, 0] []) 56) = Obj.cells #[.bool false, .bool false, .bool false, .bool false, .bool false, .bool false, .bool false, .bool false, I 0, I 0, I 0, I 0, I 0, I 0, I 0, I 0, I 0, I 0, I 0, I 0, I 0, I 0, I 0, I 0, I 0, I 0, I 0, I 0, I 0, I 0, I 0, I 0, I 0, I 0, I 0, I 0, I 0, I 0, I 0, I 0, I 0, I 0, I 0, I 0, I 0, I 0, I 0, I 0, I 0, I 0, I 0, I 0, I 0, .string ⟨#[]⟩] 56 from rfl] at t2 bb3
  clear s2 b2 XB2 bb2
  go_wp2
  go_loopw [4, 5, 6] (fun xs gs i wr => ∃ (j x bw ub g u : Nat) (ws : List Nat) (ds : List Int) (img : List UInt8), j ≤ n ∧ xs = ptr x ∧ gs = ptr g ∧ i = I (j : Int) ∧ Kst w.heap.size wr bb x bw ub g u ws ds img ∧ Below w.heap.size w wr) (fun _ _ i _ => (n - intOf i).toNat)
  case atStart => exact ⟨0, x0, bw0, p, w2.heap.size, 0, [0, 0, 0, 0, 0, 0, 0, 0], [0, 0, 0, 0, 0], [], by omega, rfl, rfl, rfl, t2, bb3⟩
  case round =>
    clear t2 bb3 nx nbw np pb lp lb1 hz1
    obtain ⟨j, x, bw, ub, g, u, ws, ds, img, hj, rfl, rfl, rfl, tr, br⟩ := hrel
    by_cases hlt : j < n
    · by_cases hM : (j : Int) < 4398046511104
      · obtain ⟨b, off, K, A, B, C, s, t, e, hl, c0, c1, c2, c3, c4, c5⟩ := (Hops.out j hlt)
        subst e
        obtain ⟨S1, rfl⟩ := str_of s
        have hjn : (j : Int) < (n : Int) := by omega
        rw [← br.cell (p := ⟨b, _, none⟩) hl] at c0 c1 c2 c3 c4 c5
        have tA := tr.later ((Below.refl wr.heap.size wr).alloc (Nat.le_refl _) (.cells #[I K, I A, I B, I C, .string (str S1), .string t] 38))
        have bA := br.alloc br.size (.cells #[I K, I A, I B, I C, .string (str S1), .string t] 38)
        have TO : Blk (wr.alloc (.cells #[I K, I A, I B, I C, .string (str S1), .string t] 38)) wr.heap.size #[I K, I A, I B, I C, .string (str S1), .string t] 38 := Blk.new rfl
        obtain ⟨-, -, l1, l2, l3⟩ := tr.sto.at0
        obtain ⟨l4, l5⟩ : g < wr.heap.size ∧ bb < wr.heap.size := ⟨(by obtain ⟨_, _, h, _⟩ := tr.gh; exact h.head.lt), (by obtain ⟨_, h⟩ := tr.box; exact h.lt)⟩
        by_cases k1 : K = 1
        · subst k1
          go_wp2_with fail
          clear c0 c1 c2 c3 c4 c5 tr br
          generalize wr.alloc (.cells #[I 1, I A, I B, I C, .string (str S1), .string t] 38) = v2 at *
          generalize wr.heap.size = G at *
          refine (ground_any v2).mono ?_
          rintro e w3 ⟨p', rfl, np', hp', b3⟩
          have tB := tA.later b3
          have TO3 := TO.below b3 TO.lt
          have bB := bA.trans (b3.mono bA.size)
          have hG2 := TO.lt
          obtain ⟨-, -, -, -, y5⟩ := tA.zs
          have hnp := bA.size
          clear tA TO bA b3
          obtain ⟨pO, XB⟩ := tB.box
          obtain ⟨x1, x2, x3⟩ := XB.facts
          have hbp : bb ≠ p' := by omega
          have hpb : p' ≠ bb := by omega
          have hGb : G ≠ bb := by omega
          have hp4 := hp'.other (a := ⟨bb, 0, none⟩) hpb (ptr p')
          have XB4 := XB.set (i := 0) (ptr p')
          have Ub : Upd [bb] w3 (w3.setCell ⟨bb, 0, none⟩ (ptr p')) := (Upd.refl _ _).setCell (p := ⟨bb, 0, none⟩) (by simp) _
          have TO4 := TO3.upd Ub (fun hm => hGb (List.mem_singleton.1 hm))
          obtain ⟨us, hs, gB, teB⟩ := tB.gh
          have gB4 := gB.upd Ub (fun hm => tB.b4 (List.mem_singleton.1 hm).symm)
          have bB4 := bB.trans (Ub.below bB.size (fun z hz => by rw [List.mem_singleton.1 hz]; exact nb))
          go_wp2_with fail
          clear x1 x2 x3 XB TO3 gB bB tB teB hp'
          generalize w3.setCell ⟨bb, 0, none⟩ (ptr p') = v4 at *
          refine (pNew_any _ p' hp4).mono ?_
          rintro e w5 ⟨x', bw', rfl, nx', nbw', s5, b5⟩
          have l9 := XB4.lt
          have l8 := TO4.lt
          have l7 := gB4.head.lt
          have l6 := hp4.lt
          have XB5 : Blk w5 bb #[ptr p'] 48 := XB4.below b5 XB4.lt
          have TO5 := TO4.below b5 TO4.lt
          have gB5 := gB4.later b5
          have bB5 := bB4.trans (b5.mono bB4.size)
          have hz5 := b5.size
          clear XB4 TO4 gB4 bB4 b5 hp4
          obtain ⟨d0, d1, d2, d3, d4, d5, ld⟩ := gB5.desk.cells
          have ld3 := gB5.l3
          obtain ⟨e0, e1, e2, e3, e4, hds⟩ := five ld3
          subst hds
          have D0 : w5.cell? ⟨g, 48, none⟩ = some (I e0) := d0
          have D1 : w5.cell? ⟨g, 48 + 1, none⟩ = some (I e1) := d1
          have D2 : w5.cell? ⟨g, 48 + 2, none⟩ = some (I e2) := d2
          have D3 : w5.cell? ⟨g, 48 + 3, none⟩ = some (I e3) := d3
          have D4 : w5.cell? ⟨g, 48 + 4, none⟩ = some (I e4) := d4
          clear d0 d1 d2 d3 d4
          go_wp2_with fail
          clear D0 D1 D2 D3 D4 d5
          have aG := (Below.refl w5.heap.size w5).alloc (Nat.le_refl _) (.cells (ghC f8 z40 [e0, e1, e2, e3, e4] img) 56)
          have TO := TO5.below aG TO5.lt
          have bA := bB5.alloc bB5.size (.cells (ghC f8 z40 [e0, e1, e2, e3, e4] img) 56)
          have tA : Kst w.heap.size (w5.alloc (.cells (ghC f8 z40 [e0, e1, e2, e3, e4] img) 56)) bb x' bw' p' w5.heap.size 0 [0, 0, 0, 0, 0, 0, 0, 0] [e0, e1, e2, e3, e4] img := by
            obtain ⟨-, -, q1, q2, q3⟩ := s5.at0
            have q4 := XB5.lt
            exact ⟨⟨p', XB5.below aG XB5.lt⟩, s5.later aG, ⟨f8, z40, ⟨Blk.new rfl, rfl, rfl, rfl⟩, tells0 _⟩, nb, by omega, by omega, by omega, by omega, by omega, hbp, by omega, by omega, by omega, by omega⟩
          have n1 : G ≠ bw' := by omega
          have n2 : G ≠ p' := by omega
          have n3 : w5.heap.size ≠ G := by have := TO5.lt; omega
          rw [show (Obj.cells (ghC f8 z40 [e0, e1, e2, e3, e4] img) 56) = Obj.cells #[.bool false, .bool false, .bool false, .bool false, .bool false, .bool false, .bool false, .bool false, I 0, I 0, I 0, I 0, I 0, I 0, I 0, I 0, I 0, I 0, I 0, I 0, I 0, I 0, I 0, I 0, I 0, I 0, I 0, I 0, I 0, I 0, I 0, I 0, I 0, I 0, I 0, I 0, I 0, I 0, I 0, I 0, I 0, I 0, I 0, I 0, I 0, I 0, I 0, I 0, I e0, I e1, I e2, I e3, I e4, S img] 56 from rfl] at tA TO bA
          clear aG TO5 gB5 bB5 s5 XB5 ld3 ld
          generalize w5.alloc (Obj.cells #[.bool false, .bool false, .bool false, .bool false, .bool false, .bool false, .bool false, .bool false, I 0, I 0, I 0, I 0, I 0, I 0, I 0, I 0, I 0, I 0, I 0, I 0, I 0, I 0, I 0, I 0, I 0, I 0, I 0, I 0, I 0, I 0, I 0, I 0, I 0, I 0, I 0, I 0, I 0, I 0, I 0, I 0, I 0, I 0, I 0, I 0, I 0, I 0, I 0, I 0, I e0, I e1, I e2, I e3, I e4, S img] 56) = v3 at *
          generalize w5.heap.size = g' at *
          clear l1 l2 l3 l4 l5 l6 l7 l8 l9 hz5
          generalize hdd : [e0, e1, e2, e3, e4] = dd at *
          clear hdd
          have hS3 := tA.sto
          have hD3 : DeskR v3 g' 48 (dd.getD 0 0) (dd.getD 1 0) (dd.getD 2 0) (dd.getD 3 0) (dd.getD 4 0) img := (by obtain ⟨_, _, h, _⟩ := tA.gh; exact h.desk)
          have lG := TO.lt
          have D := fun V (hV : Below v3.heap.size v3 V) => do_any V x' bw' p' 0 [0, 0, 0, 0, 0, 0, 0, 0] (hS3.later hV) g' 48 (dd.getD 0 0) (dd.getD 1 0) (dd.getD 2 0) (dd.getD 3 0) (dd.getD 4 0) img (hD3.later hV) 1 A B C S1 t
          generalize hr : doP 1 A B S1 img (dd.getD 0 0) (dd.getD 1 0) (dd.getD 2 0) (dd.getD 3 0) (dd.getD 4 0) 0 [0, 0, 0, 0, 0, 0, 0, 0] = r at D
          obtain ⟨⟨er, nr, sr⟩, U, WW⟩ := r
          dsimp only at D
          have zx := tA.zs
          have MI : ∀ w4, StoR w4 x' bw' p' U WW → Upd [bw', p'] v3 w4 → Mid w w4 bb x' bw' p' g' 0 [0, 0, 0, 0, 0, 0, 0, 0] dd img U WW G #[I 1, I A, I B, I C, .string (str S1), .string t] := by
            intro w4 s4 u4
            obtain ⟨e1, e2, e3⟩ := tA.done bA.size u4
            exact ⟨s4, TO.upd u4 (by simp; omega), e2, e1, bA.trans e3⟩
          have HR : Hid _ := hr
          have HD : Hid _ := D
          have HtA : Hid (Kst _ _ _ _ _ _ _ _ _ _ _) := tA
          have HbA : Hid _ := bA
          have HMI : Hid _ := MI
          clear hr D hS3 hD3 tA bA MI
          have k0 : v3.cell? ⟨G, 0, none⟩ = some (I 1) := TO.cell 0
          have k1 : v3.cell? ⟨G, 1, none⟩ = some (I A) := TO.cell 1
          have k2 : v3.cell? ⟨G, 2, none⟩ = some (I B) := TO.cell 2
          have k3 : v3.cell? ⟨G, 3, none⟩ = some (I C) := TO.cell 3
          have k4 : v3.cell? ⟨G, 4, none⟩ = some (.string (str S1)) := TO.cell 4
          have k5 : v3.cell? ⟨G, 5, none⟩ = some (.string t) := TO.cell 5
          have bv1 : Below v3.heap.size v3 v3.drew := (Below.refl _ _).drew
          have bv2 : Below v3.heap.size v3 (v3.alloc (.cells #[I 0, I 0, I 0, .string ⟨#[]⟩] 42)).drew := ((Below.refl _ _).alloc (Nat.le_refl _) _).drew
          have ZN : Blk (v3.alloc (.cells #[I 0, I 0, I 0, .string ⟨#[]⟩] 42)).drew v3.heap.size #[I 0, I 0, I 0, .string ⟨#[]⟩] 42 := (Blk.new rfl : Blk (v3.alloc (.cells #[I 0, I 0, I 0, .string ⟨#[]⟩] 42)) v3.heap.size #[I 0, I 0, I 0, .string ⟨#[]⟩] 42)
          have hzn : v3.heap.size ∉ [bw', p'] := by simp; omega
          go_upto_region 12 with fail
          go_cut [8] from 15 to 60 (fun s8 wx => ∃ H, s8 = ptr H ∧ H ≠ g' ∧ w.heap.size ≤ H ∧ Blk wx H #[I er, I nr, I 0, S sr] 42 ∧ Mid w wx bb x' bw' p' g' 0 [0, 0, 0, 0, 0, 0, 0, 0] dd img U WW G #[I 1, I A, I B, I C, .string (str S1), .string t])
          case first =>
            go_region_with (first | (go_at_call 29; refine (HD.out _ ?_).mono ?_; (first | with_reducible exact bv1 | with_reducible exact bv2); rintro e w4 ⟨rfl, s4, u4⟩; have u4' : Upd [bw', p'] v3 w4 := (by first | with_reducible exact (Upd.of_below bv1).trans u4 | with_reducible exact (Upd.of_below bv2).trans u4); have TO4 := TO.upd u4' (by simp; omega); have m0 : w4.cell? ⟨G, 0, none⟩ = some (I 1) := TO4.cell 0; have m1 : w4.cell? ⟨G, 1, none⟩ = some (I A) := TO4.cell 1; have m2 : w4.cell? ⟨G, 2, none⟩ = some (I B) := TO4.cell 2; have m3 : w4.cell? ⟨G, 3, none⟩ = some (I C) := TO4.cell 3; have m4 : w4.cell? ⟨G, 4, none⟩ = some (.string (str S1)) := TO4.cell 4; have m5 : w4.cell? ⟨G, 5, none⟩ = some (.string t) := TO4.cell 5; (first | (have Z4 : Blk w4 v3.heap.size #[I 0, I 0, I 0, .string ⟨#[]⟩] 42 := (by with_reducible exact ZN.upd u4 hzn); obtain ⟨z0, z1, z2⟩ := Z4.facts) | skip)))
            all_goals
              have HM4 := HMI.out w4 s4 u4'
              have hz4 := u4'.size
              have hz0 := HbA.out.size
              clear HMI HD HR HHK Hops
              go_wp2_with fail
              go_meet
              case rel =>
                first
                  | exact ⟨v3.heap.size, rfl, by omega, by omega, ((((Z4.set (i := 0) (I er)).set (i := 1) (I nr)).set (i := 2) (I 0)).set (i := 3) (S sr)), HM4.upd (y := v3.heap.size) (((((Upd.refl [v3.heap.size] w4).setCell (p := ⟨v3.heap.size, 0, none⟩) (by simp) (I er)).setCell (p := ⟨v3.heap.size, 1, none⟩) (by simp) (I nr)).setCell (p := ⟨v3.heap.size, 2, none⟩) (by simp) (I 0)).setCell (p := ⟨v3.heap.size, 3, none⟩) (by simp) (S sr)).drew (by omega) (by omega) (by omega) (by omega) (by omega) (by omega) (by omega)⟩
                  | exact ⟨v3.heap.size, rfl, by omega, by omega, ((((Z4.set (i := 0) (I er)).set (i := 1) (I nr)).set (i := 2) (I 0)).set (i := 3) (S sr)), HM4.upd (y := v3.heap.size) (((((Upd.refl [v3.heap.size] w4).setCell (p := ⟨v3.heap.size, 0, none⟩) (by simp) (I er)).setCell (p := ⟨v3.heap.size, 1, none⟩) (by simp) (I nr)).setCell (p := ⟨v3.heap.size, 2, none⟩) (by simp) (I 0)).setCell (p := ⟨v3.heap.size, 3, none⟩) (by simp) (S sr)) (by omega) (by omega) (by omega) (by omega) (by omega) (by omega) (by omega)⟩
                  | exact ⟨w4.heap.size, rfl, by omega, by omega, Blk.new rfl, HM4.later ((Below.refl _ _).alloc (Nat.le_refl _) _)⟩
                  | exact ⟨w4.heap.size, rfl, by omega, by omega, Blk.new rfl, HM4.later ((Below.refl _ _).alloc (Nat.le_refl _) _).drew⟩
          case rest =>
            obtain ⟨H, rfl, hHg, nH, TR, M5⟩ := hcut
            clear k0 k1 k2 k3 k4 k5 bv1 bv2 ZN hzn HD HMI
            have hgG : g' ≠ G := by omega
            obtain ⟨us, hs, g5, te5⟩ := M5.gh
            have s5 := M5.sto
            have hK5 := HHK.out wc x' bw' p' 0 [0, 0, 0, 0, 0, 0, 0, 0] g' us hs dd img 1 A B C S1 t ((er, nr, sr), U, WW) HR.out s5 g5 te5 HtA.out.sto.hu HtA.out.sto.len HtA.out.sto.lt HtA.out.g1 HtA.out.g2 HtA.out.g3
            dsimp only at hK5
            have TO5 := M5.op
            have bel5 := M5.bel
            have box5 := M5.box
            have HB5 : Hid _ := box5
            clear M5 HR HHK box5
            obtain ⟨o0, o1, o2⟩ := TO5.facts
            obtain ⟨a0, a1, a2⟩ := TR.facts
            go_wp2_with fail
            refine hK5.mono ?_
            rintro e w6 ⟨rfl, us6, hs6, g6, te6, u6⟩
            clear o0 o1 o2 a0 a1 a2 hK5 g5 te5
            have s6 := s5.upd u6 (fun hm => HtA.out.g1 (List.mem_singleton.1 hm).symm) (fun hm => HtA.out.g2 (List.mem_singleton.1 hm).symm) (fun hm => HtA.out.g3 (List.mem_singleton.1 hm).symm)
            have TO6 := TO5.upd u6 (fun hm => hgG (List.mem_singleton.1 hm).symm)
            have TR6 := TR.upd u6 (fun hm => hHg (List.mem_singleton.1 hm))
            have hBox6 : ∃ p, Blk w6 bb #[ptr p] 48 := by
              obtain ⟨p, hp⟩ := HB5.out
              exact ⟨p, hp.upd u6 (fun hm => HtA.out.b4 (List.mem_singleton.1 hm))⟩
            have bel6 := bel5.trans (u6.below bel5.size (fun z hz => by rw [List.mem_singleton.1 hz]; exact HtA.out.ng))
            have FIN : ∀ w7 us hs ds' img', GhR w7 g' us hs ds' img' → Tells U WW us hs → Upd [g'] w6 w7 → Kst w.heap.size w7 bb x' bw' p' g' U WW ds' img' ∧ Below w.heap.size w w7 := by
              intro w7 us hs ds' img' g7 te7 u7
              obtain ⟨p, hp⟩ := hBox6
              exact ⟨⟨⟨p, hp.upd u7 (fun hm => HtA.out.b4 (List.mem_singleton.1 hm))⟩, s6.upd u7 (fun hm => HtA.out.g1 (List.mem_singleton.1 hm).symm) (fun hm => HtA.out.g2 (List.mem_singleton.1 hm).symm) (fun hm => HtA.out.g3 (List.mem_singleton.1 hm).symm), ⟨us, hs, g7, te7⟩, HtA.out.nb, HtA.out.nw, HtA.out.nu, HtA.out.ng, HtA.out.b1, HtA.out.b2, HtA.out.b3, HtA.out.b4, HtA.out.g1, HtA.out.g2, HtA.out.g3⟩, bel6.trans (u7.below bel6.size (fun z hz => by rw [List.mem_singleton.1 hz]; exact HtA.out.ng))⟩
            have HFIN : Hid _ := FIN
            have bv6 : Below w6.heap.size w6 w6.drew := (Below.refl _ _).drew
            have NT := fun V (hV : Below w6.heap.size w6 V) => note_any V g' us6 hs6 dd img (g6.later hV) 1 A B C (str S1) t er nr sr
            have HNT : Hid _ := NT
            clear FIN NT hBox6 bel6 s6 TO5 TR HB5 u6 s5 bel5 HtA HbA
            generalize noteD 1 A B C dd = ds' at *
            generalize noteI 1 sr img = img' at *
            have k0 : w6.cell? ⟨G, 0, none⟩ = some (I 1) := TO6.cell 0
            have k1 : w6.cell? ⟨G, 1, none⟩ = some (I A) := TO6.cell 1
            have k2 : w6.cell? ⟨G, 2, none⟩ = some (I B) := TO6.cell 2
            have k3 : w6.cell? ⟨G, 3, none⟩ = some (I C) := TO6.cell 3
            have k4 : w6.cell? ⟨G, 4, none⟩ = some (.string (str S1)) := TO6.cell 4
            have k5 : w6.cell? ⟨G, 5, none⟩ = some (.string t) := TO6.cell 5
            have r0 : w6.cell? ⟨H, 0, none⟩ = some (I er) := TR6.cell 0
            have r1 : w6.cell? ⟨H, 1, none⟩ = some (I nr) := TR6.cell 1
            have r2 : w6.cell? ⟨H, 2, none⟩ = some (I 0) := TR6.cell 2
            have r3 : w6.cell? ⟨H, 3, none⟩ = some (S sr) := TR6.cell 3
            go_wp2_with fail
            go_region_held3 (fun W => W.cell? ⟨G, 0, none⟩ = some (I 1) ∧ W.cell? ⟨G, 1, none⟩ = some (I A) ∧ W.cell? ⟨G, 2, none⟩ = some (I B) ∧ W.cell? ⟨G, 3, none⟩ = some (I C) ∧ W.cell? ⟨G, 4, none⟩ = some (.string (str S1)) ∧ W.cell? ⟨G, 5, none⟩ = some (.string t) ∧ W.cell? ⟨H, 0, none⟩ = some (I er) ∧ W.cell? ⟨H, 1, none⟩ = some (I nr) ∧ W.cell? ⟨H, 2, none⟩ = some (I 0) ∧ W.cell? ⟨H, 3, none⟩ = some (S sr)) (go_keep) (first | (go_at_call 20; refine (HNT.out _ ?_).mono ?_; (first | with_reducible exact Below.refl _ _ | with_reducible exact bv6); rintro e w7 ⟨rfl, g7, u7⟩; have u7' : Upd [g'] w6 w7 := (by first | with_reducible exact u7 | with_reducible exact (Upd.of_below bv6).trans u7); have TO7 := TO6.upd u7' (fun hm => hgG (List.mem_singleton.1 hm).symm); have TR7 := TR6.upd u7' (fun hm => hHg (List.mem_singleton.1 hm)); have m0 : w7.cell? ⟨G, 0, none⟩ = some (I 1) := TO7.cell 0; have m1 : w7.cell? ⟨G, 1, none⟩ = some (I A) := TO7.cell 1; have m2 : w7.cell? ⟨G, 2, none⟩ = some (I B) := TO7.cell 2; have m3 : w7.cell? ⟨G, 3, none⟩ = some (I C) := TO7.cell 3; have m4 : w7.cell? ⟨G, 4, none⟩ = some (.string (str S1)) := TO7.cell 4; have m5 : w7.cell? ⟨G, 5, none⟩ = some (.string t) := TO7.cell 5; have q0 : w7.cell? ⟨H, 0, none⟩ = some (I er) := TR7.cell 0; have q1 : w7.cell? ⟨H, 1, none⟩ = some (I nr) := TR7.cell 1; have q2 : w7.cell? ⟨H, 2, none⟩ = some (I 0) := TR7.cell 2; have q3 : w7.cell? ⟨H, 3, none⟩ = some (S sr) := TR7.cell 3))
            obtain ⟨F1, F2⟩ := HFIN.out w7 us6 hs6 _ _ g7 te6 u7'
            clear k0 m0 k1 m1 k2 m2 k3 m3 k4 m4 k5 m5 r0 q0 r1 q1 r2 q2 r3 q3 TO7 TR7 u7 u7' g7 te6 HFIN HNT
            go_wp2
            go_roundw
            case rel =>
              exact ⟨j + 1, x', bw', p', g', U, WW, ds', img', by omega, rfl, rfl, by go_num, F1, F2⟩
            case measure => simp [intOf]; omega
        · have k1b : (K == 1) = false := by simpa using k1
          go_wp2_with fail
          clear c0 c1 c2 c3 c4 c5 tr br
          generalize wr.alloc (.cells #[I K, I A, I B, I C, .string (str S1), .string t] 38) = v3 at *
          generalize wr.heap.size = G at *
          have n1 : G ≠ bw := by omega
          have n2 : G ≠ ub := by omega
          have n3 : g ≠ G := by omega
          clear l1 l2 l3 l4 l5
          have hS3 := tA.sto
          have hD3 : DeskR v3 g 48 (ds.getD 0 0) (ds.getD 1 0) (ds.getD 2 0) (ds.getD 3 0) (ds.getD 4 0) img := (by obtain ⟨_, _, h, _⟩ := tA.gh; exact h.desk)
          have lG := TO.lt
          have D := fun V (hV : Below v3.heap.size v3 V) => do_any V x bw ub u ws (hS3.later hV) g 48 (ds.getD 0 0) (ds.getD 1 0) (ds.getD 2 0) (ds.getD 3 0) (ds.getD 4 0) img (hD3.later hV) K A B C S1 t
          generalize hr : doP K A B S1 img (ds.getD 0 0) (ds.getD 1 0) (ds.getD 2 0) (ds.getD 3 0) (ds.getD 4 0) u ws = r at D
          obtain ⟨⟨er, nr, sr⟩, U, WW⟩ := r
          dsimp only at D
          have zx := tA.zs
          have MI : ∀ w4, StoR w4 x bw ub U WW → Upd [bw, ub] v3 w4 → Mid w w4 bb x bw ub g u ws ds img U WW G #[I K, I A, I B, I C, .string (str S1), .string t] := by
            intro w4 s4 u4
            obtain ⟨e1, e2, e3⟩ := tA.done bA.size u4
            exact ⟨s4, TO.upd u4 (by simp; omega), e2, e1, bA.trans e3⟩
          have HR : Hid _ := hr
          have HD : Hid _ := D
          have HtA : Hid (Kst _ _ _ _ _ _ _ _ _ _ _) := tA
          have HbA : Hid _ := bA
          have HMI : Hid _ := MI
          clear hr D hS3 hD3 tA bA MI
          have k0 : v3.cell? ⟨G, 0, none⟩ = some (I K) := TO.cell 0
          have k1 : v3.cell? ⟨G, 1, none⟩ = some (I A) := TO.cell 1
          have k2 : v3.cell? ⟨G, 2, none⟩ = some (I B) := TO.cell 2
          have k3 : v3.cell? ⟨G, 3, none⟩ = some (I C) := TO.cell 3
          have k4 : v3.cell? ⟨G, 4, none⟩ = some (.string (str S1)) := TO.cell 4
          have k5 : v3.cell? ⟨G, 5, none⟩ = some (.string t) := TO.cell 5
          have bv1 : Below v3.heap.size v3 v3.drew := (Below.refl _ _).drew
          have bv2 : Below v3.heap.size v3 (v3.alloc (.cells #[I 0, I 0, I 0, .string ⟨#[]⟩] 42)).drew := ((Below.refl _ _).alloc (Nat.le_refl _) _).drew
          have ZN : Blk (v3.alloc (.cells #[I 0, I 0, I 0, .string ⟨#[]⟩] 42)).drew v3.heap.size #[I 0, I 0, I 0, .string ⟨#[]⟩] 42 := (Blk.new rfl : Blk (v3.alloc (.cells #[I 0, I 0, I 0, .string ⟨#[]⟩] 42)) v3.heap.size #[I 0, I 0, I 0, .string ⟨#[]⟩] 42)
          have hzn : v3.heap.size ∉ [bw, ub] := by simp; omega
          go_upto_region 12 with fail
          go_cut [8] from 15 to 60 (fun s8 wx => ∃ H, s8 = ptr H ∧ H ≠ g ∧ w.heap.size ≤ H ∧ Blk wx H #[I er, I nr, I 0, S sr] 42 ∧ Mid w wx bb x bw ub g u ws ds img U WW G #[I K, I A, I B, I C, .string (str S1), .string t])
          case first =>
            go_region_with (first | (go_at_call 29; refine (HD.out _ ?_).mono ?_; (first | with_reducible exact bv1 | with_reducible exact bv2); rintro e w4 ⟨rfl, s4, u4⟩; have u4' : Upd [bw, ub] v3 w4 := (by first | with_reducible exact (Upd.of_below bv1).trans u4 | with_reducible exact (Upd.of_below bv2).trans u4); have TO4 := TO.upd u4' (by simp; omega); have m0 : w4.cell? ⟨G, 0, none⟩ = some (I K) := TO4.cell 0; have m1 : w4.cell? ⟨G, 1, none⟩ = some (I A) := TO4.cell 1; have m2 : w4.cell? ⟨G, 2, none⟩ = some (I B) := TO4.cell 2; have m3 : w4.cell? ⟨G, 3, none⟩ = some (I C) := TO4.cell 3; have m4 : w4.cell? ⟨G, 4, none⟩ = some (.string (str S1)) := TO4.cell 4; have m5 : w4.cell? ⟨G, 5, none⟩ = some (.string t) := TO4.cell 5; (first | (have Z4 : Blk w4 v3.heap.size #[I 0, I 0, I 0, .string ⟨#[]⟩] 42 := (by with_reducible exact ZN.upd u4 hzn); obtain ⟨z0, z1, z2⟩ := Z4.facts) | skip)))
            all_goals
              have HM4 := HMI.out w4 s4 u4'
              have hz4 := u4'.size
              have hz0 := HbA.out.size
              clear HMI HD HR HHK Hops
              go_wp2_with fail
              go_meet
              case rel =>
                first
                  | exact ⟨v3.heap.size, rfl, by omega, by omega, ((((Z4.set (i := 0) (I er)).set (i := 1) (I nr)).set (i := 2) (I 0)).set (i := 3) (S sr)), HM4.upd (y := v3.heap.size) (((((Upd.refl [v3.heap.size] w4).setCell (p := ⟨v3.heap.size, 0, none⟩) (by simp) (I er)).setCell (p := ⟨v3.heap.size, 1, none⟩) (by simp) (I nr)).setCell (p := ⟨v3.heap.size, 2, none⟩) (by simp) (I 0)).setCell (p := ⟨v3.heap.size, 3, none⟩) (by simp) (S sr)).drew (by omega) (by omega) (by omega) (by omega) (by omega) (by omega) (by omega)⟩
                  | exact ⟨v3.heap.size, rfl, by omega, by omega, ((((Z4.set (i := 0) (I er)).set (i := 1) (I nr)).set (i := 2) (I 0)).set (i := 3) (S sr)), HM4.upd (y := v3.heap.size) (((((Upd.refl [v3.heap.size] w4).setCell (p := ⟨v3.heap.size, 0, none⟩) (by simp) (I er)).setCell (p := ⟨v3.heap.size, 1, none⟩) (by simp) (I nr)).setCell (p := ⟨v3.heap.size, 2, none⟩) (by simp) (I 0)).setCell (p := ⟨v3.heap.size, 3, none⟩) (by simp) (S sr)) (by omega) (by omega) (by omega) (by omega) (by omega) (by omega) (by omega)⟩
                  | exact ⟨w4.heap.size, rfl, by omega, by omega, Blk.new rfl, HM4.later ((Below.refl _ _).alloc (Nat.le_refl _) _)⟩
                  | exact ⟨w4.heap.size, rfl, by omega, by omega, Blk.new rfl, HM4.later ((Below.refl _ _).alloc (Nat.le_refl _) _).drew⟩
          case rest =>
            obtain ⟨H, rfl, hHg, nH, TR, M5⟩ := hcut
            clear k0 k1 k2 k3 k4 k5 bv1 bv2 ZN hzn HD HMI
            have hgG : g ≠ G := by omega
            obtain ⟨us, hs, g5, te5⟩ := M5.gh
            have s5 := M5.sto
            have hK5 := HHK.out wc x bw ub u ws g us hs ds img K A B C S1 t ((er, nr, sr), U, WW) HR.out s5 g5 te5 HtA.out.sto.hu HtA.out.sto.len HtA.out.sto.lt HtA.out.g1 HtA.out.g2 HtA.out.g3
            dsimp only at hK5
            have TO5 := M5.op
            have bel5 := M5.bel
            have box5 := M5.box
            have HB5 : Hid _ := box5
            clear M5 HR HHK box5
            obtain ⟨o0, o1, o2⟩ := TO5.facts
            obtain ⟨a0, a1, a2⟩ := TR.facts
            go_wp2_with fail
            refine hK5.mono ?_
            rintro e w6 ⟨rfl, us6, hs6, g6, te6, u6⟩
            clear o0 o1 o2 a0 a1 a2 hK5 g5 te5
            have s6 := s5.upd u6 (fun hm => HtA.out.g1 (List.mem_singleton.1 hm).symm) (fun hm => HtA.out.g2 (List.mem_singleton.1 hm).symm) (fun hm => HtA.out.g3 (List.mem_singleton.1 hm).symm)
            have TO6 := TO5.upd u6 (fun hm => hgG (List.mem_singleton.1 hm).symm)
            have TR6 := TR.upd u6 (fun hm => hHg (List.mem_singleton.1 hm))
            have hBox6 : ∃ p, Blk w6 bb #[ptr p] 48 := by
              obtain ⟨p, hp⟩ := HB5.out
              exact ⟨p, hp.upd u6 (fun hm => HtA.out.b4 (List.mem_singleton.1 hm))⟩
            have bel6 := bel5.trans (u6.below bel5.size (fun z hz => by rw [List.mem_singleton.1 hz]; exact HtA.out.ng))
            have FIN : ∀ w7 us hs ds' img', GhR w7 g us hs ds' img' → Tells U WW us hs → Upd [g] w6 w7 → Kst w.heap.size w7 bb x bw ub g U WW ds' img' ∧ Below w.heap.size w w7 := by
              intro w7 us hs ds' img' g7 te7 u7
              obtain ⟨p, hp⟩ := hBox6
              exact ⟨⟨⟨p, hp.upd u7 (fun hm => HtA.out.b4 (List.mem_singleton.1 hm))⟩, s6.upd u7 (fun hm => HtA.out.g1 (List.mem_singleton.1 hm).symm) (fun hm => HtA.out.g2 (List.mem_singleton.1 hm).symm) (fun hm => HtA.out.g3 (List.mem_singleton.1 hm).symm), ⟨us, hs, g7, te7⟩, HtA.out.nb, HtA.out.nw, HtA.out.nu, HtA.out.ng, HtA.out.b1, HtA.out.b2, HtA.out.b3, HtA.out.b4, HtA.out.g1, HtA.out.g2, HtA.out.g3⟩, bel6.trans (u7.below bel6.size (fun z hz => by rw [List.mem_singleton.1 hz]; exact HtA.out.ng))⟩
            have HFIN : Hid _ := FIN
            have bv6 : Below w6.heap.size w6 w6.drew := (Below.refl _ _).drew
            have NT := fun V (hV : Below w6.heap.size w6 V) => note_any V g us6 hs6 ds img (g6.later hV) K A B C (str S1) t er nr sr
            have HNT : Hid _ := NT
            clear FIN NT hBox6 bel6 s6 TO5 TR HB5 u6 s5 bel5 HtA HbA
            generalize noteD K A B C ds = ds' at *
            generalize noteI K sr img = img' at *
            have k0 : w6.cell? ⟨G, 0, none⟩ = some (I K) := TO6.cell 0
            have k1 : w6.cell? ⟨G, 1, none⟩ = some (I A) := TO6.cell 1
            have k2 : w6.cell? ⟨G, 2, none⟩ = some (I B) := TO6.cell 2
            have k3 : w6.cell? ⟨G, 3, none⟩ = some (I C) := TO6.cell 3
            have k4 : w6.cell? ⟨G, 4, none⟩ = some (.string (str S1)) := TO6.cell 4
            have k5 : w6.cell? ⟨G, 5, none⟩ = some (.string t) := TO6.cell 5
            have r0 : w6.cell? ⟨H, 0, none⟩ = some (I er) := TR6.cell 0
            have r1 : w6.cell? ⟨H, 1, none⟩ = some (I nr) := TR6.cell 1
            have r2 : w6.cell? ⟨H, 2, none⟩ = some (I 0) := TR6.cell 2
            have r3 : w6.cell? ⟨H, 3, none⟩ = some (S sr) := TR6.cell 3
            go_wp2_with fail
            go_region_held3 (fun W => W.cell? ⟨G, 0, none⟩ = some (I K) ∧ W.cell? ⟨G, 1, none⟩ = some (I A) ∧ W.cell? ⟨G, 2, none⟩ = some (I B) ∧ W.cell? ⟨G, 3, none⟩ = some (I C) ∧ W.cell? ⟨G, 4, none⟩ = some (.string (str S1)) ∧ W.cell? ⟨G, 5, none⟩ = some (.string t) ∧ W.cell? ⟨H, 0, none⟩ = some (I er) ∧ W.cell? ⟨H, 1, none⟩ = some (I nr) ∧ W.cell? ⟨H, 2, none⟩ = some (I 0) ∧ W.cell? ⟨H, 3, none⟩ = some (S sr)) (go_keep) (first | (go_at_call 20; refine (HNT.out _ ?_).mono ?_; (first | with_reducible exact Below.refl _ _ | with_reducible exact bv6); rintro e w7 ⟨rfl, g7, u7⟩; have u7' : Upd [g] w6 w7 := (by first | with_reducible exact u7 | with_reducible exact (Upd.of_below bv6).trans u7); have TO7 := TO6.upd u7' (fun hm => hgG (List.mem_singleton.1 hm).symm); have TR7 := TR6.upd u7' (fun hm => hHg (List.mem_singleton.1 hm)); have m0 : w7.cell? ⟨G, 0, none⟩ = some (I K) := TO7.cell 0; have m1 : w7.cell? ⟨G, 1, none⟩ = some (I A) := TO7.cell 1; have m2 : w7.cell? ⟨G, 2, none⟩ = some (I B) := TO7.cell 2; have m3 : w7.cell? ⟨G, 3, none⟩ = some (I C) := TO7.cell 3; have m4 : w7.cell? ⟨G, 4, none⟩ = some (.string (str S1)) := TO7.cell 4; have m5 : w7.cell? ⟨G, 5, none⟩ = some (.string t) := TO7.cell 5; have q0 : w7.cell? ⟨H, 0, none⟩ = some (I er) := TR7.cell 0; have q1 : w7.cell? ⟨H, 1, none⟩ = some (I nr) := TR7.cell 1; have q2 : w7.cell? ⟨H, 2, none⟩ = some (I 0) := TR7.cell 2; have q3 : w7.cell? ⟨H, 3, none⟩ = some (S sr) := TR7.cell 3))
            obtain ⟨F1, F2⟩ := HFIN.out w7 us6 hs6 _ _ g7 te6 u7'
            clear k0 m0 k1 m1 k2 m2 k3 m3 k4 m4 k5 m5 r0 q0 r1 q1 r2 q2 r3 q3 TO7 TR7 u7 u7' g7 te6 HFIN HNT
            go_wp2
            go_roundw
            case rel =>
              exact ⟨j + 1, x, bw, ub, g, U, WW, ds', img', by omega, rfl, rfl, by go_num, F1, F2⟩
            case measure => simp [intOf]; omega
      · have hjn : (j : Int) < (n : Int) := by omega
        go_wp2
        go_ret
        exact ⟨rfl, br⟩
    · have hjn : ¬ (j : Int) < (n : Int) := by omega
      go_wp2
      go_ret
      exact ⟨rfl, br⟩
end Go.Proofs.Qxb6500468a
