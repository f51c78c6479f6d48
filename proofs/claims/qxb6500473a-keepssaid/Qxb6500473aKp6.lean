import Derived.Test.Qxb6500473aKp5
import Derived.Deep.QuietTactic
import Derived.BigQuiet
namespace Go.Proofs.Qxb6500473a
open Go.RowKit

structure Gst (N : Nat) (w : World) (p bl q : Nat) (A : List Nat) : Prop where
  real : SerA w p bl A
  gh : ∃ nu de, GhR w q nu de A.length ∧ Match A nu de
  np : N ≤ p
  nb : N ≤ bl
  nq : N ≤ q
  pq : p ≠ q
  bq : bl ≠ q
  qs : q < w.heap.size
theorem Gst.later {N : Nat} {w w' : World} {p bl q : Nat} {A : List Nat} (h : Gst N w p bl q A) (b : Below w.heap.size w w') : Gst N w' p bl q A := by
  obtain ⟨nu, de, g, m⟩ := h.gh
  have := b.size
  exact ⟨h.real.later b, ⟨nu, de, g.later b, m⟩, h.np, h.nb, h.nq, h.pq, h.bq, Nat.lt_of_lt_of_le h.qs this⟩
theorem Gst.size {N : Nat} {w : World} {p bl q : Nat} {A : List Nat} (h : Gst N w p bl q A) : N ≤ w.heap.size := Nat.le_trans h.nq (Nat.le_of_lt h.qs)
theorem Gst.mid {N : Nat} {w w' : World} {p bl q : Nat} {A C : List Nat} (h : Gst N w p bl q A) (s : SerA w' p bl C) (u : Upd [p, bl] w w') :
    SerA w' p bl C ∧ (∃ nu de, GhR w' q nu de A.length ∧ Match A nu de) ∧ Below N w w' := by
  obtain ⟨nu, de, g, m⟩ := h.gh
  refine ⟨s, ⟨nu, de, g.upd u (by simp; exact ⟨fun e => h.pq e.symm, fun e => h.bq e.symm⟩), m⟩, u.below h.size ?_⟩
  intro x hx
  simp only [List.mem_cons, List.not_mem_nil, or_false] at hx
  rcases hx with e | e <;> rw [e]
  · exact h.np
  · exact h.nb

def HoldsOk : Prop := ∀ (w : World) (p bl q : Nat) (A : List Nat) (nu de : List Int), SerA w p bl A → GhR w q nu de A.length → Match A nu de →
    Calls Try.prog 14 #[ptr p, ptr q] w fun e w' => e = .returned (.bool true) ∧ Below w.heap.size w w'

set_option maxRecDepth 100000 in
set_option maxHeartbeats 4000000 in
theorem keepsUpTo_any (HO : HoldsOk) (w : World) (ao : Option Addr) (n cap : Nat) (hops : ∀ i, i < n → OpAt w ao i) (hn : n < 9223372036854775808) :
    Calls Try.prog 6 #[.slice ao n cap] w fun e w' => e = .returned (I (-1)) ∧ Below w.heap.size w w' := by
  have Hops : Hid _ := hops
  have HHO : Hid _ := HO
  clear hops HO
  go_enter Try.func6, Try.ntmps6
  go_wp2_with fail
  refine (build_any w).mono ?_
  rintro e w1 ⟨p, bl, rfl, s1, np, nb, b1⟩
  go_wp2_with fail
  have t1 : Gst w.heap.size (w1.alloc (.cells (ghCells (List.replicate 8 0) (List.replicate 8 0) 0) 30)) p bl w1.heap.size [] := by
    obtain ⟨l1, l2, -, -⟩ := s1.lt
    have b2 := (Below.refl w1.heap.size w1).alloc (Nat.le_refl _) (.cells (ghCells (List.replicate 8 0) (List.replicate 8 0) 0) 30)
    exact ⟨s1.later b2, ⟨List.replicate 8 0, List.replicate 8 0, ⟨Blk.new rfl, rfl, rfl, by decide⟩, fun i hi => by simp at hi⟩, np, nb, b1.size, by omega, by omega, by rw [World.size_alloc]; omega⟩
  have bb1 : Below w.heap.size w (w1.alloc (.cells (ghCells (List.replicate 8 0) (List.replicate 8 0) 0) 30)) := b1.alloc b1.size _
  rw [show (Obj.cells (ghCells (List.replicate 8 0) (List.replicate 8 0) 0) 30) = Obj.cells #[I 0, I 0, I 0, I 0, I 0, I 0, I 0, I 0, I 0, I 0, I 0, I 0, I 0, I 0, I 0, I 0, I 0] 30 from rfl] at t1 bb1
  generalize w1.alloc (Obj.cells #[I 0, I 0, I 0, I 0, I 0, I 0, I 0, I 0, I 0, I 0, I 0, I 0, I 0, I 0, I 0, I 0, I 0] 30) = v1 at *
  generalize w1.heap.size = q at *
  clear s1 np nb b1
  refine (texts_any v1).mono ?_
  rintro e w2 ⟨rfl, b2⟩
  have t2 := t1.later b2
  have bb2 : Below w.heap.size w w2 := bb1.trans (b2.mono bb1.size)
  clear t1 b2 bb1
  go_wp2
  go_loopw [5] (fun i wr => ∃ (j : Nat) (A : List Nat), j ≤ n ∧ i = I (j : Int) ∧ Gst w.heap.size wr p bl q A ∧ Below w.heap.size w wr) (fun i _ => (n - intOf i).toNat)
  case atStart => exact ⟨0, [], by omega, rfl, t2, bb2⟩
  case round =>
    clear t2 bb2
    obtain ⟨j, A, hj, rfl, tr, br⟩ := hrel
    by_cases hlt : j < n
    · by_cases hM : (j : Int) < 4398046511104
      · obtain ⟨b, off, K, x, y, z, s, t, e, hl, c0, c1, c2, c3, c4, c5⟩ := (Hops.out j hlt)
        subst e
        have hjn : (j : Int) < (n : Int) := by omega
        rw [← br.cell (p := ⟨b, _, none⟩) hl] at c0 c1 c2 c3 c4 c5
        have D := fun V hV => do_any V p bl A hV K x y z s t
        have M := fun V nu de hV mV => note_any V q nu de A hV mV K x y z s t
        generalize doA K x y A = r at D M
        obtain ⟨⟨er, nr, sr⟩, B⟩ := r
        go_wp2_with fail
        clear c0 c1 c2 c3 c4 c5
        have tA := tr.later ((Below.refl wr.heap.size wr).alloc (Nat.le_refl _) (.cells #[I K, I x, I y, I z, .string s, .string t] 33))
        have bA := br.alloc br.size (.cells #[I K, I x, I y, I z, .string s, .string t] 33)
        have TO : Blk (wr.alloc (.cells #[I K, I x, I y, I z, .string s, .string t] 33)) wr.heap.size #[I K, I x, I y, I z, .string s, .string t] 33 := Blk.new rfl
        obtain ⟨lp, lb, -, -⟩ := tr.real.lt
        have lq := tr.qs
        clear tr br
        refine (D _ tA.real).mono ?_
        rintro e w3 ⟨rfl, s3, u3⟩
        obtain ⟨s3, g3, b3⟩ := tA.mid s3 u3
        have TO3 := TO.upd u3 (by simp; omega)
        have bb3 := bA.trans b3
        have hs3 := u3.size
        rw [World.size_alloc] at hs3
        have f1 := tA.np
        have f2 := tA.nb
        have f3 := tA.nq
        have f4 := tA.pq
        have f5 := tA.bq
        clear tA bA TO D u3 b3
        generalize wr.heap.size = G at *
        dsimp only at s3 bb3 TO3 ⊢
        have aN := (Below.refl w3.heap.size w3).alloc (Nat.le_refl _) (.cells #[I er, I nr, I 0, S sr] 36)
        have TO4 := TO3.old (.cells #[I er, I nr, I 0, S sr] 36)
        have s4 := s3.later aN
        obtain ⟨nu, de, g3, m3⟩ := g3
        have g4 := g3.later aN
        have bb4 := bb3.alloc bb3.size (.cells #[I er, I nr, I 0, S sr] 36)
        have TR : Blk (w3.alloc (.cells #[I er, I nr, I 0, S sr] 36)) w3.heap.size #[I er, I nr, I 0, S sr] 36 := Blk.new rfl
        obtain ⟨o0, o1, o2⟩ := TO4.facts
        have hz4 : (w3.alloc (.cells #[I er, I nr, I 0, S sr] 36)).heap.size = w3.heap.size + 1 := World.size_alloc _ _
        go_wp2_with fail
        generalize w3.alloc (.cells #[I er, I nr, I 0, S sr] 36) = v4 at *
        clear aN TO3 s3 g3 bb3 o0 o1 o2
        refine (M _ nu de g4 m3).mono ?_
        rintro e w5 ⟨rfl, ⟨nu', de', g5, m5⟩, u5⟩
        have s5 : SerA w5 p bl B := s4.upd u5 (by simp; exact f4) (by simp; exact f5)
        have TO5 := TO4.upd u5 (by simp; omega)
        have bb5 := bb4.trans (u5.below (by omega) (by intro k hk; simp at hk; rw [hk]; exact f3))
        clear M s4 g4 bb4 TO4 TR u5 m3
        dsimp only at s5 g5 m5 ⊢
        have h8 := g5.le
        go_wp2_with fail
        refine (apart_any w5 q nu' de' B.length g5).mono ?_
        rintro e w6 ⟨rfl, b6⟩
        have s6 := s5.later b6
        have g6 := g5.later b6
        have TO6 := TO5.below b6 TO5.lt
        have bb6 := bb5.trans (b6.mono bb5.size)
        clear s5 g5 TO5 bb5 b6
        go_wp2_with fail
        refine (HHO.out w6 p bl q B nu' de' s6 g6 m5).mono ?_
        rintro e w7 ⟨rfl, b7⟩
        have s7 := s6.later b7
        have g7 := g6.later b7
        have TO7 := TO6.below b7 TO6.lt
        have bb7 := bb6.trans (b7.mono bb6.size)
        clear s6 g6 TO6 bb6 b7
        have o0 : w7.cell? ⟨G, 0, none⟩ = some (I K) := TO7.cell 0
        have o1 : w7.cell? ⟨G, 1, none⟩ = some (I x) := TO7.cell 1
        have c16 := g7.cnt
        have lq7 := g7.head.lt
        have tG : ∀ v, Below w7.heap.size w7 v → Gst w.heap.size v p bl q B ∧ Below w.heap.size w v := by
          intro v hv
          have := hv.size
          exact ⟨⟨s7.later hv, ⟨nu', de', g7.later hv, m5⟩, f1, f2, f3, f4, f5, by omega⟩, bb7.trans (hv.mono bb7.size)⟩
        have HG : Hid _ := tG
        clear tG
        have hBy := fun (v : World) (hv : Below w7.heap.size w7 v) => beyond_any v p bl B (s7.later hv) x
        have HBy : Hid _ := hBy
        clear hBy s7 g7 bb7 TO7
        have hfin : ∀ v : World, Below w7.heap.size w7 v → ∃ (j' : Nat) (A' : List Nat), j' ≤ n ∧ I ((j : Int) + 1) = I (j' : Int) ∧ Gst w.heap.size v p bl q A' ∧ Below w.heap.size w v := fun v hv => ⟨j + 1, B, by omega, by go_num, (HG.out v hv).1, (HG.out v hv).2⟩
        have HF : Hid _ := hfin
        clear hfin
        by_cases k4 : K = 4
        · subst k4
          by_cases x0 : x < 0
          · go_wp2_with fail
            go_quiet (fail)
            go_wp2_with fail
            refine (HBy.out _ (Below.drewN (Below.refl _ _) _) (.inl x0)).mono ?_
            rintro e w8 ⟨rfl, b8⟩
            go_wp2
            go_roundw
            case rel => exact HF.out _ ((Below.drewN (Below.refl _ _) _).trans b8)
            case measure => simp [intOf]; omega
          · have x0d : decide (x < 0) = false := decide_eq_false x0
            by_cases x1 : (B.length : Int) ≤ x
            · go_wp2_with fail
              go_quiet (fail)
              go_wp2_with fail
              refine (HBy.out _ (Below.drewN (Below.refl _ _) _) (.inr x1)).mono ?_
              rintro e w8 ⟨rfl, b8⟩
              go_wp2
              go_roundw
              case rel => exact HF.out _ ((Below.drewN (Below.refl _ _) _).trans b8)
              case measure => simp [intOf]; omega
            · have x1d : decide ((B.length : Int) ≤ x) = false := decide_eq_false x1
              go_wp2_with fail
              go_quiet (fail)
              go_wp2
              go_roundw
              case rel => exact HF.out _ (Below.drewN (Below.refl _ _) _)
              case measure => simp [intOf]; omega
        · have k4b : (K == 4) = false := by simpa using k4
          clear k4
          by_cases k5 : K = 5
          · subst k5
            by_cases x0 : x < 0
            · go_wp2_with fail
              go_quiet (fail)
              go_wp2_with fail
              refine (HBy.out _ (Below.drewN (Below.refl _ _) _) (.inl x0)).mono ?_
              rintro e w8 ⟨rfl, b8⟩
              go_wp2
              go_roundw
              case rel => exact HF.out _ ((Below.drewN (Below.refl _ _) _).trans b8)
              case measure => simp [intOf]; omega
            · have x0d : decide (x < 0) = false := decide_eq_false x0
              by_cases x1 : (B.length : Int) ≤ x
              · go_wp2_with fail
                go_quiet (fail)
                go_wp2_with fail
                refine (HBy.out _ (Below.drewN (Below.refl _ _) _) (.inr x1)).mono ?_
                rintro e w8 ⟨rfl, b8⟩
                go_wp2
                go_roundw
                case rel => exact HF.out _ ((Below.drewN (Below.refl _ _) _).trans b8)
                case measure => simp [intOf]; omega
              · have x1d : decide ((B.length : Int) ≤ x) = false := decide_eq_false x1
                go_wp2_with fail
                go_quiet (fail)
                go_wp2
                go_roundw
                case rel => exact HF.out _ (Below.drewN (Below.refl _ _) _)
                case measure => simp [intOf]; omega
          · have k5b : (K == 5) = false := by simpa using k5
            clear k5
            go_wp2_with fail
            go_quiet (fail)
            go_wp2
            go_roundw
            case rel => exact HF.out _ (Below.drewN (Below.refl _ _) _)
            case measure => simp [intOf]; omega
      · have hjn : (j : Int) < (n : Int) := by omega
        go_wp2
        go_ret
        exact ⟨rfl, br⟩
    · have hjn : ¬ (j : Int) < (n : Int) := by omega
      go_wp2
      go_ret
      exact ⟨rfl, br⟩
end Go.Proofs.Qxb6500473a
