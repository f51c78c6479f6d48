import Derived.Test.Qxb6500474aBase
namespace Go.Proofs.Qxb6500474a
open Go.RowKit
set_option maxHeartbeats 1000000 in
theorem sweep_id (n id want : Int) (w : World) (h : id < 0 ∨ 3 ≤ id) :
    Calls Try.prog 30 #[.agg #[I 1, I 2, I 3, I 4, I 5, I 6, I 7, I 8, I 9, I 10, I 11, I 12, I 13, I 14, I 15, I 16], I n, I id, I want] w fun e w' => e = .returned (.agg #[I 0, I 0, I 0, I 0]) ∧ Below w.heap.size w w' := by
  rcases h with h | h
  · go_enter Try.func30, Try.ntmps30
    go_wp2
    exact bodyPost_ret (v := .agg #[I 0, I 0, I 0, I 0]) (by simp [results, Try.results30, go_sem]) rfl ⟨rfl, by repeat (first | exact Below.refl _ _ | apply Below.drew | (refine Below.alloc ?_ (by simp <;> omega) _) | (refine Below.setCell ?_ (by simp <;> omega) _))⟩
  · have h' : ¬ id < 0 := by omega
    go_enter Try.func30, Try.ntmps30
    go_wp2
    exact bodyPost_ret (v := .agg #[I 0, I 0, I 0, I 0]) (by simp [results, Try.results30, go_sem]) rfl ⟨rfl, by repeat (first | exact Below.refl _ _ | apply Below.drew | (refine Below.alloc ?_ (by simp <;> omega) _) | (refine Below.setCell ?_ (by simp <;> omega) _))⟩

set_option maxHeartbeats 1000000 in
theorem sweep_n (n id want : Int) (w : World) (h0 : 0 ≤ id) (h1 : id < 3) (h : n < 0) :
    Calls Try.prog 30 #[.agg #[I 1, I 2, I 3, I 4, I 5, I 6, I 7, I 8, I 9, I 10, I 11, I 12, I 13, I 14, I 15, I 16], I n, I id, I want] w fun e w' => e = .returned (.agg #[I 0, I 0, I 0, I 0]) ∧ Below w.heap.size w w' := by
  go_enter Try.func30, Try.ntmps30
  go_wp2
  refine wp_loop_rounds 1 ?_
  rw [rounds_succ]
  go_wp2
  exact bodyPost_ret (v := .agg #[I 0, I 0, I 0, I 0]) (by simp [results, Try.results30, go_sem]) rfl ⟨rfl, by repeat (first | exact Below.refl _ _ | apply Below.drew | (refine Below.alloc ?_ (by simp <;> omega) _) | (refine Below.setCell ?_ (by simp <;> omega) _))⟩


theorem rows_at : ∀ m : Nat, m < 16 → (#[I 1, I 2, I 3, I 4, I 5, I 6, I 7, I 8, I 9, I 10, I 11, I 12, I 13, I 14, I 15, I 16] : Array Value)[m]? = some (I ((m : Int) + 1))
  | 0, _ | 1, _ | 2, _ | 3, _ | 4, _ | 5, _ | 6, _ | 7, _ | 8, _ | 9, _ | 10, _ | 11, _ | 12, _ | 13, _ | 14, _ | 15, _ => rfl
  | _ + 16, h => absurd h (by omega)

def sw (id : Nat) (want : Int) : Nat → Int × Int × Int × Int
  | 0 => (0, 0, 0, 0)
  | k + 1 =>
    let p := sw id want k
    let r := ((3 * k + id : Nat) : Int) + 1
    let q : Int := if r = want then 1 else 0
    (mN p.1 1, mL p.1 p.2.1 1 r, mH p.1 p.2.2.1 1 r, mE p.1 p.2.2.2 1 q)
def swN (id : Nat) (want : Int) (k : Nat) : Int := (sw id want k).1
def swL (id : Nat) (want : Int) (k : Nat) : Int := (sw id want k).2.1
def swH (id : Nat) (want : Int) (k : Nat) : Int := (sw id want k).2.2.1
def swE (id : Nat) (want : Int) (k : Nat) : Int := (sw id want k).2.2.2
theorem sw_bd (id : Nat) (want : Int) : ∀ k, 0 ≤ swN id want k ∧ swN id want k ≤ k ∧ 0 ≤ swE id want k ∧ swE id want k ≤ k
  | 0 => by simp [swN, swE, sw]
  | k + 1 => by
    have ⟨h1, h2, h3, h4⟩ := sw_bd id want k
    simp only [swN, swE] at *
    simp only [sw, mN, mE]
    refine ⟨?_, ?_, ?_, ?_⟩ <;> split <;> (try split) <;> (try split) <;> omega

set_option maxHeartbeats 4000000 in
theorem sweep_big (n want : Int) (id : Nat) (w : World) (h1 : id < 3) (h : 16 < n) :
    Calls Try.prog 30 #[.agg #[I 1, I 2, I 3, I 4, I 5, I 6, I 7, I 8, I 9, I 10, I 11, I 12, I 13, I 14, I 15, I 16], I n, I id, I want] w fun e w' => ∃ k : Nat, 16 ≤ 3 * k + id ∧ 3 * k + id < 19 ∧ e = .returned (.agg #[I (swN id want k), I (swL id want k), I (swH id want k), I (swE id want k)]) ∧ Below w.heap.size w w' := by
  go_enter Try.func30, Try.ntmps30
  go_wp2
  go_loopw [10] (fun i wr => ∃ k m : Nat, Hid (m = 3 * k + id) ∧ m < 19 ∧ i = I (m : Int) ∧ Below w.heap.size w wr ∧ Blk wr (w.heap.size + 1 + 1) #[I (swN id want k), I (swL id want k), I (swH id want k), I (swE id want k)] 41 ∧ Blk wr w.heap.size #[I 1, I 2, I 3, I 4, I 5, I 6, I 7, I 8, I 9, I 10, I 11, I 12, I 13, I 14, I 15, I 16] 39 ∧ Blk wr (w.heap.size + 1) #[I 0, I 0, I 0, I 0] 41)
    (fun i _ => (19 - intOf i).toNat)
  case atStart =>
    refine ⟨0, id, by show id = _; omega, by omega, rfl, ?_, ?_, ?_, ?_⟩
    · exact (((Below.refl _ _).alloc (by omega) _).alloc (by simp) _).alloc (by simp; omega) _
    · exact Blk.new (by simp)
    · exact ((Blk.new rfl).old _).old _
    · exact (Blk.new (by simp)).old _
  case round =>
    obtain ⟨k, m, hm, hk, rfl, hb, B2, B0, B1⟩ := hrel
    obtain ⟨c2, f2, l2⟩ := B2.facts
    obtain ⟨c0, f0, l0⟩ := B0.facts
    obtain ⟨c1, f1, l1⟩ := B1.facts
    by_cases hlt : m < 16
    · have hbd := sw_bd id want k
      have hmm := hm.out
      have hrk : wr.cell? ⟨w.heap.size, m, none⟩ = some (I ((m : Int) + 1)) := by
        rw [c0]
        exact rows_at m hlt
      have fin : ∀ q : Int, q = (if (m : Int) + 1 = want then 1 else 0) → mN (swN id want k) 1 = swN id want (k + 1) ∧ mL (swN id want k) (swL id want k) 1 ((m : Int) + 1) = swL id want (k + 1) ∧ mH (swN id want k) (swH id want k) 1 ((m : Int) + 1) = swH id want (k + 1) ∧ mE (swN id want k) (swE id want k) 1 q = swE id want (k + 1) := by
        intro q hq; subst hq; subst hmm; exact ⟨rfl, rfl, rfl, rfl⟩
      have Fin : Hid _ := fin
      clear fin c0
      have b1 : 0 ≤ swN id want k := hbd.1
      have b2 : swN id want k ≤ 1000 := by omega
      have b3 : 0 ≤ swE id want k := hbd.2.2.1
      have b4 : swE id want k ≤ 1000 := by omega
      clear hbd hmm
      by_cases hw : ((m : Int) + 1 == want) = true
      · skip
        go_wp2_with fail
        refine (merge _ _ _ _ 1 _ _ _ _ b1 b2 (by decide) (by decide) b3 b4 (by decide) (by decide)).mono ?_
        rintro e w1 ⟨rfl, hb1⟩
        obtain ⟨e1, e2, e3, e4⟩ := Fin.out 1 (by simp at hw; simp [hw])
        rw [e1, e2, e3, e4]
        clear e1 e2 e3 e4
        have D2 := (B2.old _).below hb1 (by simp; omega)
        have D1 := (B1.old _).below hb1 (by simp; omega)
        have D0 := (B0.old _).below hb1 (by simp; omega)
        have hb' := (hb.alloc (by omega) _).trans (hb1.mono (by simp; omega))
        obtain ⟨d2, g2, m2⟩ := D2.facts
        clear c2 f2 l2 c1 f1 l1 f0 l0 hrk
        go_wp2
        go_roundw
        case rel =>
          refine ⟨k + 1, m + 3, by have := hm.out; show _ = _; omega, by omega, by go_num, ?_, ((((D2.set _).set _).set _).set _), ((((D0.other (by simp <;> omega) _).other (by simp <;> omega) _).other (by simp <;> omega) _).other (by simp <;> omega) _), ((((D1.other (by simp) _).other (by simp) _).other (by simp) _).other (by simp) _)⟩
          exact (((hb'.setCell (by simp; omega) _).setCell (by simp; omega) _).setCell (by simp; omega) _).setCell (by simp; omega) _
        case measure => simp [intOf]; omega
      · have hw : ((m : Int) + 1 == want) = false := by simpa using hw
        go_wp2_with fail
        refine (merge _ _ _ _ 1 _ _ _ _ b1 b2 (by decide) (by decide) b3 b4 (by decide) (by decide)).mono ?_
        rintro e w1 ⟨rfl, hb1⟩
        obtain ⟨e1, e2, e3, e4⟩ := Fin.out 0 (by simp at hw; simp [hw])
        rw [e1, e2, e3, e4]
        clear e1 e2 e3 e4
        have D2 := (B2.old _).below hb1 (by simp; omega)
        have D1 := (B1.old _).below hb1 (by simp; omega)
        have D0 := (B0.old _).below hb1 (by simp; omega)
        have hb' := (hb.alloc (by omega) _).trans (hb1.mono (by simp; omega))
        obtain ⟨d2, g2, m2⟩ := D2.facts
        clear c2 f2 l2 c1 f1 l1 f0 l0 hrk
        go_wp2
        go_roundw
        case rel =>
          refine ⟨k + 1, m + 3, by have := hm.out; show _ = _; omega, by omega, by go_num, ?_, ((((D2.set _).set _).set _).set _), ((((D0.other (by simp <;> omega) _).other (by simp <;> omega) _).other (by simp <;> omega) _).other (by simp <;> omega) _), ((((D1.other (by simp) _).other (by simp) _).other (by simp) _).other (by simp) _)⟩
          exact (((hb'.setCell (by simp; omega) _).setCell (by simp; omega) _).setCell (by simp; omega) _).setCell (by simp; omega) _
        case measure => simp [intOf]; omega
    · have hm2 := hm.out
      clear c0 f0 l0
      go_wp2
      exact bodyPost_ret (v := .agg #[I (swN id want k), I (swL id want k), I (swH id want k), I (swE id want k)]) (by simp [results, Try.results30, go_sem, c1]) rfl ⟨k, by omega, by omega, rfl, (((hb.setCell (by simp) _).setCell (by simp) _).setCell (by simp) _).setCell (by simp) _⟩
end Go.Proofs.Qxb6500474a
