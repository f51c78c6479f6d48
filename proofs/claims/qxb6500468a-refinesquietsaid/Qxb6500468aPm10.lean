import Derived.Test.Qxb6500468aPm9
namespace Go.Proofs.Qxb6500468a
open Go.RowKit

/-! ### a desk of its own -/
def dkC (ds : List Int) (img : List UInt8) : Array Value := (ds.map I ++ [S img]).toArray
structure DkR (w : World) (g : Nat) (ds : List Int) (img : List UInt8) : Prop where
  head : Blk w g (dkC ds img) 36
  l3 : ds.length = 5
theorem dkC_d (ds : List Int) (img : List UInt8) (j : Nat) (hj : j < ds.length) : (dkC ds img)[0 + j]? = some (I (ds.getD j 0)) := by
  unfold dkC
  rw [Nat.zero_add, List.getElem?_toArray, List.getElem?_append_left (by simpa using hj), List.getElem?_map, List.getElem?_eq_getElem hj, List.getD_eq_getElem?_getD, List.getElem?_eq_getElem hj]
  rfl
theorem dkC_i (ds : List Int) (img : List UInt8) (l3 : ds.length = 5) : (dkC ds img)[5]? = some (S img) := by
  unfold dkC
  rw [List.getElem?_toArray, List.getElem?_append_right (by simp; omega), List.length_map, l3]
  rfl
theorem DkR.upd {bs : List Nat} {w w' : World} {g : Nat} {ds : List Int} {img : List UInt8} (h : DkR w g ds img) (u : Upd bs w w') (hg : g ∉ bs) : DkR w' g ds img := ⟨h.head.upd u hg, h.l3⟩
theorem DkR.later {w w' : World} {g : Nat} {ds : List Int} {img : List UInt8} (h : DkR w g ds img) (u : Below w.heap.size w w') : DkR w' g ds img := h.upd (Upd.of_below (bs := []) u) (by simp)
theorem DkR.desk {w : World} {g : Nat} {ds : List Int} {img : List UInt8} (h : DkR w g ds img) : DeskR w g 0 (ds.getD 0 0) (ds.getD 1 0) (ds.getD 2 0) (ds.getD 3 0) (ds.getD 4 0) img :=
  ⟨_, _, h.head, dkC_d _ _ 0 (by rw [h.l3]; omega), dkC_d _ _ 1 (by rw [h.l3]; omega), dkC_d _ _ 2 (by rw [h.l3]; omega), dkC_d _ _ 3 (by rw [h.l3]; omega), dkC_d _ _ 4 (by rw [h.l3]; omega), dkC_i _ _ h.l3⟩
theorem DkR.setd {w : World} {g : Nat} {ds : List Int} {img : List UInt8} (h : DkR w g ds img) (j : Nat) (v : Int) (hj : j < 5) : DkR (w.setCell ⟨g, 0 + j, none⟩ (I v)) g (ds.set j v) img := by
  have := h.head.set (i := 0 + j) (I v)
  rw [show (dkC ds img).setIfInBounds (0 + j) (I v) = dkC (ds.set j v) img from by
    unfold dkC
    rw [Nat.zero_add, List.setIfInBounds_toArray, List.set_append_left _ _ (by simp; rw [h.l3]; exact hj), List.map_set]] at this
  exact ⟨this, by simp [h.l3]⟩
theorem DkR.seti {w : World} {g : Nat} {ds : List Int} {img : List UInt8} (h : DkR w g ds img) (s : List UInt8) : DkR (w.setCell ⟨g, 5, none⟩ (S s)) g ds s := by
  have := h.head.set (i := 5) (S s)
  rw [show (dkC ds img).setIfInBounds 5 (S s) = dkC ds s from by
    unfold dkC
    rw [List.setIfInBounds_toArray, List.set_append_right _ _ (by have := h.l3; simp; omega), List.length_map, h.l3]
    rfl] at this
  exact ⟨this, h.l3⟩
set_option maxRecDepth 100000 in
set_option maxHeartbeats 4000000 in
theorem dnote_any (w : World) (g : Nat) (ds : List Int) (img : List UInt8) (h : DkR w g ds img) (K A B C : Int) (s t : ByteArray) (E N : Int) (T : List UInt8) :
    Calls Try.prog 20 #[.pointer (some ⟨g, 0, none⟩), OpV K A B C s t, AnsV E N T] w fun e w' => e = .returned (.tuple #[]) ∧ DkR w' g (noteD K A B C ds) (noteI K T img) ∧ Upd [g] w w' := by
  obtain ⟨d0, d1, d2, d3, d4, d5, ld⟩ := h.desk.cells
  have f := h.head.frozen
  have b0 := ((Below.refl w.heap.size w).alloc (Nat.le_refl _) (.cells #[I K, I A, I B, I C, .string s, .string t] 38)).alloc (by simp) (.cells #[I E, I N, I 0, S T] 42)
  have hz1 : g ≠ w.heap.size := by omega
  have hz2 : g ≠ w.heap.size + 1 := by omega
  have HH : Hid _ := h
  unfold noteD noteI
  by_cases k2 : K = 2
  · subst k2
    rw [if_pos rfl, if_neg (by simp)]
    clear h
    go_enter Try.func20, Try.ntmps20
    go_wp2_with fail
    go_region
    go_wp2
    go_end0
    exact ⟨rfl, (((HH.out.setd 0 A (by omega)).setd 1 B (by omega)).setd 2 C (by omega)).later (((Below.refl _ _).alloc (Nat.le_refl _) _).alloc (by simp) _).drew, ((((((Upd.refl _ _).setCell (by simp) _).setCell (by simp) _).setCell (by simp) _).alloc _).alloc _).drew⟩
  · have e2 : (K == 2) = false := by simpa using k2
    rw [if_neg k2]
    by_cases k3 : K = 3
    · subst k3
      rw [if_pos rfl, if_neg (by simp)]
      clear h k2 e2
      go_enter Try.func20, Try.ntmps20
      go_wp2_with fail
      go_region
      go_wp2
      go_end0
      exact ⟨rfl, ((HH.out.setd 3 A (by omega)).setd 4 B (by omega)).later (((Below.refl _ _).alloc (Nat.le_refl _) _).alloc (by simp) _).drew, (((((Upd.refl _ _).setCell (by simp) _).setCell (by simp) _).alloc _).alloc _).drew⟩
    · have e3 : (K == 3) = false := by simpa using k3
      rw [if_neg k3]
      by_cases k9 : K = 9
      · subst k9
        by_cases hl : T.length ≤ 64
        · rw [if_pos ⟨rfl, hl⟩]
          have hl' : ((str T).size : Int) ≤ 64 := by rw [str_size]; omega
          have hl2 : (T.length : Int) ≤ 64 := by omega
          have hz := str_size T
          clear h k2 k3 e2 e3
          go_enter Try.func20, Try.ntmps20
          go_wp2
          go_end0
          exact ⟨rfl, (HH.out.seti T).later (((Below.refl _ _).alloc (Nat.le_refl _) _).alloc (by simp) _), (((Upd.refl _ _).setCell (by simp) _).alloc _).alloc _⟩
        · rw [if_neg (fun e => hl e.2)]
          have hl' : ¬ ((str T).size : Int) ≤ 64 := by rw [str_size]; omega
          have hl2 : ¬ (T.length : Int) ≤ 64 := by omega
          have hz := str_size T
          clear h k2 k3 e2 e3
          go_enter Try.func20, Try.ntmps20
          go_wp2
          go_end0
          exact ⟨rfl, HH.out.later (((Below.refl _ _).alloc (Nat.le_refl _) _).alloc (by simp) _), ((Upd.refl _ _).alloc _).alloc _⟩
      · have e9 : (K == 9) = false := by simpa using k9
        rw [if_neg (fun e => k9 e.1)]
        clear h k2 k3 k9
        go_enter Try.func20, Try.ntmps20
        go_wp2
        go_end0
        exact ⟨rfl, HH.out.later (((Below.refl _ _).alloc (Nat.le_refl _) _).alloc (by simp) _), ((Upd.refl _ _).alloc _).alloc _⟩


theorem at_bit (u : Nat) (hu : u < 256) (i : Nat) : (atF u (i : Int) == 0) = u.testBit i := by
  unfold atF
  by_cases h : i < 8
  · rw [if_neg (by omega), Int.toNat_natCast]
    cases u.testBit i <;> rfl
  · rw [if_pos (by omega)]
    have : u.testBit i = false := Nat.testBit_lt_two_pow (Nat.lt_of_lt_of_le hu (by rw [show 256 = 2 ^ 8 from rfl]; exact Nat.pow_le_pow_right (by decide) (by omega)))
    rw [this]
    rfl
set_option maxRecDepth 100000 in
set_option maxHeartbeats 4000000 in
theorem handed_any (w : World) (m : Nat) (us : List Bool) (hs : List Int) (h : MoR w m us hs) (u : Nat) (ws : List Nat) (ht : Tells u ws us hs) (hu : u < 256) (ub : Nat) (hB : Blk w ub (brdC u) 88) :
    Calls Try.prog 49 #[.agg #[ptr ub], ptr m] w fun e w' => e = .returned (.bool true) ∧ Below w.heap.size w w' := by
  have b0 := (Below.refl w.heap.size w).alloc (Nat.le_refl _) (.cells #[ptr ub] 48)
  have BB : Blk (w.alloc (.cells #[ptr ub] 48)) w.heap.size #[ptr ub] 48 := Blk.new rfl
  have h0 := h.later b0
  have hB0 := hB.below b0 hB.lt
  go_enter Try.func49, Try.ntmps49
  go_wp2
  go_loopw [5] (fun i wr => ∃ k : Nat, k ≤ 64 ∧ i = I k ∧ MoR wr m us hs ∧ Blk wr ub (brdC u) 88 ∧ Blk wr w.heap.size #[ptr ub] 48 ∧ Below w.heap.size w wr) (fun i _ => (64 - intOf i).toNat)
  case atStart => exact ⟨0, by omega, rfl, h0, hB0, BB, b0⟩
  case round =>
    clear h0 hB0 BB b0 hB h
    obtain ⟨k, hk, rfl, hr, hBr, BBr, br⟩ := hrel
    by_cases hlt : k < 64
    · have q1 : (k : Int) < 64 := by omega
      have hat := at_bit u hu k
      have hG := mget_any wr m us hs hr u ws ht (k : Int)
      have hH := fun W (hW : Blk W ub (brdC u) 88) => has_any W ub u k hlt (by omega) hW
      generalize u.testBit k = bt at *
      generalize atF u (k : Int) = at_ at *
      generalize getE u ws (k : Int) = n at *
      have w1 := wr64 ((k : Int) + 1) (by omega) (by omega)
      go_wp2_with fail
      refine hG.mono ?_
      rintro e w2 ⟨rfl, b2⟩
      have hr2 := hr.later b2
      have hB2 := hBr.below b2 hBr.lt
      have BB2 := BBr.below b2 BBr.lt
      have br2 := br.trans (b2.mono br.size)
      have aH := (Below.refl w2.heap.size w2).alloc (Nat.le_refl _) (.cells #[I (unK n), I (unD n), I (unL n), I (unF n), I (unS n)] 27)
      have hr3 := hr2.later aH
      have hB3 := hB2.below aH hB2.lt
      have BB3 := BB2.below aH BB2.lt
      have br3 := br2.trans (aH.mono br2.size)
      clear hr hBr BBr br b2 hr2 hB2 BB2 br2 aH hG
      have c0 : (w2.alloc (.cells #[I (unK n), I (unD n), I (unL n), I (unF n), I (unS n)] 27)).cell? ⟨w.heap.size, 0, none⟩ = some (ptr ub) := BB3.cell 0
      go_wp2_with fail
      generalize w2.alloc (.cells #[I (unK n), I (unD n), I (unL n), I (unF n), I (unS n)] 27) = v3 at *
      refine (hH _ hB3).mono ?_
      rintro e w4 ⟨rfl, rfl⟩
      clear hH c0
      cases bt with
      | true =>
        have hat' : at_ = 0 := by simpa using hat
        subst hat'
        go_wp2
        go_roundw
        case rel => exact ⟨k + 1, by omega, by go_num, hr3, hB3, BB3, br3⟩
        case measure => simp [intOf]; omega
      | false =>
        go_wp2
        go_roundw
        case rel => exact ⟨k + 1, by omega, by go_num, hr3, hB3, BB3, br3⟩
        case measure => simp [intOf]; omega
    · obtain rfl : k = 64 := by omega
      go_wp2
      go_ret
      exact ⟨rfl, br⟩
end Go.Proofs.Qxb6500468a
