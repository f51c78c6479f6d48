import Derived.Test.Qxb6500469aWm7
namespace Go.Proofs.Qxb6500469a
open Go.RowKit

/-- The text of a row of Booleans. -/
def c01 (c : Bool) : UInt8 := if c then 49 else 48
def imgF (f : Nat → Bool) (n : Nat) : List UInt8 := (List.range n).map fun i => c01 (f i)
/-- The first k places are written. -/
def rowF (f : Nat → Bool) (k : Nat) : List UInt8 := (List.range 64).map fun i => if i < k then c01 (f i) else 0
theorem rowF_len (f : Nat → Bool) (k : Nat) : (rowF f k).length = 64 := by simp [rowF]
theorem rowF_step (f : Nat → Bool) (k : Nat) : (rowF f k).set k (c01 (f k)) = rowF f (k + 1) := by
  apply List.ext_getElem?
  intro i
  unfold rowF
  rw [List.getElem?_set, List.getElem?_map, List.getElem?_map]
  by_cases hi : i < 64
  · rw [List.getElem?_range hi]
    simp only [Option.map_some, List.length_map, List.length_range]
    by_cases e : k = i
    · subst e
      rw [if_pos rfl, if_pos hi, if_pos (by omega)]
    · rw [if_neg e]
      by_cases h2 : i < k
      · rw [if_pos h2, if_pos (by omega)]
      · rw [if_neg h2, if_neg (by omega)]
  · rw [List.getElem?_eq_none (by simp; omega)]
    by_cases e : k = i
    · rw [if_pos e, if_neg (by simp; omega)]; rfl
    · rw [if_neg e]; rfl
theorem rowF_zero (f : Nat → Bool) : rowF f 0 = List.replicate 64 0 := by
  unfold rowF
  apply List.ext_getElem?
  intro i
  rw [List.getElem?_map, List.getElem?_replicate]
  by_cases hi : i < 64
  · rw [List.getElem?_range hi, if_pos hi]; simp
  · rw [List.getElem?_eq_none (by simp; omega), if_neg hi]; rfl
theorem rowF_end (f : Nat → Bool) : rowF f 64 = imgF f 64 := by
  unfold rowF imgF
  apply List.map_congr_left
  intro i hi
  rw [if_pos (List.mem_range.1 hi)]
theorem imgF_ext (f g : Nat → Bool) (h : ∀ i, i < 64 → f i = g i) : imgF f 64 = imgF g 64 := by
  unfold imgF
  apply List.map_congr_left
  intro i hi
  rw [h i (List.mem_range.1 hi)]
theorem imgF_len (f : Nat → Bool) : (imgF f 64).length = 64 := by simp [imgF]
theorem imgF_at (f : Nat → Bool) (i : Nat) (hi : i < 64) : (imgF f 64).getD i 0 = c01 (f i) := by
  unfold imgF
  rw [List.getD_eq_getElem?_getD, List.getElem?_map, List.getElem?_range hi]; rfl
theorem img_get (f : Nat → Bool) (i : Nat) (hi : i < 64) : ∀ h, ((str (imgF f 64))[i]'h).toNat = (if f i then 49 else 48) := by
  intro h
  have hl : i < (imgF f 64).length := by rw [imgF_len]; exact hi
  have e : (str (imgF f 64))[i]'h = (imgF f 64)[i] := rfl
  have e2 := imgF_at f i hi
  rw [List.getD_eq_getElem?_getD, List.getElem?_eq_getElem hl] at e2
  rw [e, show (imgF f 64)[i] = c01 (f i) from e2]
  unfold c01
  cases f i <;> rfl
theorem mk64 : ∀ W : World, (Instr.makeSlice 47 (.int .i64 64) (.int .i64 64)).run Try.prog W = .ok (.slice (some ⟨W.heap.size, 0, none⟩) 64 64) (W.alloc (.cells (byC (List.replicate 64 0)).toArray 5)) := fun _ => by kernel_rfl
theorem row_new (W : World) : RowB (W.alloc (.cells (byC (List.replicate 64 0)).toArray 5)) W.heap.size 64 (List.replicate 64 0) := ⟨⟨_, Blk.new rfl, rfl, rfl⟩, by simp⟩
theorem RowB.later {w w' : World} {g cap : Nat} {xs : List UInt8} (h : RowB w g cap xs) (b : Below w.heap.size w w') : RowB w' g cap xs := by
  obtain ⟨cur, hB, hs, ht⟩ := h.ex
  exact ⟨⟨cur, hB.below b hB.lt, hs, ht⟩, h.le⟩
theorem RowB.str {w : World} {g : Nat} {xs : List UInt8} (h : RowB w g 64 xs) (hl : xs.length = 64) : (convert 47 9 (.slice (some ⟨g, 0, none⟩) 64 64)).run Try.prog w = .ok (S xs) w := by
  obtain ⟨cur, hB, hs, ht⟩ := h.ex
  have := run_bytes_own (P := Try.prog) w 47 9 5 g _ cur xs xs.length 64 rfl hB ht Try.underlying47 Try.underlying5 Try.underlying9
  rw [hl] at this
  exact this

set_option maxRecDepth 100000 in
set_option maxHeartbeats 4000000 in
theorem image_any (w : World) (b u : Nat) (a p q : Int) (h : BdR w b u a p q) : Calls Try.prog 16 #[ptr b] w fun e w' => e = .returned (S (imgF u.testBit 64)) ∧ Below w.heap.size w w' := by
  have hmk := mk64
  have lb := h.head.lt
  go_enter Try.func16, Try.ntmps16
  go_wp2
  go_loopw [4] (fun i wr => ∃ k : Nat, k ≤ 64 ∧ i = I k ∧ RowB wr w.heap.size 64 (rowF u.testBit k) ∧ Below w.heap.size w wr) (fun i _ => (64 - intOf i).toNat)
  case atStart => exact ⟨0, by omega, rfl, by rw [rowF_zero]; exact row_new w, (Below.refl _ _).alloc (Nat.le_refl _) _⟩
  case round =>
    obtain ⟨k, hk, rfl, hR, br⟩ := hrel
    have hr := h.later br
    clear h hmk
    by_cases hlt : k < 64
    · have q1 : (k : Int) < 64 := by omega
      have hH := has_any wr b u a p q hr (k : Int)
      rw [hasB_nat u k hlt] at hH
      obtain ⟨c0, c1⟩ := hR.cell k (by rw [rowF_len]; exact hlt)
      have hst := hR.set k (c01 (u.testBit k))
      rw [rowF_step] at hst
      have bb := br.setCell (p := ⟨w.heap.size, k, none⟩) (Nat.le_refl _) (B8 (c01 (u.testBit k)).toNat)
      have HST : Hid (_ ∧ _) := And.intro hst bb
      clear hst bb
      cases hb : u.testBit k with
      | true =>
        rw [hb] at hH HST
        go_wp2_with fail
        refine hH.mono ?_
        rintro e w1 ⟨rfl, rfl⟩
        go_wp2_with fail
        refine (B_any true _).mono ?_
        rintro e w2 ⟨rfl, rfl⟩
        rw [show b2i true = 1 from rfl]
        go_wp2
        go_roundw
        case rel => exact ⟨k + 1, by omega, by go_num, HST.out.1, HST.out.2⟩
        case measure => simp [intOf]; omega
      | false =>
        rw [hb] at hH HST
        go_wp2_with fail
        refine hH.mono ?_
        rintro e w1 ⟨rfl, rfl⟩
        go_wp2_with fail
        refine (B_any false _).mono ?_
        rintro e w2 ⟨rfl, rfl⟩
        rw [show b2i false = 0 from rfl]
        go_wp2
        go_roundw
        case rel => exact ⟨k + 1, by omega, by go_num, HST.out.1, HST.out.2⟩
        case measure => simp [intOf]; omega
    · obtain rfl : k = 64 := by omega
      rw [rowF_end] at hR
      have hcv := hR.str (imgF_len _)
      go_wp2
      go_ret
      exact ⟨rfl, br⟩
set_option maxHeartbeats 1000000 in
theorem dueSet_any (w : World) (K A B C : Int) (s t : ByteArray) (e : Int) (he : Hid (e = if K = 3 ∨ K = 4 ∨ K = 5 then (if 0 ≤ A ∧ A < 64 then 0 else 2) else if K = 7 ∨ K = 8 ∨ K = 9 then (if A = 0 ∨ A = 1 then 0 else 3) else if K = 11 then (if A < -64 ∨ 64 < A then 2 else 0) else 0)) : Calls Try.prog 46 #[OpV K A B C s t] w fun e' w' => e' = .returned (I e) ∧ Below w.heap.size w w' := by
  have h := he.out
  clear he
  have b0 := (Below.refl w.heap.size w).alloc (Nat.le_refl _) (.cells #[I K, I A, I B, I C, .string s, .string t] 31)
  by_cases k : K = 3 ∨ K = 4 ∨ K = 5
  · rw [if_pos k] at h
    by_cases hA : 0 ≤ A ∧ A < 64
    · rw [if_pos hA] at h
      subst h
      have a1 : ¬ A < 0 := by omega
      have a2 : ¬ 64 ≤ A := by omega
      rcases k with rfl | rfl | rfl
      all_goals
        go_enter Try.func46, Try.ntmps46
        go_wp2
        go_ret
        exact ⟨rfl, b0⟩
    · rw [if_neg hA] at h
      subst h
      by_cases a1 : A < 0
      · rcases k with rfl | rfl | rfl
        all_goals
          go_enter Try.func46, Try.ntmps46
          go_wp2
          go_ret
          exact ⟨rfl, b0⟩
      · have a2 : 64 ≤ A := by omega
        rcases k with rfl | rfl | rfl
        all_goals
          go_enter Try.func46, Try.ntmps46
          go_wp2
          go_ret
          exact ⟨rfl, b0⟩
  rw [if_neg k] at h
  by_cases k' : K = 7 ∨ K = 8 ∨ K = 9
  · rw [if_pos k'] at h
    by_cases a0 : A = 0
    · rw [if_pos (.inl a0)] at h
      subst h
      subst a0
      rcases k' with rfl | rfl | rfl
      all_goals
        go_enter Try.func46, Try.ntmps46
        go_wp2
        go_ret
        exact ⟨rfl, b0⟩
    by_cases a1 : A = 1
    · rw [if_pos (.inr a1)] at h
      subst h
      subst a1
      rcases k' with rfl | rfl | rfl
      all_goals
        go_enter Try.func46, Try.ntmps46
        go_wp2
        go_ret
        exact ⟨rfl, b0⟩
    rw [if_neg (by omega)] at h
    subst h
    have e0 : (A != 0) = true := by simpa using a0
    have e1 : (A != 1) = true := by simpa using a1
    clear k a0 a1
    rcases k' with rfl | rfl | rfl
    all_goals
      go_enter Try.func46, Try.ntmps46
      go_wp2
      go_ret
      exact ⟨rfl, b0⟩
  rw [if_neg k'] at h
  by_cases k1 : K = 11
  · rw [if_pos k1] at h
    subst k1
    by_cases a1 : A < -64
    · rw [if_pos (.inl a1)] at h
      subst h
      go_enter Try.func46, Try.ntmps46
      go_wp2
      go_ret
      exact ⟨rfl, b0⟩
    by_cases a2 : 64 < A
    · rw [if_pos (.inr a2)] at h
      subst h
      go_enter Try.func46, Try.ntmps46
      go_wp2
      go_ret
      exact ⟨rfl, b0⟩
    rw [if_neg (by omega)] at h
    subst h
    go_enter Try.func46, Try.ntmps46
    go_wp2
    go_ret
    exact ⟨rfl, b0⟩
  rw [if_neg k1] at h
  subst h
  have j3 : (K == 3) = false := by simp; omega
  have j4 : (K == 4) = false := by simp; omega
  have j5 : (K == 5) = false := by simp; omega
  have j7 : (K == 7) = false := by simp; omega
  have j8 : (K == 8) = false := by simp; omega
  have j9 : (K == 9) = false := by simp; omega
  have j11 : (K == 11) = false := by simpa using k1
  clear k k' k1
  go_enter Try.func46, Try.ntmps46
  go_wp2
  go_ret
  exact ⟨rfl, b0⟩
end Go.Proofs.Qxb6500469a
