import Derived.Test.Qxb6500468aPk4
namespace Go.Proofs.Qxb6500468a
open Go.RowKit

def in64 (x : Int) : Prop := -9223372036854775808 ≤ x ∧ x ≤ 9223372036854775807
def shH (k d l f s : Int) : List UInt8 := itoa k ++ [58] ++ itoa d ++ [58] ++ itoa l ++ [58] ++ itoa f ++ [58] ++ itoa s
theorem shH_len (k d l f s : Int) (hk : in64 k) (hd : in64 d) (hl : in64 l) (hf : in64 f) (hs : in64 s) : (shH k d l f s).length ≤ 110 := by
  have a1 := itoa_len k hk.1 hk.2
  have a2 := itoa_len d hd.1 hd.2
  have a3 := itoa_len l hl.1 hl.2
  have a4 := itoa_len f hf.1 hf.2
  have a5 := itoa_len s hs.1 hs.2
  unfold shH
  simp only [List.length_append, List.length_singleton]
  omega
set_option maxRecDepth 100000 in
set_option maxHeartbeats 1000000 in
theorem showH_any (k d l f s : Int) (hk : in64 k) (hd : in64 d) (hl : in64 l) (hf : in64 f) (hs : in64 s) (w : World) :
    Calls Try.prog 16 #[HdV k d l f s] w fun e w' => e = .returned (S (shH k d l f s)) ∧ Below w.heap.size w w' := by
  have a1 := itoa_len k hk.1 hk.2
  have a2 := itoa_len d hd.1 hd.2
  have a3 := itoa_len l hl.1 hl.2
  have a4 := itoa_len f hf.1 hf.2
  have a5 := itoa_len s hs.1 hs.2
  rw [← str_size] at a1 a2 a3 a4 a5
  have B0 : Blk (w.alloc (.cells #[I k, I d, I l, I f, I s] 27)) w.heap.size #[I k, I d, I l, I f, I s] 27 := Blk.new rfl
  have b0 := (Below.refl w.heap.size w).alloc (Nat.le_refl _) (.cells #[I k, I d, I l, I f, I s] 27)
  go_enter Try.func16, Try.ntmps16
  go_wp2_with fail
  generalize w.alloc (.cells #[I k, I d, I l, I f, I s] 27) = v0 at *
  refine (itoa_any k hk.1 hk.2 v0).mono ?_
  rintro e w1 ⟨rfl, d1⟩
  have B1 := B0.below d1 B0.lt
  have b1 := b0.trans (d1.mono b0.size)
  have k1 := B1.cell 1
  clear B0 b0 d1
  go_wp2_with fail
  refine (itoa_any d hd.1 hd.2 w1).mono ?_
  rintro e w2 ⟨rfl, d2⟩
  clear k1
  have B2 := B1.below d2 B1.lt
  have b2 := b1.trans (d2.mono b1.size)
  have k2 := B2.cell 2
  clear B1 b1 d2
  go_wp2_with fail
  refine (itoa_any l hl.1 hl.2 w2).mono ?_
  rintro e w3 ⟨rfl, d3⟩
  clear k2
  have B3 := B2.below d3 B2.lt
  have b3 := b2.trans (d3.mono b2.size)
  have k3 := B3.cell 3
  clear B2 b2 d3
  go_wp2_with fail
  refine (itoa_any f hf.1 hf.2 w3).mono ?_
  rintro e w4 ⟨rfl, d4⟩
  clear k3
  have B4 := B3.below d4 B3.lt
  have b4 := b3.trans (d4.mono b3.size)
  have k4 := B4.cell 4
  clear B3 b3 d4
  go_wp2_with fail
  refine (itoa_any s hs.1 hs.2 w4).mono ?_
  rintro e w5 ⟨rfl, d5⟩
  clear k4
  have b5 := b4.trans (d5.mono b4.size)
  clear B4 b4 d5
  go_wp2
  go_ret
  refine ⟨?_, b5⟩
  show Ending.returned (.string (str (itoa k) ++ str [58] ++ str (itoa d) ++ str [58] ++ str (itoa l) ++ str [58] ++ str (itoa f) ++ str [58] ++ str (itoa s))) = _
  simp only [str_append]
  rfl

set_option maxRecDepth 100000 in
set_option maxHeartbeats 2000000 in
theorem good_yes (k d l f s : Int) (h : goodH k d l f s) (w : World) : Calls Try.prog 19 #[HdV k d l f s] w fun e w' => e = .returned (.bool true) ∧ Below w.heap.size w w' := by
  obtain ⟨h0, h1, h2, h3, h4, h5, h6, h7, h8, h9⟩ := h
  have n0 : ¬ k < -128 := by omega
  have n1 : ¬ 127 < k := by omega
  have n2 : ¬ d < -32768 := by omega
  have n3 : ¬ 32767 < d := by omega
  have n4 : ¬ l < 0 := by omega
  have n5 : ¬ 65535 < l := by omega
  have n6 : ¬ f < 0 := by omega
  have n7 : ¬ 31 < f := by omega
  go_enter Try.func19, Try.ntmps19
  go_wp2
  go_ret
  exact ⟨rfl, (Below.refl _ _).alloc (Nat.le_refl _) _⟩
set_option maxRecDepth 100000 in
set_option maxHeartbeats 4000000 in
theorem good_no (k d l f s : Int) (h : ¬ goodH k d l f s) (w : World) : Calls Try.prog 19 #[HdV k d l f s] w fun e w' => e = .returned (.bool false) ∧ Below w.heap.size w w' := by
  have HG : Hid _ := h
  clear h
  by_cases c0 : -128 ≤ k
  · have n0 : ¬ k < -128 := by omega
    by_cases c1 : k ≤ 127
    · have n1 : ¬ 127 < k := by omega
      by_cases c2 : -32768 ≤ d
      · have n2 : ¬ d < -32768 := by omega
        by_cases c3 : d ≤ 32767
        · have n3 : ¬ 32767 < d := by omega
          by_cases c4 : 0 ≤ l
          · have n4 : ¬ l < 0 := by omega
            by_cases c5 : l ≤ 65535
            · have n5 : ¬ 65535 < l := by omega
              by_cases c6 : 0 ≤ f
              · have n6 : ¬ f < 0 := by omega
                by_cases c7 : f ≤ 31
                · have n7 : ¬ 31 < f := by omega
                  by_cases c8 : 0 ≤ s
                  · have n8 : ¬ s < 0 := by omega
                    by_cases c9 : s ≤ 2047
                    · exact absurd ⟨c0, c1, c2, c3, c4, c5, c6, c7, c8, c9⟩ HG.out
                    · have n9 : 2047 < s := by omega
                      go_enter Try.func19, Try.ntmps19
                      go_wp2
                      go_ret
                      exact ⟨rfl, (Below.refl _ _).alloc (Nat.le_refl _) _⟩
                  · have n8 : s < 0 := by omega
                    go_enter Try.func19, Try.ntmps19
                    go_wp2
                    go_ret
                    exact ⟨rfl, (Below.refl _ _).alloc (Nat.le_refl _) _⟩
                · have n7 : 31 < f := by omega
                  go_enter Try.func19, Try.ntmps19
                  go_wp2
                  go_ret
                  exact ⟨rfl, (Below.refl _ _).alloc (Nat.le_refl _) _⟩
              · have n6 : f < 0 := by omega
                go_enter Try.func19, Try.ntmps19
                go_wp2
                go_ret
                exact ⟨rfl, (Below.refl _ _).alloc (Nat.le_refl _) _⟩
            · have n5 : 65535 < l := by omega
              go_enter Try.func19, Try.ntmps19
              go_wp2
              go_ret
              exact ⟨rfl, (Below.refl _ _).alloc (Nat.le_refl _) _⟩
          · have n4 : l < 0 := by omega
            go_enter Try.func19, Try.ntmps19
            go_wp2
            go_ret
            exact ⟨rfl, (Below.refl _ _).alloc (Nat.le_refl _) _⟩
        · have n3 : 32767 < d := by omega
          go_enter Try.func19, Try.ntmps19
          go_wp2
          go_ret
          exact ⟨rfl, (Below.refl _ _).alloc (Nat.le_refl _) _⟩
      · have n2 : d < -32768 := by omega
        go_enter Try.func19, Try.ntmps19
        go_wp2
        go_ret
        exact ⟨rfl, (Below.refl _ _).alloc (Nat.le_refl _) _⟩
    · have n1 : 127 < k := by omega
      go_enter Try.func19, Try.ntmps19
      go_wp2
      go_ret
      exact ⟨rfl, (Below.refl _ _).alloc (Nat.le_refl _) _⟩
  · have n0 : k < -128 := by omega
    go_enter Try.func19, Try.ntmps19
    go_wp2
    go_ret
    exact ⟨rfl, (Below.refl _ _).alloc (Nat.le_refl _) _⟩

/-! ### an image judged -/
def slotAt (s : List UInt8) (i : Nat) : Nat := (s.getD (8 * i) 0).toNat
def recOk (s : List UInt8) (i : Nat) : Prop := slotAt s i < 8 ∧ (i = 0 ∨ slotAt s (i - 1) < slotAt s i)
def imgOk (s : List UInt8) : Prop := s.length ≤ 64 ∧ s.length % 8 = 0 ∧ ∀ i, i < s.length / 8 → recOk s i
def jP (s : List UInt8) (j : Int) : Prop := (j = 0 ∧ imgOk s) ∨ (j = 1 ∧ 64 < s.length) ∨ (j = 9 ∧ s.length ≤ 64 ∧ ¬ imgOk s)
theorem str_get (s : List UInt8) (j : Nat) (hj : j < s.length) : ∀ h, ((str s)[j]'h).toNat = (s.getD j 0).toNat := by
  intro h
  have : (str s)[j]'h = s[j] := rfl
  rw [this, List.getD_eq_getElem?_getD, List.getElem?_eq_getElem hj]
  rfl
set_option maxRecDepth 100000 in
set_option maxHeartbeats 2000000 in
theorem judge_any (s : List UInt8) (w : World) : Calls Try.prog 58 #[S s] w fun e w' => ∃ j : Int, e = .returned (I j) ∧ w' = w ∧ jP s j := by
  have hz := str_size s
  have ht : (s.length : Int).tmod 8 = ((s.length % 8 : Nat) : Int) := by rw [Int.tmod_eq_emod_of_nonneg (by omega)]; omega
  by_cases h64 : 64 < s.length
  · have h64' : (64 : Int) < (s.length : Int) := by omega
    go_enter Try.func58, Try.ntmps58
    go_wp2
    go_ret
    exact ⟨1, rfl, rfl, .inr (.inl ⟨rfl, h64⟩)⟩
  · have h64' : ¬ (64 : Int) < (s.length : Int) := by omega
    have hz2 : (str s).size ≤ 64 := by omega
    by_cases h8 : s.length % 8 = 0
    · have h8' : ((s.length : Int).tmod 8 != 0) = false := by rw [ht, h8]; rfl
      clear ht
      go_enter Try.func58, Try.ntmps58
      go_wp2
      go_loopw [3, 4] (fun la at_ wr => ∃ k : Nat, 8 * k ≤ s.length ∧ at_ = I ((8 * k : Nat) : Int) ∧ la = I (if k = 0 then -1 else (slotAt s (k - 1) : Int)) ∧ Hid (∀ i, i < k → recOk s i) ∧ wr = w) (fun _ at_ _ => (s.length - intOf at_).toNat)
      case atStart => exact ⟨0, by omega, rfl, rfl, fun i hi => by omega, rfl⟩
      case round =>
        obtain ⟨k, hk, rfl, rfl, hok, rfl⟩ := hrel
        obtain ⟨la, hla⟩ : ∃ la : Int, la = if k = 0 then -1 else (slotAt s (k - 1) : Int) := ⟨_, rfl⟩
        have hla8 : la ≤ 255 ∧ -1 ≤ la := by
          rw [hla]; split
          · omega
          · have := (s.getD (8 * (k - 1)) 0).toNat_lt; unfold slotAt; omega
        rw [← hla]
        by_cases hlt : 8 * k < s.length
        · have hlt' : ((8 * k : Nat) : Int) < (s.length : Int) := by omega
          have g0 := str_get s (8 * k) hlt
          have hsl : (s.getD (8 * k) 0).toNat = slotAt s k := rfl
          rw [hsl] at g0
          have hs256 : slotAt s k < 256 := (s.getD (8 * k) 0).toNat_lt
          have hrk : recOk s k ↔ (slotAt s k < 8 ∧ la < (slotAt s k : Int)) := by
            unfold recOk
            rw [hla]
            constructor
            · rintro ⟨a, b⟩
              refine ⟨a, ?_⟩
              split
              · omega
              · rcases b with b | b <;> omega
            · rintro ⟨a, b⟩
              refine ⟨a, ?_⟩
              by_cases e : k = 0
              · exact .inl e
              · rw [if_neg e] at b; exact .inr (by omega)
          have HK : Hid _ := hrk
          have HLA : Hid _ := hla
          clear hsl hrk hla
          obtain ⟨c, hc⟩ : ∃ c, c = slotAt s k := ⟨_, rfl⟩
          rw [← hc] at g0 hs256
          have hk8 : 8 * k ≤ 64 := by omega
          obtain ⟨a8, ha8⟩ : ∃ a8, a8 = 8 * k := ⟨_, rfl⟩
          rw [← ha8] at g0 hlt' ⊢
          have HA8 : Hid _ := ha8
          have HC : Hid _ := hc
          have hlt2 : a8 < s.length := by omega
          clear hc ha8
          by_cases c8 : c < 8
          · have c8' : ¬ (8 : Int) ≤ (c : Int) := by omega
            by_cases cl : la < (c : Int)
            · have cl' : ¬ (c : Int) ≤ la := by omega
              have w8 := wr64 ((a8 : Int) + 8) (by omega) (by omega)
              go_wp2
              go_roundw
              case rel =>
                refine ⟨k + 1, ?_, ?_, ?_, ?_, trivial⟩
                · have := HA8.out; omega
                · have := HA8.out; go_num
                · rw [if_neg (by omega), Nat.add_sub_cancel, ← HC.out]
                · intro i hi
                  by_cases e : i < k
                  · exact hok.out i e
                  · obtain rfl : i = k := by omega
                    exact HK.out.2 ⟨by rw [← HC.out]; exact c8, by rw [← HC.out]; exact cl⟩
              case measure => simp [intOf]; omega
            · have cl' : (c : Int) ≤ la := by omega
              go_wp2
              go_ret
              refine ⟨9, rfl, rfl, .inr (.inr ⟨rfl, by omega, fun hI => ?_⟩)⟩
              have := (HK.out.1 (hI.2.2 k (by have := HA8.out; omega))).2
              rw [← HC.out] at this
              omega
          · have c8' : (8 : Int) ≤ (c : Int) := by omega
            go_wp2
            go_ret
            refine ⟨9, rfl, rfl, .inr (.inr ⟨rfl, by omega, fun hI => ?_⟩)⟩
            have := (HK.out.1 (hI.2.2 k (by have := HA8.out; omega))).1
            rw [← HC.out] at this
            omega
        · have hlt' : ¬ ((8 * k : Nat) : Int) < (s.length : Int) := by omega
          have HI : Hid (imgOk s) := ⟨by omega, h8, fun i hi => hok.out i (by omega)⟩
          obtain ⟨a8, ha8⟩ : ∃ a8, a8 = 8 * k := ⟨_, rfl⟩
          rw [← ha8] at hlt' ⊢
          clear ha8 hla
          go_wp2
          go_ret
          exact ⟨0, rfl, rfl, .inl ⟨rfl, HI.out⟩⟩
    · have h8' : ((s.length : Int).tmod 8 != 0) = true := by rw [ht]; simp; omega
      clear ht
      go_enter Try.func58, Try.ntmps58
      go_wp2
      go_ret
      exact ⟨9, rfl, rfl, .inr (.inr ⟨rfl, by omega, fun h => h8 h.2.1⟩)⟩
set_option maxRecDepth 100000 in
set_option maxHeartbeats 2000000 in
theorem Judge_any (s : List UInt8) (w : World) : Calls Try.prog 62 #[S s] w fun e w' => ∃ j : Int, e = .returned (I j) ∧ w' = w ∧ jP s j := by
  have hz := str_size s
  have ht : (s.length : Int).tmod 8 = ((s.length % 8 : Nat) : Int) := by rw [Int.tmod_eq_emod_of_nonneg (by omega)]; omega
  by_cases h64 : 64 < s.length
  · have h64' : (64 : Int) < (s.length : Int) := by omega
    go_enter Try.func62, Try.ntmps62
    go_wp2
    go_ret
    exact ⟨1, rfl, rfl, .inr (.inl ⟨rfl, h64⟩)⟩
  · have h64' : ¬ (64 : Int) < (s.length : Int) := by omega
    have hz2 : (str s).size ≤ 64 := by omega
    by_cases h8 : s.length % 8 = 0
    · have h8' : ((s.length : Int).tmod 8 != 0) = false := by rw [ht, h8]; rfl
      clear ht
      go_enter Try.func62, Try.ntmps62
      go_wp2
      go_loopw [3, 4] (fun la at_ wr => ∃ k : Nat, 8 * k ≤ s.length ∧ at_ = I ((8 * k : Nat) : Int) ∧ la = I (if k = 0 then -1 else (slotAt s (k - 1) : Int)) ∧ Hid (∀ i, i < k → recOk s i) ∧ wr = w) (fun _ at_ _ => (s.length - intOf at_).toNat)
      case atStart => exact ⟨0, by omega, rfl, rfl, fun i hi => by omega, rfl⟩
      case round =>
        obtain ⟨k, hk, rfl, rfl, hok, rfl⟩ := hrel
        obtain ⟨la, hla⟩ : ∃ la : Int, la = if k = 0 then -1 else (slotAt s (k - 1) : Int) := ⟨_, rfl⟩
        have hla8 : la ≤ 255 ∧ -1 ≤ la := by
          rw [hla]; split
          · omega
          · have := (s.getD (8 * (k - 1)) 0).toNat_lt; unfold slotAt; omega
        rw [← hla]
        by_cases hlt : 8 * k < s.length
        · have hlt' : ((8 * k : Nat) : Int) < (s.length : Int) := by omega
          have g0 := str_get s (8 * k) hlt
          have hsl : (s.getD (8 * k) 0).toNat = slotAt s k := rfl
          rw [hsl] at g0
          have hs256 : slotAt s k < 256 := (s.getD (8 * k) 0).toNat_lt
          have hrk : recOk s k ↔ (slotAt s k < 8 ∧ la < (slotAt s k : Int)) := by
            unfold recOk
            rw [hla]
            constructor
            · rintro ⟨a, b⟩
              refine ⟨a, ?_⟩
              split
              · omega
              · rcases b with b | b <;> omega
            · rintro ⟨a, b⟩
              refine ⟨a, ?_⟩
              by_cases e : k = 0
              · exact .inl e
              · rw [if_neg e] at b; exact .inr (by omega)
          have HK : Hid _ := hrk
          have HLA : Hid _ := hla
          clear hsl hrk hla
          obtain ⟨c, hc⟩ : ∃ c, c = slotAt s k := ⟨_, rfl⟩
          rw [← hc] at g0 hs256
          have hk8 : 8 * k ≤ 64 := by omega
          obtain ⟨a8, ha8⟩ : ∃ a8, a8 = 8 * k := ⟨_, rfl⟩
          rw [← ha8] at g0 hlt' ⊢
          have HA8 : Hid _ := ha8
          have HC : Hid _ := hc
          have hlt2 : a8 < s.length := by omega
          clear hc ha8
          by_cases c8 : c < 8
          · have c8' : ¬ (8 : Int) ≤ (c : Int) := by omega
            by_cases cl : la < (c : Int)
            · have cl' : ¬ (c : Int) ≤ la := by omega
              have w8 := wr64 ((a8 : Int) + 8) (by omega) (by omega)
              go_wp2
              go_roundw
              case rel =>
                refine ⟨k + 1, ?_, ?_, ?_, ?_, trivial⟩
                · have := HA8.out; omega
                · have := HA8.out; go_num
                · rw [if_neg (by omega), Nat.add_sub_cancel, ← HC.out]
                · intro i hi
                  by_cases e : i < k
                  · exact hok.out i e
                  · obtain rfl : i = k := by omega
                    exact HK.out.2 ⟨by rw [← HC.out]; exact c8, by rw [← HC.out]; exact cl⟩
              case measure => simp [intOf]; omega
            · have cl' : (c : Int) ≤ la := by omega
              go_wp2
              go_ret
              refine ⟨9, rfl, rfl, .inr (.inr ⟨rfl, by omega, fun hI => ?_⟩)⟩
              have := (HK.out.1 (hI.2.2 k (by have := HA8.out; omega))).2
              rw [← HC.out] at this
              omega
          · have c8' : (8 : Int) ≤ (c : Int) := by omega
            go_wp2
            go_ret
            refine ⟨9, rfl, rfl, .inr (.inr ⟨rfl, by omega, fun hI => ?_⟩)⟩
            have := (HK.out.1 (hI.2.2 k (by have := HA8.out; omega))).1
            rw [← HC.out] at this
            omega
        · have hlt' : ¬ ((8 * k : Nat) : Int) < (s.length : Int) := by omega
          have HI : Hid (imgOk s) := ⟨by omega, h8, fun i hi => hok.out i (by omega)⟩
          obtain ⟨a8, ha8⟩ : ∃ a8, a8 = 8 * k := ⟨_, rfl⟩
          rw [← ha8] at hlt' ⊢
          clear ha8 hla
          go_wp2
          go_ret
          exact ⟨0, rfl, rfl, .inl ⟨rfl, HI.out⟩⟩
    · have h8' : ((s.length : Int).tmod 8 != 0) = true := by rw [ht]; simp; omega
      clear ht
      go_enter Try.func62, Try.ntmps62
      go_wp2
      go_ret
      exact ⟨9, rfl, rfl, .inr (.inr ⟨rfl, by omega, fun h => h8 h.2.1⟩)⟩
end Go.Proofs.Qxb6500468a
