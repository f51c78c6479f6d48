import Derived.Test.Qxb6500468aPk16
import Derived.BigQuiet
namespace Go.Proofs.Qxb6500468a
open Go.RowKit

set_option maxRecDepth 100000 in
set_option maxHeartbeats 4000000 in
theorem owed_6none (w : World) (g : Nat) (us : List Bool) (hs ds : List Int) (img : List UInt8) (h : GhR w g us hs ds img) (u : Nat) (ws : List Nat) (ht : Tells u ws us hs) (hu : u < 256) (A B C : Int) (s t : ByteArray) (hA : A < 0 ∨ 8 ≤ A) :
    Calls Try.prog 43 #[ptr g, OpV 6 A B C s t] w fun e w' => e = .returned (AnsV 2 0 []) ∧ GhR w' g us hs ds img ∧ Upd [g] w w' := by
  obtain ⟨hf1, hf2⟩ := hiS_fin u hu
  have lg := h.head.lt
  have b0 := ((Below.refl w.heap.size w).alloc (Nat.le_refl _) (.cells #[I 6, I A, I B, I C, .string s, .string t] 38)).alloc (by simp) (.cells #[I 0, I 0, I 0, S []] 42)
  have BO : Blk ((w.alloc (.cells #[I 6, I A, I B, I C, .string s, .string t] 38)).alloc (.cells #[I 0, I 0, I 0, S []] 42)) w.heap.size #[I 6, I A, I B, I C, .string s, .string t] 38 := (Blk.new rfl).old _
  have BA : Blk ((w.alloc (.cells #[I 6, I A, I B, I C, .string s, .string t] 38)).alloc (.cells #[I 0, I 0, I 0, S []] 42)) (w.heap.size + 1) #[I 0, I 0, I 0, S []] 42 := Blk.new (by simp)
  have HF : Hid (_ ∧ _) := ⟨hf1, hf2⟩
  clear hf1 hf2
  go_enter Try.func43, Try.ntmps43
  go_wp2
  go_loopw [5, 6, 7] (fun n f ix wr => ∃ q : Nat, q ≤ 8 ∧ n = I ((hiS u q).1 : Nat) ∧ f = I (hiS u q).2 ∧ ix = I (7 - (q : Int)) ∧ GhR wr g us hs ds img ∧ Blk wr w.heap.size #[I 6, I A, I B, I C, .string s, .string t] 38 ∧ Blk wr (w.heap.size + 1) #[I 0, I 0, I 0, S []] 42 ∧ Below w.heap.size w wr) (fun _ _ ix _ => (intOf ix + 1).toNat)
  case atStart => exact ⟨0, by omega, rfl, rfl, rfl, h.later b0, BO, BA, b0⟩
  case round =>
    clear BO BA b0
    obtain ⟨q, hq, rfl, rfl, rfl, hr, BO, BA, br⟩ := hrel
    have hle := hiS_le u q
    by_cases hlt : q < 8
    · obtain ⟨i9, hi⟩ : ∃ i9, i9 = 7 - q := ⟨_, rfl⟩
      have hi8 : i9 < 8 := by omega
      have c0 := hr.used ht i9 hi8
      have e1 : (7 : Int) - (q : Int) = (i9 : Int) := by omega
      have hst : hiS u (q + 1) = if u.testBit i9 then ((hiS u q).1 + 1, (hiS u q).2) else ((hiS u q).1, ((i9 : Nat) : Int)) := by rw [hi]; rfl
      rw [e1]
      have q1 : (i9 : Int) < 8 := by omega
      have q2 : 0 ≤ (i9 : Int) := by omega
      have HI : Hid (((i9 : Int) - 1) = 7 - ((q + 1 : Nat) : Int)) := by show _ = _; omega
      have w1 := wr64 ((i9 : Int) - 1) (by omega) (by omega)
      clear e1 hi
      cases hb9 : u.testBit i9 with
      | true =>
        rw [hb9, if_pos rfl] at hst
        rw [hb9] at c0
        have HS : Hid _ := hst
        clear hst
        obtain ⟨a1, ha1⟩ : ∃ a1, a1 = (hiS u q).1 := ⟨_, rfl⟩
        have w2 := wr64 ((a1 : Int) + 1) (by omega) (by omega)
        rw [← ha1]
        have HA1 : Hid _ := ha1
        clear ha1
        go_wp2
        go_roundw
        case rel => exact ⟨q + 1, by omega, by rw [HS.out, ← HA1.out]; go_num, by rw [HS.out], congrArg (Value.int .i64) HI.out, hr, BO, BA, br⟩
        case measure => simp [intOf]
      | false =>
        rw [hb9, if_neg (by simp)] at hst
        rw [hb9] at c0
        have HS : Hid _ := hst
        clear hst
        go_wp2
        go_roundw
        case rel => exact ⟨q + 1, by omega, by rw [HS.out], by rw [HS.out], congrArg (Value.int .i64) HI.out, hr, BO, BA, br⟩
        case measure => simp [intOf]
    · obtain rfl : q = 8 := by omega
      obtain ⟨hf1, hf2⟩ := HF.out
      rw [hf1, hf2, show (7 : Int) - ((8 : Nat) : Int) = -1 from rfl]
      clear hf1 hf2 HF hle
      obtain ⟨o0, o1, o2⟩ := BO.facts
      have U : Upd [g] w wr := Upd.of_below br
      obtain ⟨r0, r1, r2⟩ := BA.facts
      rcases hA with hA | hA
      · go_wp2
        have BA2 := (((((BA.set (i := 0) (I 2)).set (i := 1) (I 0)).set (i := 2) (I 0)).set (i := 3) (S [])).old (.cells #[I 2, I 0, I 0, S []] 42)).old (.cells #[I 0, I 0, I 0, I 0, I 0] 27)
        exact ret_row Try.results43 rfl rfl BA2 Try.underlying42 rfl (by kernel_rfl) ⟨rfl, hr.upd (bs := [w.heap.size + 1]) (((((((Upd.refl _ _).setCell (by simp) _).setCell (by simp) _).setCell (by simp) _).setCell (by simp) _).alloc _).alloc _) (by simp; omega), ((((((U.setCell (.inr (Nat.le_succ _)) _).setCell (.inr (Nat.le_succ _)) _).setCell (.inr (Nat.le_succ _)) _).setCell (.inr (Nat.le_succ _)) _).alloc _).alloc _)⟩
      · have hA0 : ¬ A < 0 := by omega
        go_wp2
        have BA2 := (((((BA.set (i := 0) (I 2)).set (i := 1) (I 0)).set (i := 2) (I 0)).set (i := 3) (S [])).old (.cells #[I 2, I 0, I 0, S []] 42)).old (.cells #[I 0, I 0, I 0, I 0, I 0] 27)
        exact ret_row Try.results43 rfl rfl BA2 Try.underlying42 rfl (by kernel_rfl) ⟨rfl, hr.upd (bs := [w.heap.size + 1]) (((((((Upd.refl _ _).setCell (by simp) _).setCell (by simp) _).setCell (by simp) _).setCell (by simp) _).alloc _).alloc _) (by simp; omega), ((((((U.setCell (.inr (Nat.le_succ _)) _).setCell (.inr (Nat.le_succ _)) _).setCell (.inr (Nat.le_succ _)) _).setCell (.inr (Nat.le_succ _)) _).alloc _).alloc _)⟩
set_option maxRecDepth 100000 in
set_option maxHeartbeats 4000000 in
theorem owed_7none (w : World) (g : Nat) (us : List Bool) (hs ds : List Int) (img : List UInt8) (h : GhR w g us hs ds img) (u : Nat) (ws : List Nat) (ht : Tells u ws us hs) (hu : u < 256) (A B C : Int) (s t : ByteArray) (hA : A < 0 ∨ 8 ≤ A) :
    Calls Try.prog 43 #[ptr g, OpV 7 A B C s t] w fun e w' => e = .returned (AnsV 2 0 []) ∧ GhR w' g us hs ds img ∧ Upd [g] w w' := by
  obtain ⟨hf1, hf2⟩ := hiS_fin u hu
  have lg := h.head.lt
  have b0 := ((Below.refl w.heap.size w).alloc (Nat.le_refl _) (.cells #[I 7, I A, I B, I C, .string s, .string t] 38)).alloc (by simp) (.cells #[I 0, I 0, I 0, S []] 42)
  have BO : Blk ((w.alloc (.cells #[I 7, I A, I B, I C, .string s, .string t] 38)).alloc (.cells #[I 0, I 0, I 0, S []] 42)) w.heap.size #[I 7, I A, I B, I C, .string s, .string t] 38 := (Blk.new rfl).old _
  have BA : Blk ((w.alloc (.cells #[I 7, I A, I B, I C, .string s, .string t] 38)).alloc (.cells #[I 0, I 0, I 0, S []] 42)) (w.heap.size + 1) #[I 0, I 0, I 0, S []] 42 := Blk.new (by simp)
  have HF : Hid (_ ∧ _) := ⟨hf1, hf2⟩
  clear hf1 hf2
  go_enter Try.func43, Try.ntmps43
  go_wp2
  go_loopw [5, 6, 7] (fun n f ix wr => ∃ q : Nat, q ≤ 8 ∧ n = I ((hiS u q).1 : Nat) ∧ f = I (hiS u q).2 ∧ ix = I (7 - (q : Int)) ∧ GhR wr g us hs ds img ∧ Blk wr w.heap.size #[I 7, I A, I B, I C, .string s, .string t] 38 ∧ Blk wr (w.heap.size + 1) #[I 0, I 0, I 0, S []] 42 ∧ Below w.heap.size w wr) (fun _ _ ix _ => (intOf ix + 1).toNat)
  case atStart => exact ⟨0, by omega, rfl, rfl, rfl, h.later b0, BO, BA, b0⟩
  case round =>
    clear BO BA b0
    obtain ⟨q, hq, rfl, rfl, rfl, hr, BO, BA, br⟩ := hrel
    have hle := hiS_le u q
    by_cases hlt : q < 8
    · obtain ⟨i9, hi⟩ : ∃ i9, i9 = 7 - q := ⟨_, rfl⟩
      have hi8 : i9 < 8 := by omega
      have c0 := hr.used ht i9 hi8
      have e1 : (7 : Int) - (q : Int) = (i9 : Int) := by omega
      have hst : hiS u (q + 1) = if u.testBit i9 then ((hiS u q).1 + 1, (hiS u q).2) else ((hiS u q).1, ((i9 : Nat) : Int)) := by rw [hi]; rfl
      rw [e1]
      have q1 : (i9 : Int) < 8 := by omega
      have q2 : 0 ≤ (i9 : Int) := by omega
      have HI : Hid (((i9 : Int) - 1) = 7 - ((q + 1 : Nat) : Int)) := by show _ = _; omega
      have w1 := wr64 ((i9 : Int) - 1) (by omega) (by omega)
      clear e1 hi
      cases hb9 : u.testBit i9 with
      | true =>
        rw [hb9, if_pos rfl] at hst
        rw [hb9] at c0
        have HS : Hid _ := hst
        clear hst
        obtain ⟨a1, ha1⟩ : ∃ a1, a1 = (hiS u q).1 := ⟨_, rfl⟩
        have w2 := wr64 ((a1 : Int) + 1) (by omega) (by omega)
        rw [← ha1]
        have HA1 : Hid _ := ha1
        clear ha1
        go_wp2
        go_roundw
        case rel => exact ⟨q + 1, by omega, by rw [HS.out, ← HA1.out]; go_num, by rw [HS.out], congrArg (Value.int .i64) HI.out, hr, BO, BA, br⟩
        case measure => simp [intOf]
      | false =>
        rw [hb9, if_neg (by simp)] at hst
        rw [hb9] at c0
        have HS : Hid _ := hst
        clear hst
        go_wp2
        go_roundw
        case rel => exact ⟨q + 1, by omega, by rw [HS.out], by rw [HS.out], congrArg (Value.int .i64) HI.out, hr, BO, BA, br⟩
        case measure => simp [intOf]
    · obtain rfl : q = 8 := by omega
      obtain ⟨hf1, hf2⟩ := HF.out
      rw [hf1, hf2, show (7 : Int) - ((8 : Nat) : Int) = -1 from rfl]
      clear hf1 hf2 HF hle
      obtain ⟨o0, o1, o2⟩ := BO.facts
      have U : Upd [g] w wr := Upd.of_below br
      obtain ⟨r0, r1, r2⟩ := BA.facts
      rcases hA with hA | hA
      · go_wp2
        have BA2 := (((((BA.set (i := 0) (I 2)).set (i := 1) (I 0)).set (i := 2) (I 0)).set (i := 3) (S [])).old (.cells #[I 2, I 0, I 0, S []] 42)).old (.cells #[I 0, I 0, I 0, I 0, I 0] 27)
        exact ret_row Try.results43 rfl rfl BA2 Try.underlying42 rfl (by kernel_rfl) ⟨rfl, hr.upd (bs := [w.heap.size + 1]) (((((((Upd.refl _ _).setCell (by simp) _).setCell (by simp) _).setCell (by simp) _).setCell (by simp) _).alloc _).alloc _) (by simp; omega), ((((((U.setCell (.inr (Nat.le_succ _)) _).setCell (.inr (Nat.le_succ _)) _).setCell (.inr (Nat.le_succ _)) _).setCell (.inr (Nat.le_succ _)) _).alloc _).alloc _)⟩
      · have hA0 : ¬ A < 0 := by omega
        go_wp2
        have BA2 := (((((BA.set (i := 0) (I 2)).set (i := 1) (I 0)).set (i := 2) (I 0)).set (i := 3) (S [])).old (.cells #[I 2, I 0, I 0, S []] 42)).old (.cells #[I 0, I 0, I 0, I 0, I 0] 27)
        exact ret_row Try.results43 rfl rfl BA2 Try.underlying42 rfl (by kernel_rfl) ⟨rfl, hr.upd (bs := [w.heap.size + 1]) (((((((Upd.refl _ _).setCell (by simp) _).setCell (by simp) _).setCell (by simp) _).setCell (by simp) _).alloc _).alloc _) (by simp; omega), ((((((U.setCell (.inr (Nat.le_succ _)) _).setCell (.inr (Nat.le_succ _)) _).setCell (.inr (Nat.le_succ _)) _).setCell (.inr (Nat.le_succ _)) _).alloc _).alloc _)⟩
set_option maxRecDepth 100000 in
set_option maxHeartbeats 4000000 in
theorem owed_6free (w : World) (g : Nat) (us : List Bool) (hs ds : List Int) (img : List UInt8) (h : GhR w g us hs ds img) (u : Nat) (ws : List Nat) (ht : Tells u ws us hs) (hu : u < 256) (i : Nat) (hi : i < 8) (B C : Int) (s t : ByteArray) (hb : u.testBit i = false) :
    Calls Try.prog 43 #[ptr g, OpV 6 (i : Int) B C s t] w fun e w' => e = .returned (AnsV 8 0 []) ∧ GhR w' g us hs ds img ∧ Upd [g] w w' := by
  obtain ⟨hf1, hf2⟩ := hiS_fin u hu
  have lg := h.head.lt
  have b0 := ((Below.refl w.heap.size w).alloc (Nat.le_refl _) (.cells #[I 6, I (i : Int), I B, I C, .string s, .string t] 38)).alloc (by simp) (.cells #[I 0, I 0, I 0, S []] 42)
  have BO : Blk ((w.alloc (.cells #[I 6, I (i : Int), I B, I C, .string s, .string t] 38)).alloc (.cells #[I 0, I 0, I 0, S []] 42)) w.heap.size #[I 6, I (i : Int), I B, I C, .string s, .string t] 38 := (Blk.new rfl).old _
  have BA : Blk ((w.alloc (.cells #[I 6, I (i : Int), I B, I C, .string s, .string t] 38)).alloc (.cells #[I 0, I 0, I 0, S []] 42)) (w.heap.size + 1) #[I 0, I 0, I 0, S []] 42 := Blk.new (by simp)
  have HF : Hid (_ ∧ _) := ⟨hf1, hf2⟩
  clear hf1 hf2
  go_enter Try.func43, Try.ntmps43
  go_wp2
  go_loopw [5, 6, 7] (fun n f ix wr => ∃ q : Nat, q ≤ 8 ∧ n = I ((hiS u q).1 : Nat) ∧ f = I (hiS u q).2 ∧ ix = I (7 - (q : Int)) ∧ GhR wr g us hs ds img ∧ Blk wr w.heap.size #[I 6, I (i : Int), I B, I C, .string s, .string t] 38 ∧ Blk wr (w.heap.size + 1) #[I 0, I 0, I 0, S []] 42 ∧ Below w.heap.size w wr) (fun _ _ ix _ => (intOf ix + 1).toNat)
  case atStart => exact ⟨0, by omega, rfl, rfl, rfl, h.later b0, BO, BA, b0⟩
  case round =>
    clear BO BA b0
    obtain ⟨q, hq, rfl, rfl, rfl, hr, BO, BA, br⟩ := hrel
    have hle := hiS_le u q
    by_cases hlt : q < 8
    · obtain ⟨i9, hi⟩ : ∃ i9, i9 = 7 - q := ⟨_, rfl⟩
      have hi8 : i9 < 8 := by omega
      have c0 := hr.used ht i9 hi8
      have e1 : (7 : Int) - (q : Int) = (i9 : Int) := by omega
      have hst : hiS u (q + 1) = if u.testBit i9 then ((hiS u q).1 + 1, (hiS u q).2) else ((hiS u q).1, ((i9 : Nat) : Int)) := by rw [hi]; rfl
      rw [e1]
      have q1 : (i9 : Int) < 8 := by omega
      have q2 : 0 ≤ (i9 : Int) := by omega
      have HI : Hid (((i9 : Int) - 1) = 7 - ((q + 1 : Nat) : Int)) := by show _ = _; omega
      have w1 := wr64 ((i9 : Int) - 1) (by omega) (by omega)
      clear e1 hi
      cases hb9 : u.testBit i9 with
      | true =>
        rw [hb9, if_pos rfl] at hst
        rw [hb9] at c0
        have HS : Hid _ := hst
        clear hst
        obtain ⟨a1, ha1⟩ : ∃ a1, a1 = (hiS u q).1 := ⟨_, rfl⟩
        have w2 := wr64 ((a1 : Int) + 1) (by omega) (by omega)
        rw [← ha1]
        have HA1 : Hid _ := ha1
        clear ha1
        go_wp2
        go_roundw
        case rel => exact ⟨q + 1, by omega, by rw [HS.out, ← HA1.out]; go_num, by rw [HS.out], congrArg (Value.int .i64) HI.out, hr, BO, BA, br⟩
        case measure => simp [intOf]
      | false =>
        rw [hb9, if_neg (by simp)] at hst
        rw [hb9] at c0
        have HS : Hid _ := hst
        clear hst
        go_wp2
        go_roundw
        case rel => exact ⟨q + 1, by omega, by rw [HS.out], by rw [HS.out], congrArg (Value.int .i64) HI.out, hr, BO, BA, br⟩
        case measure => simp [intOf]
    · obtain rfl : q = 8 := by omega
      obtain ⟨hf1, hf2⟩ := HF.out
      rw [hf1, hf2, show (7 : Int) - ((8 : Nat) : Int) = -1 from rfl]
      clear hf1 hf2 HF hle
      obtain ⟨o0, o1, o2⟩ := BO.facts
      have U : Upd [g] w wr := Upd.of_below br
      obtain ⟨r0, r1, r2⟩ := BA.facts
      have c0 := hr.used ht i hi
      rw [hb] at c0
      have q1 : (i : Int) < 8 := by omega
      have q2 : ¬ (i : Int) < 0 := by omega
      have q3 : ¬ (8 : Int) ≤ (i : Int) := by omega
      have lg2 : g < wr.heap.size := hr.head.lt
      have hn1 : g ≠ wr.heap.size := by omega
      have hn2 : g ≠ wr.heap.size + 1 := by omega
      have hn3 : g ≠ w.heap.size + 1 := by omega
      go_wp2_with fail
      go_region
      go_wp2
      have BA2 := (((((BA.set (i := 0) (I 8)).set (i := 1) (I 0)).set (i := 2) (I 0)).set (i := 3) (S [])).old (.cells #[I 8, I 0, I 0, S []] 42)).old (.cells #[I 0, I 0, I 0, I 0, I 0] 27)
      exact ret_row Try.results43 rfl rfl BA2.drew Try.underlying42 rfl (by kernel_rfl) ⟨rfl, hr.upd (bs := [w.heap.size + 1]) (((((((Upd.refl _ _).setCell (by simp) _).setCell (by simp) _).setCell (by simp) _).setCell (by simp) _).alloc _).alloc _).drew (by simp; omega), ((((((U.setCell (.inr (Nat.le_succ _)) _).setCell (.inr (Nat.le_succ _)) _).setCell (.inr (Nat.le_succ _)) _).setCell (.inr (Nat.le_succ _)) _).alloc _).alloc _).drew⟩
set_option maxRecDepth 100000 in
set_option maxHeartbeats 4000000 in
theorem owed_7free (w : World) (g : Nat) (us : List Bool) (hs ds : List Int) (img : List UInt8) (h : GhR w g us hs ds img) (u : Nat) (ws : List Nat) (ht : Tells u ws us hs) (hu : u < 256) (i : Nat) (hi : i < 8) (B C : Int) (s t : ByteArray) (hb : u.testBit i = false) :
    Calls Try.prog 43 #[ptr g, OpV 7 (i : Int) B C s t] w fun e w' => e = .returned (AnsV 8 0 []) ∧ GhR w' g us hs ds img ∧ Upd [g] w w' := by
  obtain ⟨hf1, hf2⟩ := hiS_fin u hu
  have lg := h.head.lt
  have b0 := ((Below.refl w.heap.size w).alloc (Nat.le_refl _) (.cells #[I 7, I (i : Int), I B, I C, .string s, .string t] 38)).alloc (by simp) (.cells #[I 0, I 0, I 0, S []] 42)
  have BO : Blk ((w.alloc (.cells #[I 7, I (i : Int), I B, I C, .string s, .string t] 38)).alloc (.cells #[I 0, I 0, I 0, S []] 42)) w.heap.size #[I 7, I (i : Int), I B, I C, .string s, .string t] 38 := (Blk.new rfl).old _
  have BA : Blk ((w.alloc (.cells #[I 7, I (i : Int), I B, I C, .string s, .string t] 38)).alloc (.cells #[I 0, I 0, I 0, S []] 42)) (w.heap.size + 1) #[I 0, I 0, I 0, S []] 42 := Blk.new (by simp)
  have HF : Hid (_ ∧ _) := ⟨hf1, hf2⟩
  clear hf1 hf2
  go_enter Try.func43, Try.ntmps43
  go_wp2
  go_loopw [5, 6, 7] (fun n f ix wr => ∃ q : Nat, q ≤ 8 ∧ n = I ((hiS u q).1 : Nat) ∧ f = I (hiS u q).2 ∧ ix = I (7 - (q : Int)) ∧ GhR wr g us hs ds img ∧ Blk wr w.heap.size #[I 7, I (i : Int), I B, I C, .string s, .string t] 38 ∧ Blk wr (w.heap.size + 1) #[I 0, I 0, I 0, S []] 42 ∧ Below w.heap.size w wr) (fun _ _ ix _ => (intOf ix + 1).toNat)
  case atStart => exact ⟨0, by omega, rfl, rfl, rfl, h.later b0, BO, BA, b0⟩
  case round =>
    clear BO BA b0
    obtain ⟨q, hq, rfl, rfl, rfl, hr, BO, BA, br⟩ := hrel
    have hle := hiS_le u q
    by_cases hlt : q < 8
    · obtain ⟨i9, hi⟩ : ∃ i9, i9 = 7 - q := ⟨_, rfl⟩
      have hi8 : i9 < 8 := by omega
      have c0 := hr.used ht i9 hi8
      have e1 : (7 : Int) - (q : Int) = (i9 : Int) := by omega
      have hst : hiS u (q + 1) = if u.testBit i9 then ((hiS u q).1 + 1, (hiS u q).2) else ((hiS u q).1, ((i9 : Nat) : Int)) := by rw [hi]; rfl
      rw [e1]
      have q1 : (i9 : Int) < 8 := by omega
      have q2 : 0 ≤ (i9 : Int) := by omega
      have HI : Hid (((i9 : Int) - 1) = 7 - ((q + 1 : Nat) : Int)) := by show _ = _; omega
      have w1 := wr64 ((i9 : Int) - 1) (by omega) (by omega)
      clear e1 hi
      cases hb9 : u.testBit i9 with
      | true =>
        rw [hb9, if_pos rfl] at hst
        rw [hb9] at c0
        have HS : Hid _ := hst
        clear hst
        obtain ⟨a1, ha1⟩ : ∃ a1, a1 = (hiS u q).1 := ⟨_, rfl⟩
        have w2 := wr64 ((a1 : Int) + 1) (by omega) (by omega)
        rw [← ha1]
        have HA1 : Hid _ := ha1
        clear ha1
        go_wp2
        go_roundw
        case rel => exact ⟨q + 1, by omega, by rw [HS.out, ← HA1.out]; go_num, by rw [HS.out], congrArg (Value.int .i64) HI.out, hr, BO, BA, br⟩
        case measure => simp [intOf]
      | false =>
        rw [hb9, if_neg (by simp)] at hst
        rw [hb9] at c0
        have HS : Hid _ := hst
        clear hst
        go_wp2
        go_roundw
        case rel => exact ⟨q + 1, by omega, by rw [HS.out], by rw [HS.out], congrArg (Value.int .i64) HI.out, hr, BO, BA, br⟩
        case measure => simp [intOf]
    · obtain rfl : q = 8 := by omega
      obtain ⟨hf1, hf2⟩ := HF.out
      rw [hf1, hf2, show (7 : Int) - ((8 : Nat) : Int) = -1 from rfl]
      clear hf1 hf2 HF hle
      obtain ⟨o0, o1, o2⟩ := BO.facts
      have U : Upd [g] w wr := Upd.of_below br
      obtain ⟨r0, r1, r2⟩ := BA.facts
      have c0 := hr.used ht i hi
      rw [hb] at c0
      have q1 : (i : Int) < 8 := by omega
      have q2 : ¬ (i : Int) < 0 := by omega
      have q3 : ¬ (8 : Int) ≤ (i : Int) := by omega
      have lg2 : g < wr.heap.size := hr.head.lt
      have hn1 : g ≠ wr.heap.size := by omega
      have hn2 : g ≠ wr.heap.size + 1 := by omega
      have hn3 : g ≠ w.heap.size + 1 := by omega
      go_wp2_with fail
      go_region
      go_wp2
      have BA2 := (((((BA.set (i := 0) (I 8)).set (i := 1) (I 0)).set (i := 2) (I 0)).set (i := 3) (S [])).old (.cells #[I 8, I 0, I 0, S []] 42)).old (.cells #[I 0, I 0, I 0, I 0, I 0] 27)
      exact ret_row Try.results43 rfl rfl BA2.drew Try.underlying42 rfl (by kernel_rfl) ⟨rfl, hr.upd (bs := [w.heap.size + 1]) (((((((Upd.refl _ _).setCell (by simp) _).setCell (by simp) _).setCell (by simp) _).setCell (by simp) _).alloc _).alloc _).drew (by simp; omega), ((((((U.setCell (.inr (Nat.le_succ _)) _).setCell (.inr (Nat.le_succ _)) _).setCell (.inr (Nat.le_succ _)) _).setCell (.inr (Nat.le_succ _)) _).alloc _).alloc _).drew⟩
set_option maxRecDepth 100000 in
set_option maxHeartbeats 4000000 in
theorem owed_6used (w : World) (g : Nat) (us : List Bool) (hs ds : List Int) (img : List UInt8) (h : GhR w g us hs ds img) (u : Nat) (ws : List Nat) (ht : Tells u ws us hs) (hu : u < 256) (i : Nat) (hi : i < 8) (B C : Int) (s t : ByteArray) (hb : u.testBit i = true) :
    Calls Try.prog 43 #[ptr g, OpV 6 (i : Int) B C s t] w fun e w' => e = .returned (AnsV 0 0 []) ∧ GhR w' g (us.set i false) hs ds img ∧ Upd [g] w w' := by
  obtain ⟨hf1, hf2⟩ := hiS_fin u hu
  have lg := h.head.lt
  have b0 := ((Below.refl w.heap.size w).alloc (Nat.le_refl _) (.cells #[I 6, I (i : Int), I B, I C, .string s, .string t] 38)).alloc (by simp) (.cells #[I 0, I 0, I 0, S []] 42)
  have BO : Blk ((w.alloc (.cells #[I 6, I (i : Int), I B, I C, .string s, .string t] 38)).alloc (.cells #[I 0, I 0, I 0, S []] 42)) w.heap.size #[I 6, I (i : Int), I B, I C, .string s, .string t] 38 := (Blk.new rfl).old _
  have BA : Blk ((w.alloc (.cells #[I 6, I (i : Int), I B, I C, .string s, .string t] 38)).alloc (.cells #[I 0, I 0, I 0, S []] 42)) (w.heap.size + 1) #[I 0, I 0, I 0, S []] 42 := Blk.new (by simp)
  have HF : Hid (_ ∧ _) := ⟨hf1, hf2⟩
  clear hf1 hf2
  go_enter Try.func43, Try.ntmps43
  go_wp2
  go_loopw [5, 6, 7] (fun n f ix wr => ∃ q : Nat, q ≤ 8 ∧ n = I ((hiS u q).1 : Nat) ∧ f = I (hiS u q).2 ∧ ix = I (7 - (q : Int)) ∧ GhR wr g us hs ds img ∧ Blk wr w.heap.size #[I 6, I (i : Int), I B, I C, .string s, .string t] 38 ∧ Blk wr (w.heap.size + 1) #[I 0, I 0, I 0, S []] 42 ∧ Below w.heap.size w wr) (fun _ _ ix _ => (intOf ix + 1).toNat)
  case atStart => exact ⟨0, by omega, rfl, rfl, rfl, h.later b0, BO, BA, b0⟩
  case round =>
    clear BO BA b0
    obtain ⟨q, hq, rfl, rfl, rfl, hr, BO, BA, br⟩ := hrel
    have hle := hiS_le u q
    by_cases hlt : q < 8
    · obtain ⟨i9, hi⟩ : ∃ i9, i9 = 7 - q := ⟨_, rfl⟩
      have hi8 : i9 < 8 := by omega
      have c0 := hr.used ht i9 hi8
      have e1 : (7 : Int) - (q : Int) = (i9 : Int) := by omega
      have hst : hiS u (q + 1) = if u.testBit i9 then ((hiS u q).1 + 1, (hiS u q).2) else ((hiS u q).1, ((i9 : Nat) : Int)) := by rw [hi]; rfl
      rw [e1]
      have q1 : (i9 : Int) < 8 := by omega
      have q2 : 0 ≤ (i9 : Int) := by omega
      have HI : Hid (((i9 : Int) - 1) = 7 - ((q + 1 : Nat) : Int)) := by show _ = _; omega
      have w1 := wr64 ((i9 : Int) - 1) (by omega) (by omega)
      clear e1 hi
      cases hb9 : u.testBit i9 with
      | true =>
        rw [hb9, if_pos rfl] at hst
        rw [hb9] at c0
        have HS : Hid _ := hst
        clear hst
        obtain ⟨a1, ha1⟩ : ∃ a1, a1 = (hiS u q).1 := ⟨_, rfl⟩
        have w2 := wr64 ((a1 : Int) + 1) (by omega) (by omega)
        rw [← ha1]
        have HA1 : Hid _ := ha1
        clear ha1
        go_wp2
        go_roundw
        case rel => exact ⟨q + 1, by omega, by rw [HS.out, ← HA1.out]; go_num, by rw [HS.out], congrArg (Value.int .i64) HI.out, hr, BO, BA, br⟩
        case measure => simp [intOf]
      | false =>
        rw [hb9, if_neg (by simp)] at hst
        rw [hb9] at c0
        have HS : Hid _ := hst
        clear hst
        go_wp2
        go_roundw
        case rel => exact ⟨q + 1, by omega, by rw [HS.out], by rw [HS.out], congrArg (Value.int .i64) HI.out, hr, BO, BA, br⟩
        case measure => simp [intOf]
    · obtain rfl : q = 8 := by omega
      obtain ⟨hf1, hf2⟩ := HF.out
      rw [hf1, hf2, show (7 : Int) - ((8 : Nat) : Int) = -1 from rfl]
      clear hf1 hf2 HF hle
      obtain ⟨o0, o1, o2⟩ := BO.facts
      have U : Upd [g] w wr := Upd.of_below br
      obtain ⟨r0, r1, r2⟩ := BA.facts
      have c0 := hr.used ht i hi
      rw [hb] at c0
      have q1 : (i : Int) < 8 := by omega
      have q2 : ¬ (i : Int) < 0 := by omega
      have q3 : ¬ (8 : Int) ≤ (i : Int) := by omega
      have lg2 : g < wr.heap.size := hr.head.lt
      have hn1 : g ≠ wr.heap.size := by omega
      have hn2 : g ≠ wr.heap.size + 1 := by omega
      have hn3 : g ≠ w.heap.size + 1 := by omega
      have c1 := hr.head.frozen i
      go_wp2_with fail
      go_region
      go_wp2_with fail
      go_region
      go_wp2
      have hn4 : w.heap.size + 1 ≠ g := fun e => hn3 e.symm
      have BA2 := ((((((BA.other (a := ⟨g, i, none⟩) hn4 (.bool false)).set (i := 0) (I 0)).set (i := 1) (I 0)).set (i := 2) (I 0)).set (i := 3) (S [])).old (.cells #[I 0, I 0, I 0, S []] 42)).old (.cells #[I 0, I 0, I 0, I 0, I 0] 27)
      exact ret_row Try.results43 rfl rfl BA2.drew.drew Try.underlying42 rfl (by kernel_rfl) ⟨rfl, (hr.setu i false hi).upd (bs := [w.heap.size + 1]) ((((((((Upd.refl _ _).setCell (by simp) _).setCell (by simp) _).setCell (by simp) _).setCell (by simp) _).alloc _).alloc _).drew.drew) (by simp; omega), (((((((U.setCell (.inl (by simp)) _).setCell (.inr (Nat.le_succ _)) _).setCell (.inr (Nat.le_succ _)) _).setCell (.inr (Nat.le_succ _)) _).setCell (.inr (Nat.le_succ _)) _).alloc _).alloc _).drew.drew⟩
end Go.Proofs.Qxb6500468a
