import Derived.Test.Qxb6500468aPk16
import Derived.BigQuiet
namespace Go.Proofs.Qxb6500468a
open Go.RowKit

set_option maxRecDepth 100000 in
set_option maxHeartbeats 4000000 in
theorem owed_5none (w : World) (g : Nat) (us : List Bool) (hs ds : List Int) (img : List UInt8) (h : GhR w g us hs ds img) (u : Nat) (ws : List Nat) (ht : Tells u ws us hs) (hu : u < 256) (A B C : Int) (s t : ByteArray) (hA : A < 0 ∨ 8 ≤ A) :
    Calls Try.prog 43 #[ptr g, OpV 5 A B C s t] w fun e w' => e = .returned (AnsV 2 0 (shH 0 0 0 0 0)) ∧ GhR w' g us hs ds img ∧ Upd [g] w w' := by
  obtain ⟨hf1, hf2⟩ := hiS_fin u hu
  have lg := h.head.lt
  have b0 := ((Below.refl w.heap.size w).alloc (Nat.le_refl _) (.cells #[I 5, I A, I B, I C, .string s, .string t] 38)).alloc (by simp) (.cells #[I 0, I 0, I 0, S []] 42)
  have BO : Blk ((w.alloc (.cells #[I 5, I A, I B, I C, .string s, .string t] 38)).alloc (.cells #[I 0, I 0, I 0, S []] 42)) w.heap.size #[I 5, I A, I B, I C, .string s, .string t] 38 := (Blk.new rfl).old _
  have BA : Blk ((w.alloc (.cells #[I 5, I A, I B, I C, .string s, .string t] 38)).alloc (.cells #[I 0, I 0, I 0, S []] 42)) (w.heap.size + 1) #[I 0, I 0, I 0, S []] 42 := Blk.new (by simp)
  have HF : Hid (_ ∧ _) := ⟨hf1, hf2⟩
  clear hf1 hf2
  go_enter Try.func43, Try.ntmps43
  go_wp2
  go_loopw [5, 6, 7] (fun n f ix wr => ∃ q : Nat, q ≤ 8 ∧ n = I ((hiS u q).1 : Nat) ∧ f = I (hiS u q).2 ∧ ix = I (7 - (q : Int)) ∧ GhR wr g us hs ds img ∧ Blk wr w.heap.size #[I 5, I A, I B, I C, .string s, .string t] 38 ∧ Blk wr (w.heap.size + 1) #[I 0, I 0, I 0, S []] 42 ∧ Below w.heap.size w wr) (fun _ _ ix _ => (intOf ix + 1).toNat)
  case atStart => exact ⟨0, by omega, rfl, rfl, rfl, h.later b0, BO, BA, b0⟩
  case round =>
    clear BO BA b0
    obtain ⟨q, hq, rfl, rfl, rfl, hr, BO, BA, br⟩ := hrel
    have hle := hiS_le u q
    by_cases hlt : q < 8
    · obtain ⟨i9, hi⟩ : ∃ i9, i9 = 7 - q := ⟨_, rfl⟩
      have hi8 : i9 < 8 := by omega
      have c0 := hr.used ht i9 hi8
      have e1 : (7 : Int) - (q : Int) = (i9 : Int) := by omega
      have hst : hiS u (q + 1) = if u.testBit i9 then ((hiS u q).1 + 1, (hiS u q).2) else ((hiS u q).1, ((i9 : Nat) : Int)) := by rw [hi]; rfl
      rw [e1]
      have q1 : (i9 : Int) < 8 := by omega
      have q2 : 0 ≤ (i9 : Int) := by omega
      have HI : Hid (((i9 : Int) - 1) = 7 - ((q + 1 : Nat) : Int)) := by show _ = _; omega
      have w1 := wr64 ((i9 : Int) - 1) (by omega) (by omega)
      clear e1 hi
      cases hb9 : u.testBit i9 with
      | true =>
        rw [hb9, if_pos rfl] at hst
        rw [hb9] at c0
        have HS : Hid _ := hst
        clear hst
        obtain ⟨a1, ha1⟩ : ∃ a1, a1 = (hiS u q).1 := ⟨_, rfl⟩
        have w2 := wr64 ((a1 : Int) + 1) (by omega) (by omega)
        rw [← ha1]
        have HA1 : Hid _ := ha1
        clear ha1
        go_wp2
        go_roundw
        case rel => exact ⟨q + 1, by omega, by rw [HS.out, ← HA1.out]; go_num, by rw [HS.out], congrArg (Value.int .i64) HI.out, hr, BO, BA, br⟩
        case measure => simp [intOf]
      | false =>
        rw [hb9, if_neg (by simp)] at hst
        rw [hb9] at c0
        have HS : Hid _ := hst
        clear hst
        go_wp2
        go_roundw
        case rel => exact ⟨q + 1, by omega, by rw [HS.out], by rw [HS.out], congrArg (Value.int .i64) HI.out, hr, BO, BA, br⟩
        case measure => simp [intOf]
    · obtain rfl : q = 8 := by omega
      obtain ⟨hf1, hf2⟩ := HF.out
      rw [hf1, hf2, show (7 : Int) - ((8 : Nat) : Int) = -1 from rfl]
      clear hf1 hf2 HF hle
      obtain ⟨o0, o1, o2⟩ := BO.facts
      have U : Upd [g] w wr := Upd.of_below br
      obtain ⟨r0, r1, r2⟩ := BA.facts
      have lg2 : g < wr.heap.size := hr.head.lt
      rcases hA with hA | hA
      · go_wp2_with fail
        have aB := (((Below.refl wr.heap.size wr).alloc (Nat.le_refl _) (.cells #[I 2, I 0, I 0, .string { data := #[] }] 42)).alloc (by simp) (.cells #[I 0, I 0, I 0, I 0, I 0] 27))
        have BAN : Blk ((wr.alloc (.cells #[I 2, I 0, I 0, .string { data := #[] }] 42)).alloc (.cells #[I 0, I 0, I 0, I 0, I 0] 27)) wr.heap.size #[I 2, I 0, I 0, .string { data := #[] }] 42 := ((Blk.new rfl).old _)
        have hr1 := hr.later aB
        have BA1 := BA.below aB BA.lt
        have U1 : Upd [g] w _ := U.trans (Upd.of_below aB)
        clear r0 r1 o0 o1 BO
        generalize ((wr.alloc (.cells #[I 2, I 0, I 0, .string { data := #[] }] 42)).alloc (.cells #[I 0, I 0, I 0, I 0, I 0] 27)) = v1 at *
        have hx : wr.heap.size ≠ w.heap.size + 1 := by omega
        generalize wr.heap.size = AN at *
        refine (showH_any 0 0 0 0 0 (by unfold in64; omega) (by unfold in64; omega) (by unfold in64; omega) (by unfold in64; omega) (by unfold in64; omega) v1).mono ?_
        rintro e w3 ⟨rfl, b3⟩
        have hr3 := hr1.later b3
        have BAN3 := BAN.below b3 BAN.lt
        have BA3 := BA1.below b3 BA1.lt
        have U3 : Upd [g] w w3 := U1.trans (Upd.of_below b3)
        have lan := BAN.lt
        clear BAN BA1 U1 hr1 aB
        obtain ⟨n0, n1, n2⟩ := BAN3.facts
        obtain ⟨t0, t1, t2⟩ := BA3.facts
        have hx2 : w.heap.size + 1 ≠ AN := fun e => hx e.symm
        go_wp2
        have BA2 := ((((BA3.other (a := ⟨AN, 3, none⟩) hx2 (S (shH 0 0 0 0 0))).set (i := 0) (I 2)).set (i := 1) (I 0)).set (i := 2) (I 0)).set (i := 3) (S (shH 0 0 0 0 0))
        exact ret_row Try.results43 rfl rfl BA2 Try.underlying42 rfl (by kernel_rfl) ⟨rfl, hr3.upd (bs := [AN, w.heap.size + 1]) ((((((Upd.refl _ _).setCell (by simp) _).setCell (by simp) _).setCell (by simp) _).setCell (by simp) _).setCell (by simp) _) (by simp; omega), ((((U3.setCell (.inr (by show w.heap.size ≤ AN; omega)) _).setCell (.inr (Nat.le_succ _)) _).setCell (.inr (Nat.le_succ _)) _).setCell (.inr (Nat.le_succ _)) _).setCell (.inr (Nat.le_succ _)) _⟩
      · have hA0 : ¬ A < 0 := by omega
        go_wp2_with fail
        have aB := (((Below.refl wr.heap.size wr).alloc (Nat.le_refl _) (.cells #[I 2, I 0, I 0, .string { data := #[] }] 42)).alloc (by simp) (.cells #[I 0, I 0, I 0, I 0, I 0] 27))
        have BAN : Blk ((wr.alloc (.cells #[I 2, I 0, I 0, .string { data := #[] }] 42)).alloc (.cells #[I 0, I 0, I 0, I 0, I 0] 27)) wr.heap.size #[I 2, I 0, I 0, .string { data := #[] }] 42 := ((Blk.new rfl).old _)
        have hr1 := hr.later aB
        have BA1 := BA.below aB BA.lt
        have U1 : Upd [g] w _ := U.trans (Upd.of_below aB)
        clear r0 r1 o0 o1 BO
        generalize ((wr.alloc (.cells #[I 2, I 0, I 0, .string { data := #[] }] 42)).alloc (.cells #[I 0, I 0, I 0, I 0, I 0] 27)) = v1 at *
        have hx : wr.heap.size ≠ w.heap.size + 1 := by omega
        generalize wr.heap.size = AN at *
        refine (showH_any 0 0 0 0 0 (by unfold in64; omega) (by unfold in64; omega) (by unfold in64; omega) (by unfold in64; omega) (by unfold in64; omega) v1).mono ?_
        rintro e w3 ⟨rfl, b3⟩
        have hr3 := hr1.later b3
        have BAN3 := BAN.below b3 BAN.lt
        have BA3 := BA1.below b3 BA1.lt
        have U3 : Upd [g] w w3 := U1.trans (Upd.of_below b3)
        have lan := BAN.lt
        clear BAN BA1 U1 hr1 aB
        obtain ⟨n0, n1, n2⟩ := BAN3.facts
        obtain ⟨t0, t1, t2⟩ := BA3.facts
        have hx2 : w.heap.size + 1 ≠ AN := fun e => hx e.symm
        go_wp2
        have BA2 := ((((BA3.other (a := ⟨AN, 3, none⟩) hx2 (S (shH 0 0 0 0 0))).set (i := 0) (I 2)).set (i := 1) (I 0)).set (i := 2) (I 0)).set (i := 3) (S (shH 0 0 0 0 0))
        exact ret_row Try.results43 rfl rfl BA2 Try.underlying42 rfl (by kernel_rfl) ⟨rfl, hr3.upd (bs := [AN, w.heap.size + 1]) ((((((Upd.refl _ _).setCell (by simp) _).setCell (by simp) _).setCell (by simp) _).setCell (by simp) _).setCell (by simp) _) (by simp; omega), ((((U3.setCell (.inr (by show w.heap.size ≤ AN; omega)) _).setCell (.inr (Nat.le_succ _)) _).setCell (.inr (Nat.le_succ _)) _).setCell (.inr (Nat.le_succ _)) _).setCell (.inr (Nat.le_succ _)) _⟩
set_option maxRecDepth 100000 in
set_option maxHeartbeats 4000000 in
theorem owed_5free (w : World) (g : Nat) (us : List Bool) (hs ds : List Int) (img : List UInt8) (h : GhR w g us hs ds img) (u : Nat) (ws : List Nat) (ht : Tells u ws us hs) (hu : u < 256) (i : Nat) (hi : i < 8) (B C : Int) (s t : ByteArray) (hb : u.testBit i = false) :
    Calls Try.prog 43 #[ptr g, OpV 5 (i : Int) B C s t] w fun e w' => e = .returned (AnsV 8 0 (shH 0 0 0 0 0)) ∧ GhR w' g us hs ds img ∧ Upd [g] w w' := by
  obtain ⟨hf1, hf2⟩ := hiS_fin u hu
  have lg := h.head.lt
  have b0 := ((Below.refl w.heap.size w).alloc (Nat.le_refl _) (.cells #[I 5, I (i : Int), I B, I C, .string s, .string t] 38)).alloc (by simp) (.cells #[I 0, I 0, I 0, S []] 42)
  have BO : Blk ((w.alloc (.cells #[I 5, I (i : Int), I B, I C, .string s, .string t] 38)).alloc (.cells #[I 0, I 0, I 0, S []] 42)) w.heap.size #[I 5, I (i : Int), I B, I C, .string s, .string t] 38 := (Blk.new rfl).old _
  have BA : Blk ((w.alloc (.cells #[I 5, I (i : Int), I B, I C, .string s, .string t] 38)).alloc (.cells #[I 0, I 0, I 0, S []] 42)) (w.heap.size + 1) #[I 0, I 0, I 0, S []] 42 := Blk.new (by simp)
  have HF : Hid (_ ∧ _) := ⟨hf1, hf2⟩
  clear hf1 hf2
  go_enter Try.func43, Try.ntmps43
  go_wp2
  go_loopw [5, 6, 7] (fun n f ix wr => ∃ q : Nat, q ≤ 8 ∧ n = I ((hiS u q).1 : Nat) ∧ f = I (hiS u q).2 ∧ ix = I (7 - (q : Int)) ∧ GhR wr g us hs ds img ∧ Blk wr w.heap.size #[I 5, I (i : Int), I B, I C, .string s, .string t] 38 ∧ Blk wr (w.heap.size + 1) #[I 0, I 0, I 0, S []] 42 ∧ Below w.heap.size w wr) (fun _ _ ix _ => (intOf ix + 1).toNat)
  case atStart => exact ⟨0, by omega, rfl, rfl, rfl, h.later b0, BO, BA, b0⟩
  case round =>
    clear BO BA b0
    obtain ⟨q, hq, rfl, rfl, rfl, hr, BO, BA, br⟩ := hrel
    have hle := hiS_le u q
    by_cases hlt : q < 8
    · obtain ⟨i9, hi⟩ : ∃ i9, i9 = 7 - q := ⟨_, rfl⟩
      have hi8 : i9 < 8 := by omega
      have c0 := hr.used ht i9 hi8
      have e1 : (7 : Int) - (q : Int) = (i9 : Int) := by omega
      have hst : hiS u (q + 1) = if u.testBit i9 then ((hiS u q).1 + 1, (hiS u q).2) else ((hiS u q).1, ((i9 : Nat) : Int)) := by rw [hi]; rfl
      rw [e1]
      have q1 : (i9 : Int) < 8 := by omega
      have q2 : 0 ≤ (i9 : Int) := by omega
      have HI : Hid (((i9 : Int) - 1) = 7 - ((q + 1 : Nat) : Int)) := by show _ = _; omega
      have w1 := wr64 ((i9 : Int) - 1) (by omega) (by omega)
      clear e1 hi
      cases hb9 : u.testBit i9 with
      | true =>
        rw [hb9, if_pos rfl] at hst
        rw [hb9] at c0
        have HS : Hid _ := hst
        clear hst
        obtain ⟨a1, ha1⟩ : ∃ a1, a1 = (hiS u q).1 := ⟨_, rfl⟩
        have w2 := wr64 ((a1 : Int) + 1) (by omega) (by omega)
        rw [← ha1]
        have HA1 : Hid _ := ha1
        clear ha1
        go_wp2
        go_roundw
        case rel => exact ⟨q + 1, by omega, by rw [HS.out, ← HA1.out]; go_num, by rw [HS.out], congrArg (Value.int .i64) HI.out, hr, BO, BA, br⟩
        case measure => simp [intOf]
      | false =>
        rw [hb9, if_neg (by simp)] at hst
        rw [hb9] at c0
        have HS : Hid _ := hst
        clear hst
        go_wp2
        go_roundw
        case rel => exact ⟨q + 1, by omega, by rw [HS.out], by rw [HS.out], congrArg (Value.int .i64) HI.out, hr, BO, BA, br⟩
        case measure => simp [intOf]
    · obtain rfl : q = 8 := by omega
      obtain ⟨hf1, hf2⟩ := HF.out
      rw [hf1, hf2, show (7 : Int) - ((8 : Nat) : Int) = -1 from rfl]
      clear hf1 hf2 HF hle
      obtain ⟨o0, o1, o2⟩ := BO.facts
      have U : Upd [g] w wr := Upd.of_below br
      obtain ⟨r0, r1, r2⟩ := BA.facts
      have c0 := hr.used ht i hi
      rw [hb] at c0
      have q1 : (i : Int) < 8 := by omega
      have q2 : ¬ (i : Int) < 0 := by omega
      have q3 : ¬ (8 : Int) ≤ (i : Int) := by omega
      have lg2 : g < wr.heap.size := hr.head.lt
      have hn1 : g ≠ wr.heap.size := by omega
      have hn2 : g ≠ wr.heap.size + 1 := by omega
      have hn3 : g ≠ w.heap.size + 1 := by omega
      go_wp2_with fail
      go_region
      clear c0
      go_wp2_with fail
      have aB := (((Below.refl wr.heap.size wr).alloc (Nat.le_refl _) (.cells #[I 8, I 0, I 0, .string { data := #[] }] 42)).alloc (by simp) (.cells #[I 0, I 0, I 0, I 0, I 0] 27)).drew
      have BAN : Blk ((wr.alloc (.cells #[I 8, I 0, I 0, .string { data := #[] }] 42)).alloc (.cells #[I 0, I 0, I 0, I 0, I 0] 27)).drew wr.heap.size #[I 8, I 0, I 0, .string { data := #[] }] 42 := ((Blk.new rfl).old _).drew
      have hr1 := hr.later aB
      have BA1 := BA.below aB BA.lt
      have U1 : Upd [g] w _ := U.trans (Upd.of_below aB)
      clear r0 r1 o0 o1 BO
      generalize ((wr.alloc (.cells #[I 8, I 0, I 0, .string { data := #[] }] 42)).alloc (.cells #[I 0, I 0, I 0, I 0, I 0] 27)).drew = v1 at *
      have hx : wr.heap.size ≠ w.heap.size + 1 := by omega
      generalize wr.heap.size = AN at *
      refine (showH_any 0 0 0 0 0 (by unfold in64; omega) (by unfold in64; omega) (by unfold in64; omega) (by unfold in64; omega) (by unfold in64; omega) v1).mono ?_
      rintro e w3 ⟨rfl, b3⟩
      have hr3 := hr1.later b3
      have BAN3 := BAN.below b3 BAN.lt
      have BA3 := BA1.below b3 BA1.lt
      have U3 : Upd [g] w w3 := U1.trans (Upd.of_below b3)
      have lan := BAN.lt
      clear BAN BA1 U1 hr1 aB
      obtain ⟨n0, n1, n2⟩ := BAN3.facts
      obtain ⟨t0, t1, t2⟩ := BA3.facts
      have hx2 : w.heap.size + 1 ≠ AN := fun e => hx e.symm
      go_wp2
      have BA2 := ((((BA3.other (a := ⟨AN, 3, none⟩) hx2 (S (shH 0 0 0 0 0))).set (i := 0) (I 8)).set (i := 1) (I 0)).set (i := 2) (I 0)).set (i := 3) (S (shH 0 0 0 0 0))
      exact ret_row Try.results43 rfl rfl BA2 Try.underlying42 rfl (by kernel_rfl) ⟨rfl, hr3.upd (bs := [AN, w.heap.size + 1]) ((((((Upd.refl _ _).setCell (by simp) _).setCell (by simp) _).setCell (by simp) _).setCell (by simp) _).setCell (by simp) _) (by simp; omega), ((((U3.setCell (.inr (by show w.heap.size ≤ AN; omega)) _).setCell (.inr (Nat.le_succ _)) _).setCell (.inr (Nat.le_succ _)) _).setCell (.inr (Nat.le_succ _)) _).setCell (.inr (Nat.le_succ _)) _⟩
set_option maxRecDepth 100000 in
set_option maxHeartbeats 4000000 in
theorem owed_5used (w : World) (g : Nat) (us : List Bool) (hs ds : List Int) (img : List UInt8) (h : GhR w g us hs ds img) (u : Nat) (ws : List Nat) (ht : Tells u ws us hs) (hu : u < 256) (i : Nat) (hi : i < 8) (B C : Int) (s t : ByteArray) (n : Nat) (hn : Hid (ws.getD i 0 = n)) (hb : u.testBit i = true) :
    Calls Try.prog 43 #[ptr g, OpV 5 (i : Int) B C s t] w fun e w' => e = .returned (AnsV 0 0 (shH (unK n) (unD n) (unL n) (unF n) (unS n))) ∧ GhR w' g us hs ds img ∧ Upd [g] w w' := by
  obtain ⟨hf1, hf2⟩ := hiS_fin u hu
  have lg := h.head.lt
  have b0 := ((Below.refl w.heap.size w).alloc (Nat.le_refl _) (.cells #[I 5, I (i : Int), I B, I C, .string s, .string t] 38)).alloc (by simp) (.cells #[I 0, I 0, I 0, S []] 42)
  have BO : Blk ((w.alloc (.cells #[I 5, I (i : Int), I B, I C, .string s, .string t] 38)).alloc (.cells #[I 0, I 0, I 0, S []] 42)) w.heap.size #[I 5, I (i : Int), I B, I C, .string s, .string t] 38 := (Blk.new rfl).old _
  have BA : Blk ((w.alloc (.cells #[I 5, I (i : Int), I B, I C, .string s, .string t] 38)).alloc (.cells #[I 0, I 0, I 0, S []] 42)) (w.heap.size + 1) #[I 0, I 0, I 0, S []] 42 := Blk.new (by simp)
  have HF : Hid (_ ∧ _) := ⟨hf1, hf2⟩
  clear hf1 hf2
  go_enter Try.func43, Try.ntmps43
  go_wp2
  go_loopw [5, 6, 7] (fun n f ix wr => ∃ q : Nat, q ≤ 8 ∧ n = I ((hiS u q).1 : Nat) ∧ f = I (hiS u q).2 ∧ ix = I (7 - (q : Int)) ∧ GhR wr g us hs ds img ∧ Blk wr w.heap.size #[I 5, I (i : Int), I B, I C, .string s, .string t] 38 ∧ Blk wr (w.heap.size + 1) #[I 0, I 0, I 0, S []] 42 ∧ Below w.heap.size w wr) (fun _ _ ix _ => (intOf ix + 1).toNat)
  case atStart => exact ⟨0, by omega, rfl, rfl, rfl, h.later b0, BO, BA, b0⟩
  case round =>
    clear BO BA b0
    obtain ⟨q, hq, rfl, rfl, rfl, hr, BO, BA, br⟩ := hrel
    have hle := hiS_le u q
    by_cases hlt : q < 8
    · obtain ⟨i9, hi⟩ : ∃ i9, i9 = 7 - q := ⟨_, rfl⟩
      have hi8 : i9 < 8 := by omega
      have c0 := hr.used ht i9 hi8
      have e1 : (7 : Int) - (q : Int) = (i9 : Int) := by omega
      have hst : hiS u (q + 1) = if u.testBit i9 then ((hiS u q).1 + 1, (hiS u q).2) else ((hiS u q).1, ((i9 : Nat) : Int)) := by rw [hi]; rfl
      rw [e1]
      have q1 : (i9 : Int) < 8 := by omega
      have q2 : 0 ≤ (i9 : Int) := by omega
      have HI : Hid (((i9 : Int) - 1) = 7 - ((q + 1 : Nat) : Int)) := by show _ = _; omega
      have w1 := wr64 ((i9 : Int) - 1) (by omega) (by omega)
      clear e1 hi
      cases hb9 : u.testBit i9 with
      | true =>
        rw [hb9, if_pos rfl] at hst
        rw [hb9] at c0
        have HS : Hid _ := hst
        clear hst
        obtain ⟨a1, ha1⟩ : ∃ a1, a1 = (hiS u q).1 := ⟨_, rfl⟩
        have w2 := wr64 ((a1 : Int) + 1) (by omega) (by omega)
        rw [← ha1]
        have HA1 : Hid _ := ha1
        clear ha1
        go_wp2
        go_roundw
        case rel => exact ⟨q + 1, by omega, by rw [HS.out, ← HA1.out]; go_num, by rw [HS.out], congrArg (Value.int .i64) HI.out, hr, BO, BA, br⟩
        case measure => simp [intOf]
      | false =>
        rw [hb9, if_neg (by simp)] at hst
        rw [hb9] at c0
        have HS : Hid _ := hst
        clear hst
        go_wp2
        go_roundw
        case rel => exact ⟨q + 1, by omega, by rw [HS.out], by rw [HS.out], congrArg (Value.int .i64) HI.out, hr, BO, BA, br⟩
        case measure => simp [intOf]
    · obtain rfl : q = 8 := by omega
      obtain ⟨hf1, hf2⟩ := HF.out
      rw [hf1, hf2, show (7 : Int) - ((8 : Nat) : Int) = -1 from rfl]
      clear hf1 hf2 HF hle
      obtain ⟨o0, o1, o2⟩ := BO.facts
      have U : Upd [g] w wr := Upd.of_below br
      obtain ⟨r0, r1, r2⟩ := BA.facts
      have c0 := hr.used ht i hi
      rw [hb] at c0
      have q1 : (i : Int) < 8 := by omega
      have q2 : ¬ (i : Int) < 0 := by omega
      have q3 : ¬ (8 : Int) ≤ (i : Int) := by omega
      have lg2 : g < wr.heap.size := hr.head.lt
      have hn1 : g ≠ wr.heap.size := by omega
      have hn2 : g ≠ wr.heap.size + 1 := by omega
      have hn3 : g ≠ w.heap.size + 1 := by omega
      obtain ⟨y0, y1, y2, y3, y4⟩ := hr.hdr ht i hi hb
      rw [hn.out] at y0 y1 y2 y3 y4
      go_wp2_with fail
      go_region
      go_wp2_with fail
      go_region
      clear c0 y0 y1 y2 y3 y4
      go_wp2_with fail
      have aB := (((Below.refl wr.heap.size wr).alloc (Nat.le_refl _) (.cells #[I 0, I 0, I 0, .string { data := #[] }] 42)).alloc (by simp) (.cells #[I (unK n), I (unD n), I (unL n), I (unF n), I (unS n)] 27)).drew.drew
      have BAN : Blk ((wr.alloc (.cells #[I 0, I 0, I 0, .string { data := #[] }] 42)).alloc (.cells #[I (unK n), I (unD n), I (unL n), I (unF n), I (unS n)] 27)).drew.drew wr.heap.size #[I 0, I 0, I 0, .string { data := #[] }] 42 := ((Blk.new rfl).old _).drew.drew
      have hr1 := hr.later aB
      have BA1 := BA.below aB BA.lt
      have U1 : Upd [g] w _ := U.trans (Upd.of_below aB)
      clear r0 r1 o0 o1 BO
      generalize ((wr.alloc (.cells #[I 0, I 0, I 0, .string { data := #[] }] 42)).alloc (.cells #[I (unK n), I (unD n), I (unL n), I (unF n), I (unS n)] 27)).drew.drew = v1 at *
      have hx : wr.heap.size ≠ w.heap.size + 1 := by omega
      generalize wr.heap.size = AN at *
      refine (showH_any (unK n) (unD n) (unL n) (unF n) (unS n) (un_in64 n).1 (un_in64 n).2.1 (un_in64 n).2.2.1 (un_in64 n).2.2.2.1 (un_in64 n).2.2.2.2 v1).mono ?_
      rintro e w3 ⟨rfl, b3⟩
      have hr3 := hr1.later b3
      have BAN3 := BAN.below b3 BAN.lt
      have BA3 := BA1.below b3 BA1.lt
      have U3 : Upd [g] w w3 := U1.trans (Upd.of_below b3)
      have lan := BAN.lt
      clear BAN BA1 U1 hr1 aB
      obtain ⟨n0, n1, n2⟩ := BAN3.facts
      obtain ⟨t0, t1, t2⟩ := BA3.facts
      have hx2 : w.heap.size + 1 ≠ AN := fun e => hx e.symm
      go_wp2
      have BA2 := ((((BA3.other (a := ⟨AN, 3, none⟩) hx2 (S (shH (unK n) (unD n) (unL n) (unF n) (unS n)))).set (i := 0) (I 0)).set (i := 1) (I 0)).set (i := 2) (I 0)).set (i := 3) (S (shH (unK n) (unD n) (unL n) (unF n) (unS n)))
      exact ret_row Try.results43 rfl rfl BA2 Try.underlying42 rfl (by kernel_rfl) ⟨rfl, hr3.upd (bs := [AN, w.heap.size + 1]) ((((((Upd.refl _ _).setCell (by simp) _).setCell (by simp) _).setCell (by simp) _).setCell (by simp) _).setCell (by simp) _) (by simp; omega), ((((U3.setCell (.inr (by show w.heap.size ≤ AN; omega)) _).setCell (.inr (Nat.le_succ _)) _).setCell (.inr (Nat.le_succ _)) _).setCell (.inr (Nat.le_succ _)) _).setCell (.inr (Nat.le_succ _)) _⟩
end Go.Proofs.Qxb6500468a
