import Derived.Test.Qxb6500468aPk15
namespace Go.Proofs.Qxb6500468a
open Go.RowKit

def hiS (u : Nat) : Nat → Nat × Int
  | 0 => (0, -1)
  | t + 1 => if u.testBit (7 - t) then ((hiS u t).1 + 1, (hiS u t).2) else ((hiS u t).1, ((7 - t : Nat) : Int))
def frF (u : Nat) : Int := if lowZ u = 8 then -1 else ((lowZ u : Nat) : Int)
theorem hiS_fin : ∀ u, u < 256 → (hiS u 8).1 = popB u ∧ (hiS u 8).2 = frF u := by decide +kernel
theorem hiS_le (u : Nat) : ∀ t, (hiS u t).1 ≤ t
  | 0 => Nat.le_refl _
  | t + 1 => by
    have := hiS_le u t
    unfold hiS
    split <;> simp <;> omega
set_option maxRecDepth 100000 in
set_option maxHeartbeats 4000000 in
theorem owed_8 (w : World) (g : Nat) (us : List Bool) (hs ds : List Int) (img : List UInt8) (h : GhR w g us hs ds img) (u : Nat) (ws : List Nat) (ht : Tells u ws us hs) (hu : u < 256) (A B C : Int) (s t : ByteArray) :
    Calls Try.prog 43 #[ptr g, OpV 8 A B C s t] w fun e w' => e = .returned (AnsV 0 (popB u : Nat) []) ∧ GhR w' g us hs ds img ∧ Upd [g] w w' := by
  obtain ⟨hf1, hf2⟩ := hiS_fin u hu
  have lg := h.head.lt
  have b0 := ((Below.refl w.heap.size w).alloc (Nat.le_refl _) (.cells #[I 8, I A, I B, I C, .string s, .string t] 38)).alloc (by simp) (.cells #[I 0, I 0, I 0, S []] 42)
  have BO : Blk ((w.alloc (.cells #[I 8, I A, I B, I C, .string s, .string t] 38)).alloc (.cells #[I 0, I 0, I 0, S []] 42)) w.heap.size #[I 8, I A, I B, I C, .string s, .string t] 38 := (Blk.new rfl).old _
  have BA : Blk ((w.alloc (.cells #[I 8, I A, I B, I C, .string s, .string t] 38)).alloc (.cells #[I 0, I 0, I 0, S []] 42)) (w.heap.size + 1) #[I 0, I 0, I 0, S []] 42 := Blk.new (by simp)
  have HF : Hid (_ ∧ _) := ⟨hf1, hf2⟩
  clear hf1 hf2
  go_enter Try.func43, Try.ntmps43
  go_wp2
  go_loopw [5, 6, 7] (fun n f i wr => ∃ q : Nat, q ≤ 8 ∧ n = I ((hiS u q).1 : Nat) ∧ f = I (hiS u q).2 ∧ i = I (7 - (q : Int)) ∧ GhR wr g us hs ds img ∧ Blk wr w.heap.size #[I 8, I A, I B, I C, .string s, .string t] 38 ∧ Blk wr (w.heap.size + 1) #[I 0, I 0, I 0, S []] 42 ∧ Below w.heap.size w wr) (fun _ _ i _ => (intOf i + 1).toNat)
  case atStart => exact ⟨0, by omega, rfl, rfl, rfl, h.later b0, BO, BA, b0⟩
  case round =>
    clear BO BA b0
    obtain ⟨q, hq, rfl, rfl, rfl, hr, BO, BA, br⟩ := hrel
    have hle := hiS_le u q
    by_cases hlt : q < 8
    · obtain ⟨i, hi⟩ : ∃ i, i = 7 - q := ⟨_, rfl⟩
      have hi8 : i < 8 := by omega
      have c0 := hr.used ht i hi8
      have e1 : (7 : Int) - (q : Int) = (i : Int) := by omega
      have hst : hiS u (q + 1) = if u.testBit i then ((hiS u q).1 + 1, (hiS u q).2) else ((hiS u q).1, ((i : Nat) : Int)) := by rw [hi]; rfl
      rw [e1]
      have q1 : (i : Int) < 8 := by omega
      have q2 : 0 ≤ (i : Int) := by omega
      have HI : Hid (((i : Int) - 1) = 7 - ((q + 1 : Nat) : Int)) := by show _ = _; omega
      have w1 := wr64 ((i : Int) - 1) (by omega) (by omega)
      clear e1 hi
      cases hb : u.testBit i with
      | true =>
        rw [hb, if_pos rfl] at hst
        rw [hb] at c0
        have HS : Hid _ := hst
        clear hst
        obtain ⟨a1, ha1⟩ : ∃ a1, a1 = (hiS u q).1 := ⟨_, rfl⟩
        have w2 := wr64 ((a1 : Int) + 1) (by omega) (by omega)
        rw [← ha1]
        have HA1 : Hid _ := ha1
        clear ha1
        go_wp2
        go_roundw
        case rel => exact ⟨q + 1, by omega, by rw [HS.out, ← HA1.out]; go_num, by rw [HS.out], congrArg (Value.int .i64) HI.out, hr, BO, BA, br⟩
        case measure => simp [intOf]
      | false =>
        rw [hb, if_neg (by simp)] at hst
        rw [hb] at c0
        have HS : Hid _ := hst
        clear hst
        go_wp2
        go_roundw
        case rel => exact ⟨q + 1, by omega, by rw [HS.out], by rw [HS.out], congrArg (Value.int .i64) HI.out, hr, BO, BA, br⟩
        case measure => simp [intOf]
    · obtain rfl : q = 8 := by omega
      obtain ⟨hf1, hf2⟩ := HF.out
      rw [hf1, hf2, show (7 : Int) - ((8 : Nat) : Int) = -1 from rfl]
      clear hf1 hf2 HF hle
      obtain ⟨o0, o1, o2⟩ := BO.facts
      have U : Upd [g] w wr := Upd.of_below br
      obtain ⟨r0, r1, r2⟩ := BA.facts
      go_wp2
      have BA2 := (((BA.set (i := 0) (I 0)).set (i := 1) (I (popB u : Nat))).set (i := 2) (I 0)).set (i := 3) (S [])
      exact ret_row Try.results43 rfl rfl BA2 Try.underlying42 rfl (by kernel_rfl) ⟨rfl, hr.upd (bs := [w.heap.size + 1]) (((((Upd.refl _ _).setCell (by simp) _).setCell (by simp) _).setCell (by simp) _).setCell (by simp) _) (by simp; omega), (((U.setCell (.inr (Nat.le_succ _)) _).setCell (.inr (Nat.le_succ _)) _).setCell (.inr (Nat.le_succ _)) _).setCell (.inr (Nat.le_succ _)) _⟩
set_option maxRecDepth 100000 in
set_option maxHeartbeats 4000000 in
theorem owed_4bad (w : World) (g : Nat) (us : List Bool) (hs ds : List Int) (img : List UInt8) (h : GhR w g us hs ds img) (u : Nat) (ws : List Nat) (ht : Tells u ws us hs) (hu : u < 256) (A B C : Int) (s t : ByteArray) (k d l f z : Int) (hd : Hid (ds.getD 0 0 = k ∧ ds.getD 1 0 = d ∧ ds.getD 2 0 = l ∧ ds.getD 3 0 = f ∧ ds.getD 4 0 = z)) (hg : ¬ goodH k d l f z) :
    Calls Try.prog 43 #[ptr g, OpV 4 A B C s t] w fun e w' => e = .returned (AnsV 6 0 []) ∧ GhR w' g us hs ds img ∧ Upd [g] w w' := by
  obtain ⟨hf1, hf2⟩ := hiS_fin u hu
  have lg := h.head.lt
  have b0 := ((Below.refl w.heap.size w).alloc (Nat.le_refl _) (.cells #[I 4, I A, I B, I C, .string s, .string t] 38)).alloc (by simp) (.cells #[I 0, I 0, I 0, S []] 42)
  have BO : Blk ((w.alloc (.cells #[I 4, I A, I B, I C, .string s, .string t] 38)).alloc (.cells #[I 0, I 0, I 0, S []] 42)) w.heap.size #[I 4, I A, I B, I C, .string s, .string t] 38 := (Blk.new rfl).old _
  have BA : Blk ((w.alloc (.cells #[I 4, I A, I B, I C, .string s, .string t] 38)).alloc (.cells #[I 0, I 0, I 0, S []] 42)) (w.heap.size + 1) #[I 0, I 0, I 0, S []] 42 := Blk.new (by simp)
  have HF : Hid (_ ∧ _) := ⟨hf1, hf2⟩
  clear hf1 hf2
  go_enter Try.func43, Try.ntmps43
  go_wp2
  go_loopw [5, 6, 7] (fun n f i wr => ∃ q : Nat, q ≤ 8 ∧ n = I ((hiS u q).1 : Nat) ∧ f = I (hiS u q).2 ∧ i = I (7 - (q : Int)) ∧ GhR wr g us hs ds img ∧ Blk wr w.heap.size #[I 4, I A, I B, I C, .string s, .string t] 38 ∧ Blk wr (w.heap.size + 1) #[I 0, I 0, I 0, S []] 42 ∧ Below w.heap.size w wr) (fun _ _ i _ => (intOf i + 1).toNat)
  case atStart => exact ⟨0, by omega, rfl, rfl, rfl, h.later b0, BO, BA, b0⟩
  case round =>
    clear BO BA b0
    obtain ⟨q, hq, rfl, rfl, rfl, hr, BO, BA, br⟩ := hrel
    have hle := hiS_le u q
    by_cases hlt : q < 8
    · obtain ⟨i, hi⟩ : ∃ i, i = 7 - q := ⟨_, rfl⟩
      have hi8 : i < 8 := by omega
      have c0 := hr.used ht i hi8
      have e1 : (7 : Int) - (q : Int) = (i : Int) := by omega
      have hst : hiS u (q + 1) = if u.testBit i then ((hiS u q).1 + 1, (hiS u q).2) else ((hiS u q).1, ((i : Nat) : Int)) := by rw [hi]; rfl
      rw [e1]
      have q1 : (i : Int) < 8 := by omega
      have q2 : 0 ≤ (i : Int) := by omega
      have HI : Hid (((i : Int) - 1) = 7 - ((q + 1 : Nat) : Int)) := by show _ = _; omega
      have w1 := wr64 ((i : Int) - 1) (by omega) (by omega)
      clear e1 hi
      cases hb : u.testBit i with
      | true =>
        rw [hb, if_pos rfl] at hst
        rw [hb] at c0
        have HS : Hid _ := hst
        clear hst
        obtain ⟨a1, ha1⟩ : ∃ a1, a1 = (hiS u q).1 := ⟨_, rfl⟩
        have w2 := wr64 ((a1 : Int) + 1) (by omega) (by omega)
        rw [← ha1]
        have HA1 : Hid _ := ha1
        clear ha1
        go_wp2
        go_roundw
        case rel => exact ⟨q + 1, by omega, by rw [HS.out, ← HA1.out]; go_num, by rw [HS.out], congrArg (Value.int .i64) HI.out, hr, BO, BA, br⟩
        case measure => simp [intOf]
      | false =>
        rw [hb, if_neg (by simp)] at hst
        rw [hb] at c0
        have HS : Hid _ := hst
        clear hst
        go_wp2
        go_roundw
        case rel => exact ⟨q + 1, by omega, by rw [HS.out], by rw [HS.out], congrArg (Value.int .i64) HI.out, hr, BO, BA, br⟩
        case measure => simp [intOf]
    · obtain rfl : q = 8 := by omega
      obtain ⟨hf1, hf2⟩ := HF.out
      rw [hf1, hf2, show (7 : Int) - ((8 : Nat) : Int) = -1 from rfl]
      clear hf1 hf2 HF hle
      obtain ⟨o0, o1, o2⟩ := BO.facts
      have U : Upd [g] w wr := Upd.of_below br
      obtain ⟨d0, d1, d2, d3, d4, d5, -⟩ := hr.desk.cells
      obtain ⟨x0, x1, x2, x3, x4⟩ := hd.out
      rw [x0] at d0
      rw [x1] at d1
      rw [x2] at d2
      rw [x3] at d3
      rw [x4] at d4
      clear x0 x1 x2 x3 x4
      go_wp2_with fail
      refine (good_no k d l f z hg wr).mono ?_
      rintro e w2 ⟨rfl, b2⟩
      have BA1 := BA.below b2 BA.lt
      have hr2 := hr.later b2
      have U2 : Upd [g] w w2 := U.trans (Upd.of_below b2)
      obtain ⟨r0, r1, r2⟩ := BA1.facts
      clear d0 d1 d2 d3 d4 d5 o0 o1 o2 BA hr U b2
      go_wp2
      have BA2 := (((BA1.set (i := 0) (I 6)).set (i := 1) (I 0)).set (i := 2) (I 0)).set (i := 3) (S [])
      exact ret_row Try.results43 rfl rfl BA2 Try.underlying42 rfl (by kernel_rfl) ⟨rfl, hr2.upd (bs := [w.heap.size + 1]) (((((Upd.refl _ _).setCell (by simp) _).setCell (by simp) _).setCell (by simp) _).setCell (by simp) _) (by simp; omega), (((U2.setCell (.inr (Nat.le_succ _)) _).setCell (.inr (Nat.le_succ _)) _).setCell (.inr (Nat.le_succ _)) _).setCell (.inr (Nat.le_succ _)) _⟩
set_option maxRecDepth 100000 in
set_option maxHeartbeats 4000000 in
theorem owed_4full (w : World) (g : Nat) (us : List Bool) (hs ds : List Int) (img : List UInt8) (h : GhR w g us hs ds img) (u : Nat) (ws : List Nat) (ht : Tells u ws us hs) (hu : u < 256) (A B C : Int) (s t : ByteArray) (k d l f z : Int) (hd : Hid (ds.getD 0 0 = k ∧ ds.getD 1 0 = d ∧ ds.getD 2 0 = l ∧ ds.getD 3 0 = f ∧ ds.getD 4 0 = z)) (hg : goodH k d l f z) (hfr : frF u = -1) :
    Calls Try.prog 43 #[ptr g, OpV 4 A B C s t] w fun e w' => e = .returned (AnsV 7 0 []) ∧ GhR w' g us hs ds img ∧ Upd [g] w w' := by
  obtain ⟨hf1, hf2⟩ := hiS_fin u hu
  have lg := h.head.lt
  have b0 := ((Below.refl w.heap.size w).alloc (Nat.le_refl _) (.cells #[I 4, I A, I B, I C, .string s, .string t] 38)).alloc (by simp) (.cells #[I 0, I 0, I 0, S []] 42)
  have BO : Blk ((w.alloc (.cells #[I 4, I A, I B, I C, .string s, .string t] 38)).alloc (.cells #[I 0, I 0, I 0, S []] 42)) w.heap.size #[I 4, I A, I B, I C, .string s, .string t] 38 := (Blk.new rfl).old _
  have BA : Blk ((w.alloc (.cells #[I 4, I A, I B, I C, .string s, .string t] 38)).alloc (.cells #[I 0, I 0, I 0, S []] 42)) (w.heap.size + 1) #[I 0, I 0, I 0, S []] 42 := Blk.new (by simp)
  have HF : Hid (_ ∧ _) := ⟨hf1, hf2⟩
  clear hf1 hf2
  go_enter Try.func43, Try.ntmps43
  go_wp2
  go_loopw [5, 6, 7] (fun n f i wr => ∃ q : Nat, q ≤ 8 ∧ n = I ((hiS u q).1 : Nat) ∧ f = I (hiS u q).2 ∧ i = I (7 - (q : Int)) ∧ GhR wr g us hs ds img ∧ Blk wr w.heap.size #[I 4, I A, I B, I C, .string s, .string t] 38 ∧ Blk wr (w.heap.size + 1) #[I 0, I 0, I 0, S []] 42 ∧ Below w.heap.size w wr) (fun _ _ i _ => (intOf i + 1).toNat)
  case atStart => exact ⟨0, by omega, rfl, rfl, rfl, h.later b0, BO, BA, b0⟩
  case round =>
    clear BO BA b0
    obtain ⟨q, hq, rfl, rfl, rfl, hr, BO, BA, br⟩ := hrel
    have hle := hiS_le u q
    by_cases hlt : q < 8
    · obtain ⟨i, hi⟩ : ∃ i, i = 7 - q := ⟨_, rfl⟩
      have hi8 : i < 8 := by omega
      have c0 := hr.used ht i hi8
      have e1 : (7 : Int) - (q : Int) = (i : Int) := by omega
      have hst : hiS u (q + 1) = if u.testBit i then ((hiS u q).1 + 1, (hiS u q).2) else ((hiS u q).1, ((i : Nat) : Int)) := by rw [hi]; rfl
      rw [e1]
      have q1 : (i : Int) < 8 := by omega
      have q2 : 0 ≤ (i : Int) := by omega
      have HI : Hid (((i : Int) - 1) = 7 - ((q + 1 : Nat) : Int)) := by show _ = _; omega
      have w1 := wr64 ((i : Int) - 1) (by omega) (by omega)
      clear e1 hi
      cases hb : u.testBit i with
      | true =>
        rw [hb, if_pos rfl] at hst
        rw [hb] at c0
        have HS : Hid _ := hst
        clear hst
        obtain ⟨a1, ha1⟩ : ∃ a1, a1 = (hiS u q).1 := ⟨_, rfl⟩
        have w2 := wr64 ((a1 : Int) + 1) (by omega) (by omega)
        rw [← ha1]
        have HA1 : Hid _ := ha1
        clear ha1
        go_wp2
        go_roundw
        case rel => exact ⟨q + 1, by omega, by rw [HS.out, ← HA1.out]; go_num, by rw [HS.out], congrArg (Value.int .i64) HI.out, hr, BO, BA, br⟩
        case measure => simp [intOf]
      | false =>
        rw [hb, if_neg (by simp)] at hst
        rw [hb] at c0
        have HS : Hid _ := hst
        clear hst
        go_wp2
        go_roundw
        case rel => exact ⟨q + 1, by omega, by rw [HS.out], by rw [HS.out], congrArg (Value.int .i64) HI.out, hr, BO, BA, br⟩
        case measure => simp [intOf]
    · obtain rfl : q = 8 := by omega
      obtain ⟨hf1, hf2⟩ := HF.out
      rw [hf1, hf2, show (7 : Int) - ((8 : Nat) : Int) = -1 from rfl]
      clear hf1 hf2 HF hle
      obtain ⟨o0, o1, o2⟩ := BO.facts
      have U : Upd [g] w wr := Upd.of_below br
      obtain ⟨d0, d1, d2, d3, d4, d5, -⟩ := hr.desk.cells
      obtain ⟨x0, x1, x2, x3, x4⟩ := hd.out
      rw [x0] at d0
      rw [x1] at d1
      rw [x2] at d2
      rw [x3] at d3
      rw [x4] at d4
      rw [hfr]
      clear x0 x1 x2 x3 x4
      go_wp2_with fail
      refine (good_yes k d l f z hg wr).mono ?_
      rintro e w2 ⟨rfl, b2⟩
      have BA1 := BA.below b2 BA.lt
      have hr2 := hr.later b2
      have U2 : Upd [g] w w2 := U.trans (Upd.of_below b2)
      obtain ⟨r0, r1, r2⟩ := BA1.facts
      clear d0 d1 d2 d3 d4 d5 o0 o1 o2 BA hr U b2
      go_wp2
      have BA2 := (((BA1.set (i := 0) (I 7)).set (i := 1) (I 0)).set (i := 2) (I 0)).set (i := 3) (S [])
      exact ret_row Try.results43 rfl rfl BA2 Try.underlying42 rfl (by kernel_rfl) ⟨rfl, hr2.upd (bs := [w.heap.size + 1]) (((((Upd.refl _ _).setCell (by simp) _).setCell (by simp) _).setCell (by simp) _).setCell (by simp) _) (by simp; omega), (((U2.setCell (.inr (Nat.le_succ _)) _).setCell (.inr (Nat.le_succ _)) _).setCell (.inr (Nat.le_succ _)) _).setCell (.inr (Nat.le_succ _)) _⟩
set_option maxRecDepth 100000 in
set_option maxHeartbeats 4000000 in
theorem owed_4put (w : World) (g : Nat) (us : List Bool) (hs ds : List Int) (img : List UInt8) (h : GhR w g us hs ds img) (u : Nat) (ws : List Nat) (ht : Tells u ws us hs) (hu : u < 256) (A B C : Int) (s t : ByteArray) (k d l f z : Int) (hd : Hid (ds.getD 0 0 = k ∧ ds.getD 1 0 = d ∧ ds.getD 2 0 = l ∧ ds.getD 3 0 = f ∧ ds.getD 4 0 = z)) (hg : goodH k d l f z) (L : Nat) (hL : L < 8) (hfr : frF u = (L : Int)) :
    Calls Try.prog 43 #[ptr g, OpV 4 A B C s t] w fun e w' => e = .returned (AnsV 0 L []) ∧ GhR w' g (us.set L true) (hset hs L k d l f z) ds img ∧ Upd [g] w w' := by
  obtain ⟨hf1, hf2⟩ := hiS_fin u hu
  have lg := h.head.lt
  have b0 := ((Below.refl w.heap.size w).alloc (Nat.le_refl _) (.cells #[I 4, I A, I B, I C, .string s, .string t] 38)).alloc (by simp) (.cells #[I 0, I 0, I 0, S []] 42)
  have BO : Blk ((w.alloc (.cells #[I 4, I A, I B, I C, .string s, .string t] 38)).alloc (.cells #[I 0, I 0, I 0, S []] 42)) w.heap.size #[I 4, I A, I B, I C, .string s, .string t] 38 := (Blk.new rfl).old _
  have BA : Blk ((w.alloc (.cells #[I 4, I A, I B, I C, .string s, .string t] 38)).alloc (.cells #[I 0, I 0, I 0, S []] 42)) (w.heap.size + 1) #[I 0, I 0, I 0, S []] 42 := Blk.new (by simp)
  have HF : Hid (_ ∧ _) := ⟨hf1, hf2⟩
  clear hf1 hf2
  go_enter Try.func43, Try.ntmps43
  go_wp2
  go_loopw [5, 6, 7] (fun n f i wr => ∃ q : Nat, q ≤ 8 ∧ n = I ((hiS u q).1 : Nat) ∧ f = I (hiS u q).2 ∧ i = I (7 - (q : Int)) ∧ GhR wr g us hs ds img ∧ Blk wr w.heap.size #[I 4, I A, I B, I C, .string s, .string t] 38 ∧ Blk wr (w.heap.size + 1) #[I 0, I 0, I 0, S []] 42 ∧ Below w.heap.size w wr) (fun _ _ i _ => (intOf i + 1).toNat)
  case atStart => exact ⟨0, by omega, rfl, rfl, rfl, h.later b0, BO, BA, b0⟩
  case round =>
    clear BO BA b0
    obtain ⟨q, hq, rfl, rfl, rfl, hr, BO, BA, br⟩ := hrel
    have hle := hiS_le u q
    by_cases hlt : q < 8
    · obtain ⟨i, hi⟩ : ∃ i, i = 7 - q := ⟨_, rfl⟩
      have hi8 : i < 8 := by omega
      have c0 := hr.used ht i hi8
      have e1 : (7 : Int) - (q : Int) = (i : Int) := by omega
      have hst : hiS u (q + 1) = if u.testBit i then ((hiS u q).1 + 1, (hiS u q).2) else ((hiS u q).1, ((i : Nat) : Int)) := by rw [hi]; rfl
      rw [e1]
      have q1 : (i : Int) < 8 := by omega
      have q2 : 0 ≤ (i : Int) := by omega
      have HI : Hid (((i : Int) - 1) = 7 - ((q + 1 : Nat) : Int)) := by show _ = _; omega
      have w1 := wr64 ((i : Int) - 1) (by omega) (by omega)
      clear e1 hi
      cases hb : u.testBit i with
      | true =>
        rw [hb, if_pos rfl] at hst
        rw [hb] at c0
        have HS : Hid _ := hst
        clear hst
        obtain ⟨a1, ha1⟩ : ∃ a1, a1 = (hiS u q).1 := ⟨_, rfl⟩
        have w2 := wr64 ((a1 : Int) + 1) (by omega) (by omega)
        rw [← ha1]
        have HA1 : Hid _ := ha1
        clear ha1
        go_wp2
        go_roundw
        case rel => exact ⟨q + 1, by omega, by rw [HS.out, ← HA1.out]; go_num, by rw [HS.out], congrArg (Value.int .i64) HI.out, hr, BO, BA, br⟩
        case measure => simp [intOf]
      | false =>
        rw [hb, if_neg (by simp)] at hst
        rw [hb] at c0
        have HS : Hid _ := hst
        clear hst
        go_wp2
        go_roundw
        case rel => exact ⟨q + 1, by omega, by rw [HS.out], by rw [HS.out], congrArg (Value.int .i64) HI.out, hr, BO, BA, br⟩
        case measure => simp [intOf]
    · obtain rfl : q = 8 := by omega
      obtain ⟨hf1, hf2⟩ := HF.out
      rw [hf1, hf2, show (7 : Int) - ((8 : Nat) : Int) = -1 from rfl]
      clear hf1 hf2 HF hle
      obtain ⟨o0, o1, o2⟩ := BO.facts
      have U : Upd [g] w wr := Upd.of_below br
      obtain ⟨d0, d1, d2, d3, d4, d5, -⟩ := hr.desk.cells
      obtain ⟨x0, x1, x2, x3, x4⟩ := hd.out
      rw [x0] at d0
      rw [x1] at d1
      rw [x2] at d2
      rw [x3] at d3
      rw [x4] at d4
      rw [hfr]
      clear x0 x1 x2 x3 x4
      go_wp2_with fail
      refine (good_yes k d l f z hg wr).mono ?_
      rintro e w2 ⟨rfl, b2⟩
      have BA1 := BA.below b2 BA.lt
      have hr2 := hr.later b2
      have U2 : Upd [g] w w2 := U.trans (Upd.of_below b2)
      clear d0 d1 d2 d3 d4 d5 o0 o1 o2 BA hr U b2
      obtain ⟨r0, r1, r2⟩ := BA1.facts
      have hL1 : ¬ (L : Int) < 0 := by omega
      have hL2 : (L : Int) < 8 := by omega
      have hfz := hr2.head.frozen
      have y0 := (hr2.head.cell L).trans (ghC_u _ _ _ _ L (by rw [hr2.l1]; exact hL))
      have hl1 := hr2.l1
      have hl2 := hr2.l2
      have y1 := fun c (hc : c < 5) => (hr2.head.cell (8 + (L * 5 + c))).trans (ghC_h _ _ _ _ hl1 (L * 5 + c) (by omega))
      have z0 : w2.cell? ⟨g, 8 + L * 5, none⟩ = _ := y1 0 (by omega)
      have z1 : w2.cell? ⟨g, 8 + L * 5 + 1, none⟩ = _ := y1 1 (by omega)
      have z2 : w2.cell? ⟨g, 8 + L * 5 + 2, none⟩ = _ := y1 2 (by omega)
      have z3 : w2.cell? ⟨g, 8 + L * 5 + 3, none⟩ = _ := y1 3 (by omega)
      have z4 : w2.cell? ⟨g, 8 + L * 5 + 4, none⟩ = _ := y1 4 (by omega)
      obtain ⟨d0, d1, d2, d3, d4, d5, -⟩ := hr2.desk.cells
      obtain ⟨x0, x1, x2, x3, x4⟩ := hd.out
      rw [x0] at d0
      rw [x1] at d1
      rw [x2] at d2
      rw [x3] at d3
      rw [x4] at d4
      clear x0 x1 x2 x3 x4 y1
      have hne : g ≠ w.heap.size + 1 := by omega
      go_wp2_with fail
      go_region
      go_wp2
      have GH := (hr2.setu L true hL).lay L hL k d l f z
      have hn1 : w.heap.size + 1 ≠ g := fun e => hne e.symm
      have BA2 := ((((((((((BA1.other (a := ⟨g, L, none⟩) hn1 (.bool true)).other (a := ⟨g, 8 + L * 5, none⟩) hn1 (I k)).other (a := ⟨g, 8 + L * 5 + 1, none⟩) hn1 (I d)).other (a := ⟨g, 8 + L * 5 + 2, none⟩) hn1 (I l)).other (a := ⟨g, 8 + L * 5 + 3, none⟩) hn1 (I f)).other (a := ⟨g, 8 + L * 5 + 4, none⟩) hn1 (I z)).set (i := 0) (I 0)).set (i := 1) (I L)).set (i := 2) (I 0)).set (i := 3) (S [])).drew
      exact ret_row Try.results43 rfl rfl BA2 Try.underlying42 rfl (by kernel_rfl) ⟨rfl, GH.upd (bs := [w.heap.size + 1]) (((((Upd.refl _ _).setCell (by simp) _).setCell (by simp) _).setCell (by simp) _).setCell (by simp) _).drew (by simp; omega), ((((((((((U2.setCell (.inl (by simp)) _).setCell (.inl (by simp)) _).setCell (.inl (by simp)) _).setCell (.inl (by simp)) _).setCell (.inl (by simp)) _).setCell (.inl (by simp)) _).setCell (.inr (Nat.le_succ _)) _).setCell (.inr (Nat.le_succ _)) _).setCell (.inr (Nat.le_succ _)) _).setCell (.inr (Nat.le_succ _)) _).drew⟩
end Go.Proofs.Qxb6500468a
