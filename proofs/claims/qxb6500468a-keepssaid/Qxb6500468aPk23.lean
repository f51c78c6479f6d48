import Derived.Test.Qxb6500468aPk15
import Derived.Deep.RegionHeld3
namespace Go.Proofs.Qxb6500468a
open Go.RowKit

/-- The ghost behind a step: it tells the store (U, W). -/
def Gone (w : World) (g : Nat) (ds : List Int) (img : List UInt8) (U : Nat) (W : List Nat) (v : World) : Prop := ∃ us' hs', GhR v g us' hs' ds img ∧ Tells U W us' hs' ∧ Upd [g] w v
theorem Gone.later {w : World} {g : Nat} {ds : List Int} {img : List UInt8} {U : Nat} {W : List Nat} {v v' : World} (h : Gone w g ds img U W v) (b : Below v.heap.size v v') : Gone w g ds img U W v' := by
  obtain ⟨us', hs', h1, h2, h3⟩ := h
  exact ⟨us', hs', h1.later b, h2, h3.trans (Upd.of_below b)⟩
theorem Gone.since {w0 w : World} {g : Nat} {ds : List Int} {img : List UInt8} {U : Nat} {W : List Nat} {v : World} (h : Gone w g ds img U W v) (b : Below w0.heap.size w0 w) : Gone w0 g ds img U W v := by
  obtain ⟨us', hs', h1, h2, h3⟩ := h
  exact ⟨us', hs', h1, h2, (Upd.of_below b).trans h3⟩
set_option maxRecDepth 100000 in
set_option maxHeartbeats 4000000 in
theorem kept_4 (w : World) (x g : Nat) (hl : g < w.heap.size) (ds : List Int) (img : List UInt8) (U : Nat) (W : List Nat) (A B C : Int) (s t : ByteArray) (E N : Int) (T : List UInt8)
    (hO : ∀ v, Below w.heap.size w v → Calls Try.prog 43 #[ptr g, OpV 4 A B C s t] v fun e w' => e = .returned (AnsV E N T) ∧ Gone v g ds img U W w') :
    Calls Try.prog 30 #[ptr x, ptr g, OpV 4 A B C s t, AnsV E N T] w fun e w' => e = .returned (.bool true) ∧ Gone w g ds img U W w' := by
  have b0 := ((Below.refl w.heap.size w).alloc (Nat.le_refl _) (.cells #[I 4, I A, I B, I C, .string s, .string t] 38)).alloc (by simp) (.cells #[I E, I N, I 0, S T] 42)
  have BO : Blk ((w.alloc (.cells #[I 4, I A, I B, I C, .string s, .string t] 38)).alloc (.cells #[I E, I N, I 0, S T] 42)) w.heap.size #[I 4, I A, I B, I C, .string s, .string t] 38 := (Blk.new rfl).old _
  have BA : Blk ((w.alloc (.cells #[I 4, I A, I B, I C, .string s, .string t] 38)).alloc (.cells #[I E, I N, I 0, S T] 42)) (w.heap.size + 1) #[I E, I N, I 0, S T] 42 := Blk.new (by simp)
  go_enter Try.func30, Try.ntmps30
  go_wp2_with fail
  generalize (w.alloc (.cells #[I 4, I A, I B, I C, .string s, .string t] 38)).alloc (.cells #[I E, I N, I 0, S T] 42) = v0 at *
  have g1 : g ≠ w.heap.size := by omega
  have g2 : g ≠ w.heap.size + 1 := by omega
  generalize w.heap.size + 1 = AB at *
  have HO : Hid _ := hO
  clear hO
  have Hb : Hid _ := b0
  clear b0
  obtain ⟨OB, hOB⟩ : ∃ OB, OB = w.heap.size := ⟨_, rfl⟩
  rw [← hOB] at BO g1 ⊢
  have Hob : Hid _ := hOB
  clear hOB
  have k0 : v0.cell? ⟨OB, 0, none⟩ = some (I 4) := BO.cell 0
  have k1 : v0.cell? ⟨OB, 1, none⟩ = some (I A) := BO.cell 1
  have k2 : v0.cell? ⟨OB, 2, none⟩ = some (I B) := BO.cell 2
  have k3 : v0.cell? ⟨OB, 3, none⟩ = some (I C) := BO.cell 3
  have k4 : v0.cell? ⟨OB, 4, none⟩ = some (.string s) := BO.cell 4
  have k5 : v0.cell? ⟨OB, 5, none⟩ = some (.string t) := BO.cell 5
  have k6 : v0.cell? ⟨AB, 0, none⟩ = some (I E) := BA.cell 0
  have k7 : v0.cell? ⟨AB, 1, none⟩ = some (I N) := BA.cell 1
  have k8 : v0.cell? ⟨AB, 2, none⟩ = some (I 0) := BA.cell 2
  have k9 : v0.cell? ⟨AB, 3, none⟩ = some (S T) := BA.cell 3
  go_region_held3 (fun W => W.cell? ⟨OB, 0, none⟩ = some (I 4) ∧ W.cell? ⟨OB, 1, none⟩ = some (I A) ∧ W.cell? ⟨OB, 2, none⟩ = some (I B) ∧ W.cell? ⟨OB, 3, none⟩ = some (I C) ∧ W.cell? ⟨OB, 4, none⟩ = some (.string s) ∧ W.cell? ⟨OB, 5, none⟩ = some (.string t) ∧ W.cell? ⟨AB, 0, none⟩ = some (I E) ∧ W.cell? ⟨AB, 1, none⟩ = some (I N) ∧ W.cell? ⟨AB, 2, none⟩ = some (I 0) ∧ W.cell? ⟨AB, 3, none⟩ = some (S T)) (go_keep) (first | (go_at_call 43; refine (HO.out _ (by first | exact Hb.out | exact Hb.out.drew)).mono ?_; rintro e w1 ⟨rfl, h1⟩; have u1 : Upd [g] v0 w1 := (by obtain ⟨_, _, _, _, u⟩ := h1; first | exact u | exact ((Upd.refl _ _).drew).trans u); have O1 := BO.upd u1 (fun hm => g1 (List.mem_singleton.1 hm).symm); have A1 := BA.upd u1 (fun hm => g2 (List.mem_singleton.1 hm).symm); have m0 : w1.cell? ⟨OB, 0, none⟩ = some (I 4) := O1.cell 0; have m1 : w1.cell? ⟨OB, 1, none⟩ = some (I A) := O1.cell 1; have m2 : w1.cell? ⟨OB, 2, none⟩ = some (I B) := O1.cell 2; have m3 : w1.cell? ⟨OB, 3, none⟩ = some (I C) := O1.cell 3; have m4 : w1.cell? ⟨OB, 4, none⟩ = some (.string s) := O1.cell 4; have m5 : w1.cell? ⟨OB, 5, none⟩ = some (.string t) := O1.cell 5; have m6 : w1.cell? ⟨AB, 0, none⟩ = some (I E) := A1.cell 0; have m7 : w1.cell? ⟨AB, 1, none⟩ = some (I N) := A1.cell 1; have m8 : w1.cell? ⟨AB, 2, none⟩ = some (I 0) := A1.cell 2; have m9 : w1.cell? ⟨AB, 3, none⟩ = some (S T) := A1.cell 3))
  have G1 : Gone w g ds img U W w1 := h1.since (by first | exact Hb.out | exact Hb.out.drew)
  clear h1 k0 m0 k1 m1 k2 m2 k3 m3 k4 m4 k5 m5 k6 m6 k7 m7 k8 m8 k9 m9 u1 O1 A1
  go_wp2
  go_ret
  exact ⟨rfl, G1⟩
set_option maxRecDepth 100000 in
set_option maxHeartbeats 4000000 in
theorem kept_5 (w : World) (x g : Nat) (hl : g < w.heap.size) (ds : List Int) (img : List UInt8) (U : Nat) (W : List Nat) (A B C : Int) (s t : ByteArray) (E N : Int) (T : List UInt8)
    (hO : ∀ v, Below w.heap.size w v → Calls Try.prog 43 #[ptr g, OpV 5 A B C s t] v fun e w' => e = .returned (AnsV E N T) ∧ Gone v g ds img U W w') :
    Calls Try.prog 30 #[ptr x, ptr g, OpV 5 A B C s t, AnsV E N T] w fun e w' => e = .returned (.bool true) ∧ Gone w g ds img U W w' := by
  have b0 := ((Below.refl w.heap.size w).alloc (Nat.le_refl _) (.cells #[I 5, I A, I B, I C, .string s, .string t] 38)).alloc (by simp) (.cells #[I E, I N, I 0, S T] 42)
  have BO : Blk ((w.alloc (.cells #[I 5, I A, I B, I C, .string s, .string t] 38)).alloc (.cells #[I E, I N, I 0, S T] 42)) w.heap.size #[I 5, I A, I B, I C, .string s, .string t] 38 := (Blk.new rfl).old _
  have BA : Blk ((w.alloc (.cells #[I 5, I A, I B, I C, .string s, .string t] 38)).alloc (.cells #[I E, I N, I 0, S T] 42)) (w.heap.size + 1) #[I E, I N, I 0, S T] 42 := Blk.new (by simp)
  go_enter Try.func30, Try.ntmps30
  go_wp2_with fail
  generalize (w.alloc (.cells #[I 5, I A, I B, I C, .string s, .string t] 38)).alloc (.cells #[I E, I N, I 0, S T] 42) = v0 at *
  have g1 : g ≠ w.heap.size := by omega
  have g2 : g ≠ w.heap.size + 1 := by omega
  generalize w.heap.size + 1 = AB at *
  have HO : Hid _ := hO
  clear hO
  have Hb : Hid _ := b0
  clear b0
  obtain ⟨OB, hOB⟩ : ∃ OB, OB = w.heap.size := ⟨_, rfl⟩
  rw [← hOB] at BO g1 ⊢
  have Hob : Hid _ := hOB
  clear hOB
  have k0 : v0.cell? ⟨OB, 0, none⟩ = some (I 5) := BO.cell 0
  have k1 : v0.cell? ⟨OB, 1, none⟩ = some (I A) := BO.cell 1
  have k2 : v0.cell? ⟨OB, 2, none⟩ = some (I B) := BO.cell 2
  have k3 : v0.cell? ⟨OB, 3, none⟩ = some (I C) := BO.cell 3
  have k4 : v0.cell? ⟨OB, 4, none⟩ = some (.string s) := BO.cell 4
  have k5 : v0.cell? ⟨OB, 5, none⟩ = some (.string t) := BO.cell 5
  have k6 : v0.cell? ⟨AB, 0, none⟩ = some (I E) := BA.cell 0
  have k7 : v0.cell? ⟨AB, 1, none⟩ = some (I N) := BA.cell 1
  have k8 : v0.cell? ⟨AB, 2, none⟩ = some (I 0) := BA.cell 2
  have k9 : v0.cell? ⟨AB, 3, none⟩ = some (S T) := BA.cell 3
  go_region_held3 (fun W => W.cell? ⟨OB, 0, none⟩ = some (I 5) ∧ W.cell? ⟨OB, 1, none⟩ = some (I A) ∧ W.cell? ⟨OB, 2, none⟩ = some (I B) ∧ W.cell? ⟨OB, 3, none⟩ = some (I C) ∧ W.cell? ⟨OB, 4, none⟩ = some (.string s) ∧ W.cell? ⟨OB, 5, none⟩ = some (.string t) ∧ W.cell? ⟨AB, 0, none⟩ = some (I E) ∧ W.cell? ⟨AB, 1, none⟩ = some (I N) ∧ W.cell? ⟨AB, 2, none⟩ = some (I 0) ∧ W.cell? ⟨AB, 3, none⟩ = some (S T)) (go_keep) (first | (go_at_call 43; refine (HO.out _ (by first | exact Hb.out | exact Hb.out.drew)).mono ?_; rintro e w1 ⟨rfl, h1⟩; have u1 : Upd [g] v0 w1 := (by obtain ⟨_, _, _, _, u⟩ := h1; first | exact u | exact ((Upd.refl _ _).drew).trans u); have O1 := BO.upd u1 (fun hm => g1 (List.mem_singleton.1 hm).symm); have A1 := BA.upd u1 (fun hm => g2 (List.mem_singleton.1 hm).symm); have m0 : w1.cell? ⟨OB, 0, none⟩ = some (I 5) := O1.cell 0; have m1 : w1.cell? ⟨OB, 1, none⟩ = some (I A) := O1.cell 1; have m2 : w1.cell? ⟨OB, 2, none⟩ = some (I B) := O1.cell 2; have m3 : w1.cell? ⟨OB, 3, none⟩ = some (I C) := O1.cell 3; have m4 : w1.cell? ⟨OB, 4, none⟩ = some (.string s) := O1.cell 4; have m5 : w1.cell? ⟨OB, 5, none⟩ = some (.string t) := O1.cell 5; have m6 : w1.cell? ⟨AB, 0, none⟩ = some (I E) := A1.cell 0; have m7 : w1.cell? ⟨AB, 1, none⟩ = some (I N) := A1.cell 1; have m8 : w1.cell? ⟨AB, 2, none⟩ = some (I 0) := A1.cell 2; have m9 : w1.cell? ⟨AB, 3, none⟩ = some (S T) := A1.cell 3))
  have G1 : Gone w g ds img U W w1 := h1.since (by first | exact Hb.out | exact Hb.out.drew)
  clear h1 k0 m0 k1 m1 k2 m2 k3 m3 k4 m4 k5 m5 k6 m6 k7 m7 k8 m8 k9 m9 u1 O1 A1
  go_wp2
  go_ret
  exact ⟨rfl, G1⟩
set_option maxRecDepth 100000 in
set_option maxHeartbeats 4000000 in
theorem kept_6 (w : World) (x g : Nat) (hl : g < w.heap.size) (ds : List Int) (img : List UInt8) (U : Nat) (W : List Nat) (A B C : Int) (s t : ByteArray) (E N : Int) (T : List UInt8)
    (hO : ∀ v, Below w.heap.size w v → Calls Try.prog 43 #[ptr g, OpV 6 A B C s t] v fun e w' => e = .returned (AnsV E N T) ∧ Gone v g ds img U W w') :
    Calls Try.prog 30 #[ptr x, ptr g, OpV 6 A B C s t, AnsV E N T] w fun e w' => e = .returned (.bool true) ∧ Gone w g ds img U W w' := by
  have b0 := ((Below.refl w.heap.size w).alloc (Nat.le_refl _) (.cells #[I 6, I A, I B, I C, .string s, .string t] 38)).alloc (by simp) (.cells #[I E, I N, I 0, S T] 42)
  have BO : Blk ((w.alloc (.cells #[I 6, I A, I B, I C, .string s, .string t] 38)).alloc (.cells #[I E, I N, I 0, S T] 42)) w.heap.size #[I 6, I A, I B, I C, .string s, .string t] 38 := (Blk.new rfl).old _
  have BA : Blk ((w.alloc (.cells #[I 6, I A, I B, I C, .string s, .string t] 38)).alloc (.cells #[I E, I N, I 0, S T] 42)) (w.heap.size + 1) #[I E, I N, I 0, S T] 42 := Blk.new (by simp)
  go_enter Try.func30, Try.ntmps30
  go_wp2_with fail
  generalize (w.alloc (.cells #[I 6, I A, I B, I C, .string s, .string t] 38)).alloc (.cells #[I E, I N, I 0, S T] 42) = v0 at *
  have g1 : g ≠ w.heap.size := by omega
  have g2 : g ≠ w.heap.size + 1 := by omega
  generalize w.heap.size + 1 = AB at *
  have HO : Hid _ := hO
  clear hO
  have Hb : Hid _ := b0
  clear b0
  obtain ⟨OB, hOB⟩ : ∃ OB, OB = w.heap.size := ⟨_, rfl⟩
  rw [← hOB] at BO g1 ⊢
  have Hob : Hid _ := hOB
  clear hOB
  have k0 : v0.cell? ⟨OB, 0, none⟩ = some (I 6) := BO.cell 0
  have k1 : v0.cell? ⟨OB, 1, none⟩ = some (I A) := BO.cell 1
  have k2 : v0.cell? ⟨OB, 2, none⟩ = some (I B) := BO.cell 2
  have k3 : v0.cell? ⟨OB, 3, none⟩ = some (I C) := BO.cell 3
  have k4 : v0.cell? ⟨OB, 4, none⟩ = some (.string s) := BO.cell 4
  have k5 : v0.cell? ⟨OB, 5, none⟩ = some (.string t) := BO.cell 5
  have k6 : v0.cell? ⟨AB, 0, none⟩ = some (I E) := BA.cell 0
  have k7 : v0.cell? ⟨AB, 1, none⟩ = some (I N) := BA.cell 1
  have k8 : v0.cell? ⟨AB, 2, none⟩ = some (I 0) := BA.cell 2
  have k9 : v0.cell? ⟨AB, 3, none⟩ = some (S T) := BA.cell 3
  go_region_held3 (fun W => W.cell? ⟨OB, 0, none⟩ = some (I 6) ∧ W.cell? ⟨OB, 1, none⟩ = some (I A) ∧ W.cell? ⟨OB, 2, none⟩ = some (I B) ∧ W.cell? ⟨OB, 3, none⟩ = some (I C) ∧ W.cell? ⟨OB, 4, none⟩ = some (.string s) ∧ W.cell? ⟨OB, 5, none⟩ = some (.string t) ∧ W.cell? ⟨AB, 0, none⟩ = some (I E) ∧ W.cell? ⟨AB, 1, none⟩ = some (I N) ∧ W.cell? ⟨AB, 2, none⟩ = some (I 0) ∧ W.cell? ⟨AB, 3, none⟩ = some (S T)) (go_keep) (first | (go_at_call 43; refine (HO.out _ (by first | exact Hb.out | exact Hb.out.drew)).mono ?_; rintro e w1 ⟨rfl, h1⟩; have u1 : Upd [g] v0 w1 := (by obtain ⟨_, _, _, _, u⟩ := h1; first | exact u | exact ((Upd.refl _ _).drew).trans u); have O1 := BO.upd u1 (fun hm => g1 (List.mem_singleton.1 hm).symm); have A1 := BA.upd u1 (fun hm => g2 (List.mem_singleton.1 hm).symm); have m0 : w1.cell? ⟨OB, 0, none⟩ = some (I 6) := O1.cell 0; have m1 : w1.cell? ⟨OB, 1, none⟩ = some (I A) := O1.cell 1; have m2 : w1.cell? ⟨OB, 2, none⟩ = some (I B) := O1.cell 2; have m3 : w1.cell? ⟨OB, 3, none⟩ = some (I C) := O1.cell 3; have m4 : w1.cell? ⟨OB, 4, none⟩ = some (.string s) := O1.cell 4; have m5 : w1.cell? ⟨OB, 5, none⟩ = some (.string t) := O1.cell 5; have m6 : w1.cell? ⟨AB, 0, none⟩ = some (I E) := A1.cell 0; have m7 : w1.cell? ⟨AB, 1, none⟩ = some (I N) := A1.cell 1; have m8 : w1.cell? ⟨AB, 2, none⟩ = some (I 0) := A1.cell 2; have m9 : w1.cell? ⟨AB, 3, none⟩ = some (S T) := A1.cell 3))
  have G1 : Gone w g ds img U W w1 := h1.since (by first | exact Hb.out | exact Hb.out.drew)
  clear h1 k0 m0 k1 m1 k2 m2 k3 m3 k4 m4 k5 m5 k6 m6 k7 m7 k8 m8 k9 m9 u1 O1 A1
  go_wp2
  go_ret
  exact ⟨rfl, G1⟩
set_option maxRecDepth 100000 in
set_option maxHeartbeats 4000000 in
theorem kept_7 (w : World) (x g : Nat) (hl : g < w.heap.size) (ds : List Int) (img : List UInt8) (U : Nat) (W : List Nat) (A B C : Int) (s t : ByteArray) (E N : Int) (T : List UInt8)
    (hO : ∀ v, Below w.heap.size w v → Calls Try.prog 43 #[ptr g, OpV 7 A B C s t] v fun e w' => e = .returned (AnsV E N T) ∧ Gone v g ds img U W w') :
    Calls Try.prog 30 #[ptr x, ptr g, OpV 7 A B C s t, AnsV E N T] w fun e w' => e = .returned (.bool true) ∧ Gone w g ds img U W w' := by
  have b0 := ((Below.refl w.heap.size w).alloc (Nat.le_refl _) (.cells #[I 7, I A, I B, I C, .string s, .string t] 38)).alloc (by simp) (.cells #[I E, I N, I 0, S T] 42)
  have BO : Blk ((w.alloc (.cells #[I 7, I A, I B, I C, .string s, .string t] 38)).alloc (.cells #[I E, I N, I 0, S T] 42)) w.heap.size #[I 7, I A, I B, I C, .string s, .string t] 38 := (Blk.new rfl).old _
  have BA : Blk ((w.alloc (.cells #[I 7, I A, I B, I C, .string s, .string t] 38)).alloc (.cells #[I E, I N, I 0, S T] 42)) (w.heap.size + 1) #[I E, I N, I 0, S T] 42 := Blk.new (by simp)
  go_enter Try.func30, Try.ntmps30
  go_wp2_with fail
  generalize (w.alloc (.cells #[I 7, I A, I B, I C, .string s, .string t] 38)).alloc (.cells #[I E, I N, I 0, S T] 42) = v0 at *
  have g1 : g ≠ w.heap.size := by omega
  have g2 : g ≠ w.heap.size + 1 := by omega
  generalize w.heap.size + 1 = AB at *
  have HO : Hid _ := hO
  clear hO
  have Hb : Hid _ := b0
  clear b0
  obtain ⟨OB, hOB⟩ : ∃ OB, OB = w.heap.size := ⟨_, rfl⟩
  rw [← hOB] at BO g1 ⊢
  have Hob : Hid _ := hOB
  clear hOB
  have k0 : v0.cell? ⟨OB, 0, none⟩ = some (I 7) := BO.cell 0
  have k1 : v0.cell? ⟨OB, 1, none⟩ = some (I A) := BO.cell 1
  have k2 : v0.cell? ⟨OB, 2, none⟩ = some (I B) := BO.cell 2
  have k3 : v0.cell? ⟨OB, 3, none⟩ = some (I C) := BO.cell 3
  have k4 : v0.cell? ⟨OB, 4, none⟩ = some (.string s) := BO.cell 4
  have k5 : v0.cell? ⟨OB, 5, none⟩ = some (.string t) := BO.cell 5
  have k6 : v0.cell? ⟨AB, 0, none⟩ = some (I E) := BA.cell 0
  have k7 : v0.cell? ⟨AB, 1, none⟩ = some (I N) := BA.cell 1
  have k8 : v0.cell? ⟨AB, 2, none⟩ = some (I 0) := BA.cell 2
  have k9 : v0.cell? ⟨AB, 3, none⟩ = some (S T) := BA.cell 3
  go_region_held3 (fun W => W.cell? ⟨OB, 0, none⟩ = some (I 7) ∧ W.cell? ⟨OB, 1, none⟩ = some (I A) ∧ W.cell? ⟨OB, 2, none⟩ = some (I B) ∧ W.cell? ⟨OB, 3, none⟩ = some (I C) ∧ W.cell? ⟨OB, 4, none⟩ = some (.string s) ∧ W.cell? ⟨OB, 5, none⟩ = some (.string t) ∧ W.cell? ⟨AB, 0, none⟩ = some (I E) ∧ W.cell? ⟨AB, 1, none⟩ = some (I N) ∧ W.cell? ⟨AB, 2, none⟩ = some (I 0) ∧ W.cell? ⟨AB, 3, none⟩ = some (S T)) (go_keep) (first | (go_at_call 43; refine (HO.out _ (by first | exact Hb.out | exact Hb.out.drew)).mono ?_; rintro e w1 ⟨rfl, h1⟩; have u1 : Upd [g] v0 w1 := (by obtain ⟨_, _, _, _, u⟩ := h1; first | exact u | exact ((Upd.refl _ _).drew).trans u); have O1 := BO.upd u1 (fun hm => g1 (List.mem_singleton.1 hm).symm); have A1 := BA.upd u1 (fun hm => g2 (List.mem_singleton.1 hm).symm); have m0 : w1.cell? ⟨OB, 0, none⟩ = some (I 7) := O1.cell 0; have m1 : w1.cell? ⟨OB, 1, none⟩ = some (I A) := O1.cell 1; have m2 : w1.cell? ⟨OB, 2, none⟩ = some (I B) := O1.cell 2; have m3 : w1.cell? ⟨OB, 3, none⟩ = some (I C) := O1.cell 3; have m4 : w1.cell? ⟨OB, 4, none⟩ = some (.string s) := O1.cell 4; have m5 : w1.cell? ⟨OB, 5, none⟩ = some (.string t) := O1.cell 5; have m6 : w1.cell? ⟨AB, 0, none⟩ = some (I E) := A1.cell 0; have m7 : w1.cell? ⟨AB, 1, none⟩ = some (I N) := A1.cell 1; have m8 : w1.cell? ⟨AB, 2, none⟩ = some (I 0) := A1.cell 2; have m9 : w1.cell? ⟨AB, 3, none⟩ = some (S T) := A1.cell 3))
  have G1 : Gone w g ds img U W w1 := h1.since (by first | exact Hb.out | exact Hb.out.drew)
  clear h1 k0 m0 k1 m1 k2 m2 k3 m3 k4 m4 k5 m5 k6 m6 k7 m7 k8 m8 k9 m9 u1 O1 A1
  go_wp2
  go_ret
  exact ⟨rfl, G1⟩
set_option maxRecDepth 100000 in
set_option maxHeartbeats 4000000 in
theorem kept_8 (w : World) (x g : Nat) (hl : g < w.heap.size) (ds : List Int) (img : List UInt8) (U : Nat) (W : List Nat) (A B C : Int) (s t : ByteArray) (E N : Int) (T : List UInt8)
    (hO : ∀ v, Below w.heap.size w v → Calls Try.prog 43 #[ptr g, OpV 8 A B C s t] v fun e w' => e = .returned (AnsV E N T) ∧ Gone v g ds img U W w') :
    Calls Try.prog 30 #[ptr x, ptr g, OpV 8 A B C s t, AnsV E N T] w fun e w' => e = .returned (.bool true) ∧ Gone w g ds img U W w' := by
  have b0 := ((Below.refl w.heap.size w).alloc (Nat.le_refl _) (.cells #[I 8, I A, I B, I C, .string s, .string t] 38)).alloc (by simp) (.cells #[I E, I N, I 0, S T] 42)
  have BO : Blk ((w.alloc (.cells #[I 8, I A, I B, I C, .string s, .string t] 38)).alloc (.cells #[I E, I N, I 0, S T] 42)) w.heap.size #[I 8, I A, I B, I C, .string s, .string t] 38 := (Blk.new rfl).old _
  have BA : Blk ((w.alloc (.cells #[I 8, I A, I B, I C, .string s, .string t] 38)).alloc (.cells #[I E, I N, I 0, S T] 42)) (w.heap.size + 1) #[I E, I N, I 0, S T] 42 := Blk.new (by simp)
  go_enter Try.func30, Try.ntmps30
  go_wp2_with fail
  generalize (w.alloc (.cells #[I 8, I A, I B, I C, .string s, .string t] 38)).alloc (.cells #[I E, I N, I 0, S T] 42) = v0 at *
  have g1 : g ≠ w.heap.size := by omega
  have g2 : g ≠ w.heap.size + 1 := by omega
  generalize w.heap.size + 1 = AB at *
  have HO : Hid _ := hO
  clear hO
  have Hb : Hid _ := b0
  clear b0
  obtain ⟨OB, hOB⟩ : ∃ OB, OB = w.heap.size := ⟨_, rfl⟩
  rw [← hOB] at BO g1 ⊢
  have Hob : Hid _ := hOB
  clear hOB
  have k0 : v0.cell? ⟨OB, 0, none⟩ = some (I 8) := BO.cell 0
  have k1 : v0.cell? ⟨OB, 1, none⟩ = some (I A) := BO.cell 1
  have k2 : v0.cell? ⟨OB, 2, none⟩ = some (I B) := BO.cell 2
  have k3 : v0.cell? ⟨OB, 3, none⟩ = some (I C) := BO.cell 3
  have k4 : v0.cell? ⟨OB, 4, none⟩ = some (.string s) := BO.cell 4
  have k5 : v0.cell? ⟨OB, 5, none⟩ = some (.string t) := BO.cell 5
  have k6 : v0.cell? ⟨AB, 0, none⟩ = some (I E) := BA.cell 0
  have k7 : v0.cell? ⟨AB, 1, none⟩ = some (I N) := BA.cell 1
  have k8 : v0.cell? ⟨AB, 2, none⟩ = some (I 0) := BA.cell 2
  have k9 : v0.cell? ⟨AB, 3, none⟩ = some (S T) := BA.cell 3
  go_region_held3 (fun W => W.cell? ⟨OB, 0, none⟩ = some (I 8) ∧ W.cell? ⟨OB, 1, none⟩ = some (I A) ∧ W.cell? ⟨OB, 2, none⟩ = some (I B) ∧ W.cell? ⟨OB, 3, none⟩ = some (I C) ∧ W.cell? ⟨OB, 4, none⟩ = some (.string s) ∧ W.cell? ⟨OB, 5, none⟩ = some (.string t) ∧ W.cell? ⟨AB, 0, none⟩ = some (I E) ∧ W.cell? ⟨AB, 1, none⟩ = some (I N) ∧ W.cell? ⟨AB, 2, none⟩ = some (I 0) ∧ W.cell? ⟨AB, 3, none⟩ = some (S T)) (go_keep) (first | (go_at_call 43; refine (HO.out _ (by first | exact Hb.out | exact Hb.out.drew)).mono ?_; rintro e w1 ⟨rfl, h1⟩; have u1 : Upd [g] v0 w1 := (by obtain ⟨_, _, _, _, u⟩ := h1; first | exact u | exact ((Upd.refl _ _).drew).trans u); have O1 := BO.upd u1 (fun hm => g1 (List.mem_singleton.1 hm).symm); have A1 := BA.upd u1 (fun hm => g2 (List.mem_singleton.1 hm).symm); have m0 : w1.cell? ⟨OB, 0, none⟩ = some (I 8) := O1.cell 0; have m1 : w1.cell? ⟨OB, 1, none⟩ = some (I A) := O1.cell 1; have m2 : w1.cell? ⟨OB, 2, none⟩ = some (I B) := O1.cell 2; have m3 : w1.cell? ⟨OB, 3, none⟩ = some (I C) := O1.cell 3; have m4 : w1.cell? ⟨OB, 4, none⟩ = some (.string s) := O1.cell 4; have m5 : w1.cell? ⟨OB, 5, none⟩ = some (.string t) := O1.cell 5; have m6 : w1.cell? ⟨AB, 0, none⟩ = some (I E) := A1.cell 0; have m7 : w1.cell? ⟨AB, 1, none⟩ = some (I N) := A1.cell 1; have m8 : w1.cell? ⟨AB, 2, none⟩ = some (I 0) := A1.cell 2; have m9 : w1.cell? ⟨AB, 3, none⟩ = some (S T) := A1.cell 3))
  have G1 : Gone w g ds img U W w1 := h1.since (by first | exact Hb.out | exact Hb.out.drew)
  clear h1 k0 m0 k1 m1 k2 m2 k3 m3 k4 m4 k5 m5 k6 m6 k7 m7 k8 m8 k9 m9 u1 O1 A1
  go_wp2
  go_ret
  exact ⟨rfl, G1⟩
set_option maxRecDepth 100000 in
set_option maxHeartbeats 4000000 in
theorem kept_10 (w : World) (x g : Nat) (ds : List Int) (img : List UInt8) (U : Nat) (W : List Nat) (A B C : Int) (s t : ByteArray) (E N : Int) (T : List UInt8)
    (hO : ∀ v, Below w.heap.size w v → Calls Try.prog 44 #[ptr x, ptr g, .string s, AnsV E N T] v fun e w' => e = .returned (.bool true) ∧ Gone v g ds img U W w') :
    Calls Try.prog 30 #[ptr x, ptr g, OpV 10 A B C s t, AnsV E N T] w fun e w' => e = .returned (.bool true) ∧ Gone w g ds img U W w' := by
  have b0 := ((Below.refl w.heap.size w).alloc (Nat.le_refl _) (.cells #[I 10, I A, I B, I C, .string s, .string t] 38)).alloc (by simp) (.cells #[I E, I N, I 0, S T] 42)
  have BO : Blk ((w.alloc (.cells #[I 10, I A, I B, I C, .string s, .string t] 38)).alloc (.cells #[I E, I N, I 0, S T] 42)) w.heap.size #[I 10, I A, I B, I C, .string s, .string t] 38 := (Blk.new rfl).old _
  have BA : Blk ((w.alloc (.cells #[I 10, I A, I B, I C, .string s, .string t] 38)).alloc (.cells #[I E, I N, I 0, S T] 42)) (w.heap.size + 1) #[I E, I N, I 0, S T] 42 := Blk.new (by simp)
  go_enter Try.func30, Try.ntmps30
  go_wp2_with fail
  generalize (w.alloc (.cells #[I 10, I A, I B, I C, .string s, .string t] 38)).alloc (.cells #[I E, I N, I 0, S T] 42) = v0 at *
  refine (hO _ b0).mono ?_
  rintro e w1 ⟨rfl, h1⟩
  have G1 := h1.since b0
  clear h1 b0 BO BA
  go_wp2
  go_ret
  exact ⟨rfl, G1⟩
set_option maxRecDepth 100000 in
set_option maxHeartbeats 4000000 in
theorem kept_11 (w : World) (x g : Nat) (hl : g < w.heap.size) (ds : List Int) (img : List UInt8) (us : List Bool) (hs : List Int) (hg : GhR w g us hs ds img) (U : Nat) (W : List Nat) (A B C : Int) (s t : ByteArray) (E N : Int) (T : List UInt8)
    (hO : ∀ v, Below w.heap.size w v → Calls Try.prog 44 #[ptr x, ptr g, S img, AnsV E N T] v fun e w' => e = .returned (.bool true) ∧ Gone v g ds img U W w') :
    Calls Try.prog 30 #[ptr x, ptr g, OpV 11 A B C s t, AnsV E N T] w fun e w' => e = .returned (.bool true) ∧ Gone w g ds img U W w' := by
  have b0 := ((Below.refl w.heap.size w).alloc (Nat.le_refl _) (.cells #[I 11, I A, I B, I C, .string s, .string t] 38)).alloc (by simp) (.cells #[I E, I N, I 0, S T] 42)
  have BO : Blk ((w.alloc (.cells #[I 11, I A, I B, I C, .string s, .string t] 38)).alloc (.cells #[I E, I N, I 0, S T] 42)) w.heap.size #[I 11, I A, I B, I C, .string s, .string t] 38 := (Blk.new rfl).old _
  have BA : Blk ((w.alloc (.cells #[I 11, I A, I B, I C, .string s, .string t] 38)).alloc (.cells #[I E, I N, I 0, S T] 42)) (w.heap.size + 1) #[I E, I N, I 0, S T] 42 := Blk.new (by simp)
  go_enter Try.func30, Try.ntmps30
  go_wp2_with fail
  generalize (w.alloc (.cells #[I 11, I A, I B, I C, .string s, .string t] 38)).alloc (.cells #[I E, I N, I 0, S T] 42) = v0 at *
  have hg0 := hg.later b0
  have d53 : v0.cell? ⟨g, 53, none⟩ = some (S img) := (hg0.head.cell 53).trans (ghC_i _ _ _ _ hg0.l1 hg0.l2 hg0.l3)
  have g1 : g ≠ w.heap.size := by omega
  have g2 : g ≠ w.heap.size + 1 := by omega
  generalize w.heap.size + 1 = AB at *
  have HO : Hid _ := hO
  clear hO
  have Hb : Hid _ := b0
  clear b0
  obtain ⟨OB, hOB⟩ : ∃ OB, OB = w.heap.size := ⟨_, rfl⟩
  rw [← hOB] at BO g1 ⊢
  have Hob : Hid _ := hOB
  clear hOB
  have k0 : v0.cell? ⟨AB, 0, none⟩ = some (I E) := BA.cell 0
  have k1 : v0.cell? ⟨AB, 1, none⟩ = some (I N) := BA.cell 1
  have k2 : v0.cell? ⟨AB, 2, none⟩ = some (I 0) := BA.cell 2
  have k3 : v0.cell? ⟨AB, 3, none⟩ = some (S T) := BA.cell 3
  go_region_held3 (fun W => W.cell? ⟨g, 53, none⟩ = some (S img) ∧ W.cell? ⟨AB, 0, none⟩ = some (I E) ∧ W.cell? ⟨AB, 1, none⟩ = some (I N) ∧ W.cell? ⟨AB, 2, none⟩ = some (I 0) ∧ W.cell? ⟨AB, 3, none⟩ = some (S T)) (go_keep) (first | (go_at_call 44; refine (HO.out _ (by first | exact Hb.out | exact Hb.out.drew)).mono ?_; rintro e w1 ⟨rfl, h1⟩; have u1 : Upd [g] v0 w1 := (by obtain ⟨_, _, _, _, u⟩ := h1; first | exact u | exact ((Upd.refl _ _).drew).trans u); have A1 := BA.upd u1 (fun hm => g2 (List.mem_singleton.1 hm).symm); have m9 : w1.cell? ⟨g, 53, none⟩ = some (S img) := (by obtain ⟨_, _, G, _, _⟩ := h1; exact (G.head.cell 53).trans (ghC_i _ _ _ _ G.l1 G.l2 G.l3)); have m0 : w1.cell? ⟨AB, 0, none⟩ = some (I E) := A1.cell 0; have m1 : w1.cell? ⟨AB, 1, none⟩ = some (I N) := A1.cell 1; have m2 : w1.cell? ⟨AB, 2, none⟩ = some (I 0) := A1.cell 2; have m3 : w1.cell? ⟨AB, 3, none⟩ = some (S T) := A1.cell 3))
  have G1 : Gone w g ds img U W w1 := h1.since (by first | exact Hb.out | exact Hb.out.drew)
  clear h1 k0 m0 k1 m1 k2 m2 k3 m3 u1 A1 m9 d53
  go_wp2
  go_ret
  exact ⟨rfl, G1⟩
set_option maxRecDepth 100000 in
set_option maxHeartbeats 4000000 in
theorem kept_9 (w : World) (x g : Nat) (hl : g < w.heap.size) (A B C : Int) (s t : ByteArray) (E N : Int) (T : List UInt8)
    (hO : ∀ v, Below w.heap.size w v → Calls Try.prog 45 #[ptr g] v fun e w' => e = .returned (S T) ∧ Below v.heap.size v w') :
    Calls Try.prog 30 #[ptr x, ptr g, OpV 9 A B C s t, AnsV E N T] w fun e w' => e = .returned (.bool true) ∧ Below w.heap.size w w' := by
  have b0 := ((Below.refl w.heap.size w).alloc (Nat.le_refl _) (.cells #[I 9, I A, I B, I C, .string s, .string t] 38)).alloc (by simp) (.cells #[I E, I N, I 0, S T] 42)
  have BO : Blk ((w.alloc (.cells #[I 9, I A, I B, I C, .string s, .string t] 38)).alloc (.cells #[I E, I N, I 0, S T] 42)) w.heap.size #[I 9, I A, I B, I C, .string s, .string t] 38 := (Blk.new rfl).old _
  have BA : Blk ((w.alloc (.cells #[I 9, I A, I B, I C, .string s, .string t] 38)).alloc (.cells #[I E, I N, I 0, S T] 42)) (w.heap.size + 1) #[I E, I N, I 0, S T] 42 := Blk.new (by simp)
  go_enter Try.func30, Try.ntmps30
  go_wp2_with fail
  generalize (w.alloc (.cells #[I 9, I A, I B, I C, .string s, .string t] 38)).alloc (.cells #[I E, I N, I 0, S T] 42) = v0 at *
  have g1 : g ≠ w.heap.size := by omega
  have g2 : g ≠ w.heap.size + 1 := by omega
  generalize w.heap.size + 1 = AB at *
  have HO : Hid _ := hO
  clear hO
  have Hb : Hid _ := b0
  clear b0
  obtain ⟨OB, hOB⟩ : ∃ OB, OB = w.heap.size := ⟨_, rfl⟩
  rw [← hOB] at BO g1 ⊢
  have Hob : Hid _ := hOB
  clear hOB
  have k3 : v0.cell? ⟨AB, 3, none⟩ = some (S T) := BA.cell 3
  go_region_held3 (fun W => W.cell? ⟨AB, 3, none⟩ = some (S T)) (go_keep) (first | (go_at_call 45; refine (HO.out _ (by first | exact Hb.out | exact Hb.out.drew)).mono ?_; rintro e w1 ⟨rfl, h1⟩; have u1 : Below v0.heap.size v0 w1 := (by first | exact h1 | exact ((Below.refl v0.heap.size v0).drew).trans h1); have m3 : w1.cell? ⟨AB, 3, none⟩ = some (S T) := (u1.cell (p := ⟨AB, 3, none⟩) BA.lt).trans k3))
  have G1 : Below w.heap.size w w1 := Hb.out.trans (u1.mono Hb.out.size)
  clear h1 k3 m3 u1
  go_wp2
  go_ret
  exact ⟨rfl, G1⟩
set_option maxRecDepth 100000 in
set_option maxHeartbeats 4000000 in
theorem kept_14 (w : World) (x g : Nat) (hl : g < w.heap.size) (A B C : Int) (s t : ByteArray) (E N : Int) (T : List UInt8)
    (hO : ∀ v, Below w.heap.size w v → Calls Try.prog 46 #[ptr g] v fun e w' => e = .returned (S T) ∧ Below v.heap.size v w') :
    Calls Try.prog 30 #[ptr x, ptr g, OpV 14 A B C s t, AnsV E N T] w fun e w' => e = .returned (.bool true) ∧ Below w.heap.size w w' := by
  have b0 := ((Below.refl w.heap.size w).alloc (Nat.le_refl _) (.cells #[I 14, I A, I B, I C, .string s, .string t] 38)).alloc (by simp) (.cells #[I E, I N, I 0, S T] 42)
  have BO : Blk ((w.alloc (.cells #[I 14, I A, I B, I C, .string s, .string t] 38)).alloc (.cells #[I E, I N, I 0, S T] 42)) w.heap.size #[I 14, I A, I B, I C, .string s, .string t] 38 := (Blk.new rfl).old _
  have BA : Blk ((w.alloc (.cells #[I 14, I A, I B, I C, .string s, .string t] 38)).alloc (.cells #[I E, I N, I 0, S T] 42)) (w.heap.size + 1) #[I E, I N, I 0, S T] 42 := Blk.new (by simp)
  go_enter Try.func30, Try.ntmps30
  go_wp2_with fail
  generalize (w.alloc (.cells #[I 14, I A, I B, I C, .string s, .string t] 38)).alloc (.cells #[I E, I N, I 0, S T] 42) = v0 at *
  have g1 : g ≠ w.heap.size := by omega
  have g2 : g ≠ w.heap.size + 1 := by omega
  generalize w.heap.size + 1 = AB at *
  have HO : Hid _ := hO
  clear hO
  have Hb : Hid _ := b0
  clear b0
  obtain ⟨OB, hOB⟩ : ∃ OB, OB = w.heap.size := ⟨_, rfl⟩
  rw [← hOB] at BO g1 ⊢
  have Hob : Hid _ := hOB
  clear hOB
  have k3 : v0.cell? ⟨AB, 3, none⟩ = some (S T) := BA.cell 3
  go_region_held3 (fun W => W.cell? ⟨AB, 3, none⟩ = some (S T)) (go_keep) (first | (go_at_call 46; refine (HO.out _ (by first | exact Hb.out | exact Hb.out.drew)).mono ?_; rintro e w1 ⟨rfl, h1⟩; have u1 : Below v0.heap.size v0 w1 := (by first | exact h1 | exact ((Below.refl v0.heap.size v0).drew).trans h1); have m3 : w1.cell? ⟨AB, 3, none⟩ = some (S T) := (u1.cell (p := ⟨AB, 3, none⟩) BA.lt).trans k3))
  have G1 : Below w.heap.size w w1 := Hb.out.trans (u1.mono Hb.out.size)
  clear h1 k3 m3 u1
  go_wp2
  go_ret
  exact ⟨rfl, G1⟩
set_option maxRecDepth 100000 in
set_option maxHeartbeats 4000000 in
theorem kept_15 (w : World) (x g : Nat) (A B C : Int) (s t : ByteArray) (E : Int) (T : List UInt8) :
    Calls Try.prog 30 #[ptr x, ptr g, OpV 15 A B C s t, AnsV E 1 T] w fun e w' => e = .returned (.bool true) ∧ Below w.heap.size w w' := by
  have b0 := ((Below.refl w.heap.size w).alloc (Nat.le_refl _) (.cells #[I 15, I A, I B, I C, .string s, .string t] 38)).alloc (by simp) (.cells #[I E, I 1, I 0, S T] 42)
  go_enter Try.func30, Try.ntmps30
  go_wp2
  go_ret
  exact ⟨rfl, b0⟩
set_option maxRecDepth 100000 in
set_option maxHeartbeats 4000000 in
theorem kept_o (w : World) (x g : Nat) (K A B C : Int) (s t : ByteArray) (E N : Int) (T : List UInt8) (k4 : K ≠ 4) (k5 : K ≠ 5) (k6 : K ≠ 6) (k7 : K ≠ 7) (k8 : K ≠ 8) (k9 : K ≠ 9) (k10 : K ≠ 10) (k11 : K ≠ 11) (k14 : K ≠ 14) (k15 : K ≠ 15) :
    Calls Try.prog 30 #[ptr x, ptr g, OpV K A B C s t, AnsV E N T] w fun e w' => e = .returned (.bool true) ∧ Below w.heap.size w w' := by
  have b0 := ((Below.refl w.heap.size w).alloc (Nat.le_refl _) (.cells #[I K, I A, I B, I C, .string s, .string t] 38)).alloc (by simp) (.cells #[I E, I N, I 0, S T] 42)
  have j4 : (K == 4) = false := by simpa using k4
  have j5 : (K == 5) = false := by simpa using k5
  have j6 : (K == 6) = false := by simpa using k6
  have j7 : (K == 7) = false := by simpa using k7
  have j8 : (K == 8) = false := by simpa using k8
  have j9 : (K == 9) = false := by simpa using k9
  have j10 : (K == 10) = false := by simpa using k10
  have j11 : (K == 11) = false := by simpa using k11
  have j14 : (K == 14) = false := by simpa using k14
  have j15 : (K == 15) = false := by simpa using k15
  clear k4 k5 k6 k7 k8 k9 k10 k11 k14 k15
  go_enter Try.func30, Try.ntmps30
  go_wp2
  go_ret
  exact ⟨rfl, b0⟩
end Go.Proofs.Qxb6500468a
