import Derived.Test.Qxb6500472aHo2
namespace Go.Proofs.Qxb6500472a
open Go.RowKit
attribute [local go_sem] run_store_float drewN_alloc drewN_setCell
/-- Inside Note: the pair, and the three boxed arguments. -/
structure NSt (V : World) (q hx hy : Nat) (L A B : List Nat) (G : Nat) (K a j c : Int) (s t : ByteArray) (E N : Int) (S' : List UInt8) : Prop where
  hm : HM V q hx hy L A B
  ow : Blk V G #[ptr hx, ptr hy] 42
  op : Blk V (G + 1) #[I K, I a, I j, I c, .string s, .string t] 48
  an : Blk V (G + 2) #[I E, I N, I 0, S S'] 50
  o0 : G ∉ L
  o1 : G + 1 ∉ L
  o2 : G + 2 ∉ L
theorem NSt.init {w : World} {q hx hy : Nat} {L A B : List Nat} (h : HM w q hx hy L A B) (K a j c : Int) (s t : ByteArray) (E N : Int) (S' : List UInt8) :
    NSt (((w.alloc (.cells #[ptr hx, ptr hy] 42)).alloc (.cells #[I K, I a, I j, I c, .string s, .string t] 48)).alloc (.cells #[I E, I N, I 0, S S'] 50)) q hx hy L A B w.heap.size K a j c s t E N S' ∧ Upd L w (((w.alloc (.cells #[ptr hx, ptr hy] 42)).alloc (.cells #[I K, I a, I j, I c, .string s, .string t] 48)).alloc (.cells #[I E, I N, I 0, S S'] 50)) := by
  have b0 : Below w.heap.size w (((w.alloc (.cells #[ptr hx, ptr hy] 42)).alloc (.cells #[I K, I a, I j, I c, .string s, .string t] 48)).alloc (.cells #[I E, I N, I 0, S S'] 50)) := (((Below.refl _ _).alloc (Nat.le_refl _) _).alloc (by simp) _).alloc (by simp; omega) _
  exact ⟨⟨h.later b0, ((Blk.new rfl : Blk (w.alloc _) _ _ _).old _).old _, (Blk.new (World.size_alloc _ _).symm : Blk ((w.alloc _).alloc _) _ _ _).old _, Blk.new (by simp), h.out (Nat.le_refl _), h.out (Nat.le_add_right _ 1), h.out (Nat.le_add_right _ 2)⟩, Upd.of_below b0⟩
theorem NSt.step {V V' : World} {q hx hy : Nat} {L A B A' B' : List Nat} {G : Nat} {K a j c : Int} {s t : ByteArray} {E N : Int} {S' : List UInt8} (h : NSt V q hx hy L A B G K a j c s t E N S') (p : HPost q hx hy L V A' B' V') :
    ∃ L', NSt V' q hx hy L' A' B' G K a j c s t E N S' ∧ (∀ g, g ∈ L' → g ∈ L ∨ V.heap.size ≤ g) ∧ Upd L V V' := by
  have l0 := h.ow.lt
  have l1 := h.op.lt
  have l2 := h.an.lt
  have a1 := p.blk h.ow h.o0
  have a2 := p.blk h.op h.o1
  have a3 := p.blk h.an h.o2
  obtain ⟨L', m, n, u⟩ := p
  refine ⟨L', ⟨m, a1, a2, a3, fun hm => ?_, fun hm => ?_, fun hm => ?_⟩, n, u⟩
  · rcases n _ hm with e | e
    · exact h.o0 e
    · omega
  · rcases n _ hm with e | e
    · exact h.o1 e
    · omega
  · rcases n _ hm with e | e
    · exact h.o2 e
    · omega
theorem NSt.later {V V' : World} {q hx hy : Nat} {L A B : List Nat} {G : Nat} {K a j c : Int} {s t : ByteArray} {E N : Int} {S' : List UInt8} (h : NSt V q hx hy L A B G K a j c s t E N S') (u : Below V.heap.size V V') : NSt V' q hx hy L A B G K a j c s t E N S' :=
  ⟨h.hm.later u, h.ow.below u h.ow.lt, h.op.below u h.op.lt, h.an.below u h.an.lt, h.o0, h.o1, h.o2⟩

set_option maxHeartbeats 2000000 in
theorem note_full (w : World) (q hx hy : Nat) (L A B : List Nat) (h : HM w q hx hy L A B) (hn : A.length = 8) (a j c : Int) (s t : ByteArray) :
    Calls Try.prog 21 #[.agg #[ptr hx, ptr hy], OpV 1 a j c s t, AnsV 1 0 []] w fun x w' => x = .returned (.bool true) ∧ HPost q hx hy L w A B w' := by
  have ML := fun V L hV => hx_len V q hx hy L A B hV
  rw [hn] at ML
  obtain ⟨h0, u0⟩ := NSt.init h 1 a j c s t 1 0 []
  go_enter Try.func21, Try.ntmps21
  go_wp2_with fail
  refine (ML _ _ h0.hm).mono ?_
  rintro e w1 ⟨rfl, p1⟩
  obtain ⟨L1, h1, n1, u1⟩ := h0.step p1
  clear p1 h0 ML
  obtain ⟨o1, o2, o3⟩ := h1.ow.facts
  obtain ⟨c1, c2, c3⟩ := h1.op.facts
  obtain ⟨a1, a2, a3⟩ := h1.an.facts
  go_wp2
  go_ret
  exact ⟨rfl, .trans (fun g hg => .inl hg) u0 (.trans n1 u1 (.refl h1.hm))⟩

set_option maxHeartbeats 2000000 in
theorem note_add (w : World) (q hx hy : Nat) (L A B : List Nat) (h : HM w q hx hy L A B) (hl : B.length = A.length) (hn : A.length < 8) (a j c : Int) (s t : ByteArray) :
    Calls Try.prog 21 #[.agg #[ptr hx, ptr hy], OpV 1 a j c s t, AnsV 0 0 []] w fun x w' => x = .returned (.bool true) ∧ HPost q hx hy L w (A ++ [ratioF a c]) (B ++ [ratioF j c]) w' := by
  have ML := fun V L hV => hx_len V q hx hy L A B hV
  have PX := fun V L hV => hx_push V q hx hy L A B hV hn a c
  have PY := fun V L hV => hy_push V q hx hy L (A ++ [ratioF a c]) B hV (by omega) j c
  have hn' : ¬ (8 : Int) ≤ (A.length : Int) := by omega
  generalize A ++ [ratioF a c] = A' at *
  generalize B ++ [ratioF j c] = B' at *
  obtain ⟨h0, u0⟩ := NSt.init h 1 a j c s t 0 0 []
  go_enter Try.func21, Try.ntmps21
  go_wp2_with fail
  refine (ML _ _ h0.hm).mono ?_
  rintro e w1 ⟨rfl, p1⟩
  obtain ⟨L1, h1, n1, u1⟩ := h0.step p1
  clear p1 h0 ML
  obtain ⟨o1, o2, o3⟩ := h1.ow.facts
  obtain ⟨c1, c2, c3⟩ := h1.op.facts
  obtain ⟨a1, a2, a3⟩ := h1.an.facts
  go_wp2_with fail
  refine (PX _ _ h1.hm).mono ?_
  rintro e w2 ⟨rfl, p2⟩
  obtain ⟨L2, h2, n2, u2⟩ := h1.step p2
  clear p2 o1 o2 o3 c1 c2 c3 a1 a2 a3
  obtain ⟨o1, o2, o3⟩ := h2.ow.facts
  obtain ⟨c1, c2, c3⟩ := h2.op.facts
  obtain ⟨a1, a2, a3⟩ := h2.an.facts
  go_wp2_with fail
  refine (PY _ _ h2.hm).mono ?_
  rintro e w3 ⟨rfl, p3⟩
  obtain ⟨L3, h3, n3, u3⟩ := h2.step p3
  clear p3 o1 o2 o3 c1 c2 c3 a1 a2 a3
  obtain ⟨o1, o2, o3⟩ := h3.ow.facts
  obtain ⟨c1, c2, c3⟩ := h3.op.facts
  obtain ⟨a1, a2, a3⟩ := h3.an.facts
  go_wp2
  go_ret
  exact ⟨rfl, .trans (fun g hg => .inl hg) u0 (.trans n1 u1 (.trans n2 u2 (.trans n3 u3 (.refl h3.hm))))⟩

set_option maxHeartbeats 2000000 in
theorem note_empty (w : World) (q hx hy : Nat) (L A B : List Nat) (h : HM w q hx hy L A B) (hn : A = []) (a j c : Int) (s t : ByteArray) :
    Calls Try.prog 21 #[.agg #[ptr hx, ptr hy], OpV 2 a j c s t, AnsV 2 0 []] w fun x w' => x = .returned (.bool true) ∧ HPost q hx hy L w A B w' := by
  have ML := fun V L hV => hx_len V q hx hy L A B hV
  have hz : (A.length : Int) = 0 := by rw [hn]; rfl
  rw [hz] at ML
  obtain ⟨h0, u0⟩ := NSt.init h 2 a j c s t 2 0 []
  go_enter Try.func21, Try.ntmps21
  go_wp2_with fail
  refine (ML _ _ h0.hm).mono ?_
  rintro e w1 ⟨rfl, p1⟩
  obtain ⟨L1, h1, n1, u1⟩ := h0.step p1
  clear p1 h0 ML
  obtain ⟨o1, o2, o3⟩ := h1.ow.facts
  obtain ⟨c1, c2, c3⟩ := h1.op.facts
  obtain ⟨a1, a2, a3⟩ := h1.an.facts
  go_wp2
  go_ret
  exact ⟨rfl, .trans (fun g hg => .inl hg) u0 (.trans n1 u1 (.refl h1.hm))⟩

set_option maxHeartbeats 2000000 in
theorem note_drop (w : World) (q hx hy : Nat) (L A B : List Nat) (h : HM w q hx hy L A B) (hl : B.length = A.length) (hn : A ≠ []) (a j c : Int) (s t : ByteArray) :
    Calls Try.prog 21 #[.agg #[ptr hx, ptr hy], OpV 2 a j c s t, AnsV 0 0 []] w fun x w' => x = .returned (.bool true) ∧ HPost q hx hy L w A.dropLast B.dropLast w' := by
  have ML := fun V L hV => hx_len V q hx hy L A B hV
  have hz := len_ne hn
  have PX := fun V L hV => hx_pop V q hx hy L A B hV hn
  have PY := fun V L hV => hy_pop V q hx hy L A.dropLast B hV (other_nil hl hn)
  generalize A.dropLast = A' at *
  generalize B.dropLast = B' at *
  obtain ⟨h0, u0⟩ := NSt.init h 2 a j c s t 0 0 []
  go_enter Try.func21, Try.ntmps21
  go_wp2_with fail
  refine (ML _ _ h0.hm).mono ?_
  rintro e w1 ⟨rfl, p1⟩
  obtain ⟨L1, h1, n1, u1⟩ := h0.step p1
  clear p1 h0 ML
  obtain ⟨o1, o2, o3⟩ := h1.ow.facts
  obtain ⟨c1, c2, c3⟩ := h1.op.facts
  obtain ⟨a1, a2, a3⟩ := h1.an.facts
  go_wp2_with fail
  refine (PX _ _ h1.hm).mono ?_
  rintro e w2 ⟨rfl, p2⟩
  obtain ⟨L2, h2, n2, u2⟩ := h1.step p2
  clear p2 o1 o2 o3 c1 c2 c3 a1 a2 a3
  obtain ⟨o1, o2, o3⟩ := h2.ow.facts
  obtain ⟨c1, c2, c3⟩ := h2.op.facts
  obtain ⟨a1, a2, a3⟩ := h2.an.facts
  go_wp2_with fail
  refine (PY _ _ h2.hm).mono ?_
  rintro e w3 ⟨rfl, p3⟩
  obtain ⟨L3, h3, n3, u3⟩ := h2.step p3
  clear p3 o1 o2 o3 c1 c2 c3 a1 a2 a3
  obtain ⟨o1, o2, o3⟩ := h3.ow.facts
  obtain ⟨c1, c2, c3⟩ := h3.op.facts
  obtain ⟨a1, a2, a3⟩ := h3.an.facts
  go_wp2
  go_ret
  exact ⟨rfl, .trans (fun g hg => .inl hg) u0 (.trans n1 u1 (.trans n2 u2 (.trans n3 u3 (.refl h3.hm))))⟩

set_option maxHeartbeats 2000000 in
theorem note_z4 (w : World) (q hx hy : Nat) (L A B : List Nat) (h : HM w q hx hy L A B) (hn : A = []) (a j c : Int) (s t : ByteArray) :
    Calls Try.prog 21 #[.agg #[ptr hx, ptr hy], OpV 4 a j c s t, AnsV 2 0 (pairT 0 0)] w fun x w' => x = .returned (.bool true) ∧ HPost q hx hy L w A B w' := by
  have ML := fun V L hV => hx_len V q hx hy L A B hV
  have hz : (A.length : Int) = 0 := by rw [hn]; rfl
  rw [hz] at ML
  obtain ⟨h0, u0⟩ := NSt.init h 4 a j c s t 2 0 (pairT 0 0)
  go_enter Try.func21, Try.ntmps21
  go_wp2_with fail
  refine (ML _ _ h0.hm).mono ?_
  rintro e w1 ⟨rfl, p1⟩
  obtain ⟨L1, h1, n1, u1⟩ := h0.step p1
  clear p1 h0 ML
  obtain ⟨o1, o2, o3⟩ := h1.ow.facts
  obtain ⟨c1, c2, c3⟩ := h1.op.facts
  obtain ⟨a1, a2, a3⟩ := h1.an.facts
  go_wp2_with fail
  refine (pair_any _ _ _ _).mono ?_
  rintro e w2 ⟨rfl, b2⟩
  have h2 := (h1.later b2).later ((Below.refl _ _).alloc (Nat.le_refl _) (.cells #[I 2, I 0, I 0, S (pairT 0 0)] 50))
  clear o1 o2 o3 c1 c2 c3 a1 a2 a3
  obtain ⟨a1, a2, a3⟩ := h2.an.facts
  rw [can32_zero]
  go_wp2
  go_ret
  exact ⟨rfl, .trans (fun g hg => .inl hg) u0 (.trans n1 u1 (.of_below h1.hm (b2.trans ((Below.refl _ _).alloc b2.size _))))⟩

set_option maxHeartbeats 2000000 in
theorem note_z6 (w : World) (q hx hy : Nat) (L A B : List Nat) (h : HM w q hx hy L A B) (hn : A = []) (a j c : Int) (s t : ByteArray) :
    Calls Try.prog 21 #[.agg #[ptr hx, ptr hy], OpV 6 a j c s t, AnsV 2 0 (pairT 0 0)] w fun x w' => x = .returned (.bool true) ∧ HPost q hx hy L w A B w' := by
  have ML := fun V L hV => hx_len V q hx hy L A B hV
  have hz : (A.length : Int) = 0 := by rw [hn]; rfl
  rw [hz] at ML
  obtain ⟨h0, u0⟩ := NSt.init h 6 a j c s t 2 0 (pairT 0 0)
  go_enter Try.func21, Try.ntmps21
  go_wp2_with fail
  refine (ML _ _ h0.hm).mono ?_
  rintro e w1 ⟨rfl, p1⟩
  obtain ⟨L1, h1, n1, u1⟩ := h0.step p1
  clear p1 h0 ML
  obtain ⟨o1, o2, o3⟩ := h1.ow.facts
  obtain ⟨c1, c2, c3⟩ := h1.op.facts
  obtain ⟨a1, a2, a3⟩ := h1.an.facts
  go_wp2_with fail
  refine (pair_any _ _ _ _).mono ?_
  rintro e w2 ⟨rfl, b2⟩
  have h2 := (h1.later b2).later ((Below.refl _ _).alloc (Nat.le_refl _) (.cells #[I 2, I 0, I 0, S (pairT 0 0)] 50))
  clear o1 o2 o3 c1 c2 c3 a1 a2 a3
  obtain ⟨a1, a2, a3⟩ := h2.an.facts
  rw [can32_zero]
  go_wp2
  go_ret
  exact ⟨rfl, .trans (fun g hg => .inl hg) u0 (.trans n1 u1 (.of_below h1.hm (b2.trans ((Below.refl _ _).alloc b2.size _))))⟩

set_option maxHeartbeats 2000000 in
theorem note_z7 (w : World) (q hx hy : Nat) (L A B : List Nat) (h : HM w q hx hy L A B) (hn : A = []) (a j c : Int) (s t : ByteArray) :
    Calls Try.prog 21 #[.agg #[ptr hx, ptr hy], OpV 7 a j c s t, AnsV 2 0 (pairT 0 0)] w fun x w' => x = .returned (.bool true) ∧ HPost q hx hy L w A B w' := by
  have ML := fun V L hV => hx_len V q hx hy L A B hV
  have hz : (A.length : Int) = 0 := by rw [hn]; rfl
  rw [hz] at ML
  obtain ⟨h0, u0⟩ := NSt.init h 7 a j c s t 2 0 (pairT 0 0)
  go_enter Try.func21, Try.ntmps21
  go_wp2_with fail
  refine (ML _ _ h0.hm).mono ?_
  rintro e w1 ⟨rfl, p1⟩
  obtain ⟨L1, h1, n1, u1⟩ := h0.step p1
  clear p1 h0 ML
  obtain ⟨o1, o2, o3⟩ := h1.ow.facts
  obtain ⟨c1, c2, c3⟩ := h1.op.facts
  obtain ⟨a1, a2, a3⟩ := h1.an.facts
  go_wp2_with fail
  refine (pair_any _ _ _ _).mono ?_
  rintro e w2 ⟨rfl, b2⟩
  have h2 := (h1.later b2).later ((Below.refl _ _).alloc (Nat.le_refl _) (.cells #[I 2, I 0, I 0, S (pairT 0 0)] 50))
  clear o1 o2 o3 c1 c2 c3 a1 a2 a3
  obtain ⟨a1, a2, a3⟩ := h2.an.facts
  rw [can32_zero]
  go_wp2
  go_ret
  exact ⟨rfl, .trans (fun g hg => .inl hg) u0 (.trans n1 u1 (.of_below h1.hm (b2.trans ((Below.refl _ _).alloc b2.size _))))⟩

set_option maxHeartbeats 2000000 in
theorem note_z5 (w : World) (q hx hy : Nat) (L A B : List Nat) (h : HM w q hx hy L A B) (hn : A = []) (a j c : Int) (s t : ByteArray) :
    Calls Try.prog 21 #[.agg #[ptr hx, ptr hy], OpV 5 a j c s t, AnsV 2 0 []] w fun x w' => x = .returned (.bool true) ∧ HPost q hx hy L w A B w' := by
  have es : (str []).toList = [] := by decide +kernel
  have ML := fun V L hV => hx_len V q hx hy L A B hV
  have hz : (A.length : Int) = 0 := by rw [hn]; rfl
  rw [hz] at ML
  obtain ⟨h0, u0⟩ := NSt.init h 5 a j c s t 2 0 []
  go_enter Try.func21, Try.ntmps21
  go_wp2_with fail
  refine (ML _ _ h0.hm).mono ?_
  rintro e w1 ⟨rfl, p1⟩
  obtain ⟨L1, h1, n1, u1⟩ := h0.step p1
  clear p1 h0 ML
  obtain ⟨o1, o2, o3⟩ := h1.ow.facts
  obtain ⟨c1, c2, c3⟩ := h1.op.facts
  obtain ⟨a1, a2, a3⟩ := h1.an.facts
  go_wp2
  go_ret
  exact ⟨rfl, .trans (fun g hg => .inl hg) u0 (.trans n1 u1 (.refl h1.hm))⟩

set_option maxHeartbeats 2000000 in
theorem note_z8 (w : World) (q hx hy : Nat) (L A B : List Nat) (h : HM w q hx hy L A B) (hn : A = []) (a j c : Int) (s t : ByteArray) :
    Calls Try.prog 21 #[.agg #[ptr hx, ptr hy], OpV 8 a j c s t, AnsV 2 0 []] w fun x w' => x = .returned (.bool true) ∧ HPost q hx hy L w A B w' := by
  have es : (str []).toList = [] := by decide +kernel
  have ML := fun V L hV => hx_len V q hx hy L A B hV
  have hz : (A.length : Int) = 0 := by rw [hn]; rfl
  rw [hz] at ML
  obtain ⟨h0, u0⟩ := NSt.init h 8 a j c s t 2 0 []
  go_enter Try.func21, Try.ntmps21
  go_wp2_with fail
  refine (ML _ _ h0.hm).mono ?_
  rintro e w1 ⟨rfl, p1⟩
  obtain ⟨L1, h1, n1, u1⟩ := h0.step p1
  clear p1 h0 ML
  obtain ⟨o1, o2, o3⟩ := h1.ow.facts
  obtain ⟨c1, c2, c3⟩ := h1.op.facts
  obtain ⟨a1, a2, a3⟩ := h1.an.facts
  go_wp2
  go_ret
  exact ⟨rfl, .trans (fun g hg => .inl hg) u0 (.trans n1 u1 (.refl h1.hm))⟩

set_option maxHeartbeats 2000000 in
theorem note_out (w : World) (q hx hy : Nat) (L A B : List Nat) (h : HM w q hx hy L A B) (hn : A ≠ []) (a j c : Int) (ha : a < 0 ∨ 3 < a) (s t : ByteArray) :
    Calls Try.prog 21 #[.agg #[ptr hx, ptr hy], OpV 4 a j c s t, AnsV 3 0 (pairT 0 0)] w fun x w' => x = .returned (.bool true) ∧ HPost q hx hy L w A B w' := by
  have ML := fun V L hV => hx_len V q hx hy L A B hV
  have hz := len_ne hn
  obtain ⟨h0, u0⟩ := NSt.init h 4 a j c s t 3 0 (pairT 0 0)
  go_enter Try.func21, Try.ntmps21
  go_wp2_with fail
  refine (ML _ _ h0.hm).mono ?_
  rintro e w1 ⟨rfl, p1⟩
  obtain ⟨L1, h1, n1, u1⟩ := h0.step p1
  clear p1 h0 ML
  obtain ⟨o1, o2, o3⟩ := h1.ow.facts
  obtain ⟨c1, c2, c3⟩ := h1.op.facts
  obtain ⟨a1, a2, a3⟩ := h1.an.facts
  rcases ha with ha | ha
  · go_wp2_with fail
    refine (pair_any _ _ _ _).mono ?_
    rintro e w2 ⟨rfl, b2⟩
    have h2 := (h1.later b2).later ((Below.refl _ _).alloc (Nat.le_refl _) (.cells #[I 3, I 0, I 0, S (pairT 0 0)] 50))
    clear o1 o2 o3 c1 c2 c3 a1 a2 a3
    obtain ⟨a1, a2, a3⟩ := h2.an.facts
    rw [can32_zero]
    go_wp2
    go_ret
    exact ⟨rfl, .trans (fun g hg => .inl hg) u0 (.trans n1 u1 (.of_below h1.hm (b2.trans ((Below.refl _ _).alloc b2.size _))))⟩
  · have ha' : ¬ a < 0 := by omega
    go_wp2_with fail
    refine (pair_any _ _ _ _).mono ?_
    rintro e w2 ⟨rfl, b2⟩
    have h2 := (h1.later b2).later ((Below.refl _ _).alloc (Nat.le_refl _) (.cells #[I 3, I 0, I 0, S (pairT 0 0)] 50))
    clear o1 o2 o3 c1 c2 c3 a1 a2 a3
    obtain ⟨a1, a2, a3⟩ := h2.an.facts
    rw [can32_zero]
    go_wp2
    go_ret
    exact ⟨rfl, .trans (fun g hg => .inl hg) u0 (.trans n1 u1 (.of_below h1.hm (b2.trans ((Below.refl _ _).alloc b2.size _))))⟩

set_option maxHeartbeats 2000000 in
theorem note_c4 (w : World) (q hx hy : Nat) (L A B : List Nat) (h : HM w q hx hy L A B) (hn : A ≠ []) (a j c : Int) (hlo : 0 ≤ a) (hhi : a ≤ 3) (N : Int) (S1 : List UInt8) (s t : ByteArray) :
    Calls Try.prog 21 #[.agg #[ptr hx, ptr hy], OpV 4 a j c s t, AnsV 0 N S1] w fun x w' => x = .returned (.bool true) ∧ HPost q hx hy L w A B w' := by
  have ML := fun V L hV => hx_len V q hx hy L A B hV
  have hz := len_ne hn
  have g1 : ¬ a < 0 := by omega
  have g2 : ¬ 3 < a := by omega
  obtain ⟨h0, u0⟩ := NSt.init h 4 a j c s t 0 N S1
  go_enter Try.func21, Try.ntmps21
  go_wp2_with fail
  refine (ML _ _ h0.hm).mono ?_
  rintro e w1 ⟨rfl, p1⟩
  obtain ⟨L1, h1, n1, u1⟩ := h0.step p1
  clear p1 h0 ML
  obtain ⟨o1, o2, o3⟩ := h1.ow.facts
  obtain ⟨c1, c2, c3⟩ := h1.op.facts
  obtain ⟨a1, a2, a3⟩ := h1.an.facts
  go_wp2
  go_ret
  exact ⟨rfl, .trans (fun g hg => .inl hg) u0 (.trans n1 u1 (.refl h1.hm))⟩

set_option maxHeartbeats 2000000 in
theorem note_c5 (w : World) (q hx hy : Nat) (L A B : List Nat) (h : HM w q hx hy L A B) (hn : A ≠ []) (a j c : Int) (N : Int) (S1 : List UInt8) (s t : ByteArray) :
    Calls Try.prog 21 #[.agg #[ptr hx, ptr hy], OpV 5 a j c s t, AnsV 0 N S1] w fun x w' => x = .returned (.bool true) ∧ HPost q hx hy L w A B w' := by
  have ML := fun V L hV => hx_len V q hx hy L A B hV
  have hz := len_ne hn
  obtain ⟨h0, u0⟩ := NSt.init h 5 a j c s t 0 N S1
  go_enter Try.func21, Try.ntmps21
  go_wp2_with fail
  refine (ML _ _ h0.hm).mono ?_
  rintro e w1 ⟨rfl, p1⟩
  obtain ⟨L1, h1, n1, u1⟩ := h0.step p1
  clear p1 h0 ML
  obtain ⟨o1, o2, o3⟩ := h1.ow.facts
  obtain ⟨c1, c2, c3⟩ := h1.op.facts
  obtain ⟨a1, a2, a3⟩ := h1.an.facts
  go_wp2
  go_ret
  exact ⟨rfl, .trans (fun g hg => .inl hg) u0 (.trans n1 u1 (.refl h1.hm))⟩

set_option maxHeartbeats 2000000 in
theorem note_c6 (w : World) (q hx hy : Nat) (L A B : List Nat) (h : HM w q hx hy L A B) (hn : A ≠ []) (a j c : Int) (N : Int) (S1 : List UInt8) (s t : ByteArray) :
    Calls Try.prog 21 #[.agg #[ptr hx, ptr hy], OpV 6 a j c s t, AnsV 0 N S1] w fun x w' => x = .returned (.bool true) ∧ HPost q hx hy L w A B w' := by
  have ML := fun V L hV => hx_len V q hx hy L A B hV
  have hz := len_ne hn
  obtain ⟨h0, u0⟩ := NSt.init h 6 a j c s t 0 N S1
  go_enter Try.func21, Try.ntmps21
  go_wp2_with fail
  refine (ML _ _ h0.hm).mono ?_
  rintro e w1 ⟨rfl, p1⟩
  obtain ⟨L1, h1, n1, u1⟩ := h0.step p1
  clear p1 h0 ML
  obtain ⟨o1, o2, o3⟩ := h1.ow.facts
  obtain ⟨c1, c2, c3⟩ := h1.op.facts
  obtain ⟨a1, a2, a3⟩ := h1.an.facts
  go_wp2
  go_ret
  exact ⟨rfl, .trans (fun g hg => .inl hg) u0 (.trans n1 u1 (.refl h1.hm))⟩

set_option maxHeartbeats 2000000 in
theorem note_c7 (w : World) (q hx hy : Nat) (L A B : List Nat) (h : HM w q hx hy L A B) (hn : A ≠ []) (a j c : Int) (N : Int) (S1 : List UInt8) (s t : ByteArray) :
    Calls Try.prog 21 #[.agg #[ptr hx, ptr hy], OpV 7 a j c s t, AnsV 0 N S1] w fun x w' => x = .returned (.bool true) ∧ HPost q hx hy L w A B w' := by
  have ML := fun V L hV => hx_len V q hx hy L A B hV
  have hz := len_ne hn
  obtain ⟨h0, u0⟩ := NSt.init h 7 a j c s t 0 N S1
  go_enter Try.func21, Try.ntmps21
  go_wp2_with fail
  refine (ML _ _ h0.hm).mono ?_
  rintro e w1 ⟨rfl, p1⟩
  obtain ⟨L1, h1, n1, u1⟩ := h0.step p1
  clear p1 h0 ML
  obtain ⟨o1, o2, o3⟩ := h1.ow.facts
  obtain ⟨c1, c2, c3⟩ := h1.op.facts
  obtain ⟨a1, a2, a3⟩ := h1.an.facts
  go_wp2
  go_ret
  exact ⟨rfl, .trans (fun g hg => .inl hg) u0 (.trans n1 u1 (.refl h1.hm))⟩

set_option maxHeartbeats 2000000 in
theorem note_c8 (w : World) (q hx hy : Nat) (L A B : List Nat) (h : HM w q hx hy L A B) (hn : A ≠ []) (a j c : Int) (E N : Int) (S1 : List UInt8) (s t : ByteArray) :
    Calls Try.prog 21 #[.agg #[ptr hx, ptr hy], OpV 8 a j c s t, AnsV E N S1] w fun x w' => x = .returned (.bool true) ∧ HPost q hx hy L w A B w' := by
  have ML := fun V L hV => hx_len V q hx hy L A B hV
  have hz := len_ne hn
  obtain ⟨h0, u0⟩ := NSt.init h 8 a j c s t E N S1
  go_enter Try.func21, Try.ntmps21
  go_wp2_with fail
  refine (ML _ _ h0.hm).mono ?_
  rintro e w1 ⟨rfl, p1⟩
  obtain ⟨L1, h1, n1, u1⟩ := h0.step p1
  clear p1 h0 ML
  obtain ⟨o1, o2, o3⟩ := h1.ow.facts
  obtain ⟨c1, c2, c3⟩ := h1.op.facts
  obtain ⟨a1, a2, a3⟩ := h1.an.facts
  go_wp2
  go_ret
  exact ⟨rfl, .trans (fun g hg => .inl hg) u0 (.trans n1 u1 (.refl h1.hm))⟩

set_option maxHeartbeats 2000000 in
theorem note_oz (w : World) (q hx hy : Nat) (L A B : List Nat) (h : HM w q hx hy L A B) (hn : A = []) (K a j c : Int) (k1 : K ≠ 1) (k2 : K ≠ 2) (k4 : K ≠ 4) (k5 : K ≠ 5) (k6 : K ≠ 6) (k7 : K ≠ 7) (k8 : K ≠ 8) (E N : Int) (S1 : List UInt8) (s t : ByteArray) :
    Calls Try.prog 21 #[.agg #[ptr hx, ptr hy], OpV K a j c s t, AnsV E N S1] w fun x w' => x = .returned (.bool true) ∧ HPost q hx hy L w A B w' := by
  have e1 : (K == 1) = false := by simpa using k1
  have e2 : (K == 2) = false := by simpa using k2
  have e4 : (K == 4) = false := by simpa using k4
  have e5 : (K == 5) = false := by simpa using k5
  have e6 : (K == 6) = false := by simpa using k6
  have e7 : (K == 7) = false := by simpa using k7
  have e8 : (K == 8) = false := by simpa using k8
  clear k1 k2 k4 k5 k6 k7 k8
  have ML := fun V L hV => hx_len V q hx hy L A B hV
  have hz : (A.length : Int) = 0 := by rw [hn]; rfl
  rw [hz] at ML
  obtain ⟨h0, u0⟩ := NSt.init h K a j c s t E N S1
  go_enter Try.func21, Try.ntmps21
  go_wp2_with fail
  refine (ML _ _ h0.hm).mono ?_
  rintro e w1 ⟨rfl, p1⟩
  obtain ⟨L1, h1, n1, u1⟩ := h0.step p1
  clear p1 h0 ML
  obtain ⟨o1, o2, o3⟩ := h1.ow.facts
  obtain ⟨c1, c2, c3⟩ := h1.op.facts
  obtain ⟨a1, a2, a3⟩ := h1.an.facts
  go_wp2
  go_ret
  exact ⟨rfl, .trans (fun g hg => .inl hg) u0 (.trans n1 u1 (.refl h1.hm))⟩

set_option maxHeartbeats 2000000 in
theorem note_os (w : World) (q hx hy : Nat) (L A B : List Nat) (h : HM w q hx hy L A B) (hn : A ≠ []) (K a j c : Int) (k1 : K ≠ 1) (k2 : K ≠ 2) (k4 : K ≠ 4) (k5 : K ≠ 5) (k6 : K ≠ 6) (k7 : K ≠ 7) (k8 : K ≠ 8) (E N : Int) (S1 : List UInt8) (s t : ByteArray) :
    Calls Try.prog 21 #[.agg #[ptr hx, ptr hy], OpV K a j c s t, AnsV E N S1] w fun x w' => x = .returned (.bool true) ∧ HPost q hx hy L w A B w' := by
  have e1 : (K == 1) = false := by simpa using k1
  have e2 : (K == 2) = false := by simpa using k2
  have e4 : (K == 4) = false := by simpa using k4
  have e5 : (K == 5) = false := by simpa using k5
  have e6 : (K == 6) = false := by simpa using k6
  have e7 : (K == 7) = false := by simpa using k7
  have e8 : (K == 8) = false := by simpa using k8
  clear k1 k2 k4 k5 k6 k7 k8
  have ML := fun V L hV => hx_len V q hx hy L A B hV
  have hz := len_ne hn
  obtain ⟨h0, u0⟩ := NSt.init h K a j c s t E N S1
  go_enter Try.func21, Try.ntmps21
  go_wp2_with fail
  refine (ML _ _ h0.hm).mono ?_
  rintro e w1 ⟨rfl, p1⟩
  obtain ⟨L1, h1, n1, u1⟩ := h0.step p1
  clear p1 h0 ML
  obtain ⟨o1, o2, o3⟩ := h1.ow.facts
  obtain ⟨c1, c2, c3⟩ := h1.op.facts
  obtain ⟨a1, a2, a3⟩ := h1.an.facts
  go_wp2
  go_ret
  exact ⟨rfl, .trans (fun g hg => .inl hg) u0 (.trans n1 u1 (.refl h1.hm))⟩

theorem note_any (w : World) (q hx hy : Nat) (L A B : List Nat) (h : HM w q hx hy L A B) (hl : B.length = A.length) (h8 : A.length ≤ 8) (K a j c : Int) (s t : ByteArray) :
    Calls Try.prog 21 #[.agg #[ptr hx, ptr hy], OpV K a j c s t, AnsV (doB K a j c A B).1.1 (doB K a j c A B).1.2.1 (doB K a j c A B).1.2.2] w fun x w' => x = .returned (.bool true) ∧ HPost q hx hy L w (doB K a j c A B).2.1 (doB K a j c A B).2.2 w' := by
  by_cases k1 : K = 1
  · subst k1
    have e : doB 1 a j c A B = if A.length = 8 then ((1, 0, []), (A, B)) else ((0, 0, []), (A ++ [ratioF a c], B ++ [ratioF j c])) := rfl
    rw [e]
    by_cases hn : A.length = 8
    · rw [if_pos hn]; exact note_full w q hx hy L A B h hn a j c s t
    · rw [if_neg hn]; exact note_add w q hx hy L A B h hl (by omega) a j c s t
  by_cases k2 : K = 2
  · subst k2
    have e : doB 2 a j c A B = if A = [] then ((2, 0, []), (A, B)) else ((0, 0, []), (A.dropLast, B.dropLast)) := rfl
    rw [e]
    by_cases hn : A = []
    · rw [if_pos hn]; exact note_empty w q hx hy L A B h hn a j c s t
    · rw [if_neg hn]; exact note_drop w q hx hy L A B h hl hn a j c s t
  have same : (doB K a j c A B).2 = (A, B) := by unfold doB; rw [if_neg k1, if_neg k2]; repeat' split <;> try rfl
  rw [same]
  by_cases hn : A = []
  · by_cases k4 : K = 4
    · subst k4
      have e : (doB 4 a j c A B).1 = (2, 0, pairT 0 0) := by show ((cornA A B a).2, (0 : Int), pairT (cornA A B a).1 0) = _; unfold cornA; rw [if_pos hn]
      rw [e]; exact note_z4 w q hx hy L A B h hn a j c s t
    by_cases k6 : K = 6
    · subst k6
      have e : (doB 6 a j c A B).1 = (2, 0, pairT 0 0) := by show ((clampA A B a j c).2, (0 : Int), pairT (clampA A B a j c).1.1 (clampA A B a j c).1.2) = _; unfold clampA; rw [if_pos hn]
      rw [e]; exact note_z6 w q hx hy L A B h hn a j c s t
    by_cases k7 : K = 7
    · subst k7
      have e : (doB 7 a j c A B).1 = (2, 0, pairT 0 0) := by show ((alongA A B a j).2, (0 : Int), pairT (alongA A B a j).1.1 (alongA A B a j).1.2) = _; unfold alongA; rw [if_pos hn]
      rw [e]; exact note_z7 w q hx hy L A B h hn a j c s t
    by_cases k5 : K = 5
    · subst k5
      have e : (doB 5 a j c A B).1 = (2, 0, []) := by show ((insideA A B a j c).2, (if (insideA A B a j c).1 then (1 : Int) else 0), ([] : List UInt8)) = _; unfold insideA; rw [if_pos hn]; rfl
      rw [e]; exact note_z5 w q hx hy L A B h hn a j c s t
    by_cases k8 : K = 8
    · subst k8
      have e : (doB 8 a j c A B).1 = (2, 0, []) := by show ((cellA A B a j c).2, (cellA A B a j c).1, ([] : List UInt8)) = _; unfold cellA; rw [if_pos hn]
      rw [e]; exact note_z8 w q hx hy L A B h hn a j c s t
    exact note_oz w q hx hy L A B h hn K a j c k1 k2 k4 k5 k6 k7 k8 _ _ _ s t
  · by_cases k4 : K = 4
    · subst k4
      have e : (doB 4 a j c A B).1 = ((cornA A B a).2, 0, pairT (cornA A B a).1 0) := rfl
      rw [e]
      by_cases ho : a < 0 ∨ 3 < a
      · have e2 : cornA A B a = (0, 3) := by unfold cornA; rw [if_neg hn, if_neg (by omega), if_neg (by omega), if_neg (by omega), if_neg (by omega)]
        rw [e2]; exact note_out w q hx hy L A B h hn a j c ho s t
      · have e2 : (cornA A B a).2 = 0 := by
          unfold cornA
          rw [if_neg hn]
          split
          · rfl
          · split
            · rfl
            · split
              · rfl
              · split
                · rfl
                · omega
        rw [e2]; exact note_c4 w q hx hy L A B h hn a j c (by omega) (by omega) _ _ s t
    by_cases k5 : K = 5
    · subst k5
      have e2 : (insideA A B a j c).2 = 0 := by unfold insideA; rw [if_neg hn]
      have e : (doB 5 a j c A B).1 = ((insideA A B a j c).2, (if (insideA A B a j c).1 then (1 : Int) else 0), ([] : List UInt8)) := rfl
      rw [e, e2]; exact note_c5 w q hx hy L A B h hn a j c _ _ s t
    by_cases k6 : K = 6
    · subst k6
      have e2 : (clampA A B a j c).2 = 0 := by unfold clampA; rw [if_neg hn]
      have e : (doB 6 a j c A B).1 = ((clampA A B a j c).2, (0 : Int), pairT (clampA A B a j c).1.1 (clampA A B a j c).1.2) := rfl
      rw [e, e2]; exact note_c6 w q hx hy L A B h hn a j c _ _ s t
    by_cases k7 : K = 7
    · subst k7
      have e2 : (alongA A B a j).2 = 0 := by unfold alongA; rw [if_neg hn]
      have e : (doB 7 a j c A B).1 = ((alongA A B a j).2, (0 : Int), pairT (alongA A B a j).1.1 (alongA A B a j).1.2) := rfl
      rw [e, e2]; exact note_c7 w q hx hy L A B h hn a j c _ _ s t
    by_cases k8 : K = 8
    · subst k8
      exact note_c8 w q hx hy L A B h hn a j c _ _ _ s t
    exact note_os w q hx hy L A B h hn K a j c k1 k2 k4 k5 k6 k7 k8 _ _ _ s t
end Go.Proofs.Qxb6500472a
