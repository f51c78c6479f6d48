import Derived.Test.Qxb6500470aKz1
namespace Go.Proofs.Qxb6500470a
open Go.RowKit
set_option maxHeartbeats 1000000 in
theorem shown_w (K : Nat → Prop) (w : World) (p : Nat) (st : List TV) (hf : Fine st) (h : SRep K w p st) :
    Calls Try.prog 81 #[yv p] w fun e w' => e = .returned (S (stText st)) ∧ Below w.heap.size w w' := by
  have b1 : Below w.heap.size w (w.alloc (.cells #[ptr p] 31)) := (Below.refl _ _).alloc (Nat.le_refl _) _
  have hS := stShowT K _ p st hf (h.later b1)
  unfold yv
  go_enter Try.func81, Try.ntmps81
  go_wp2_with fail
  refine hS.mono ?_
  rintro e w2 ⟨rfl, b2⟩
  go_wp2
  go_ret
  exact ⟨rfl, b1.trans (b2.mono b1.size)⟩
set_option maxHeartbeats 1000000 in
theorem top_w (K : Nat → Prop) (w : World) (p : Nat) (st : List TV) (h : SRep K w p st) :
    Calls Try.prog 82 #[yv p] w fun e w' => e = .returned (.tuple #[I (topT st).1, I (topT st).2]) ∧ Below w.heap.size w w' := by
  have b1 : Below w.heap.size w (w.alloc (.cells #[ptr p] 31)) := (Below.refl _ _).alloc (Nat.le_refl _) _
  have hS := topInt_w K _ p st (h.later b1)
  unfold yv
  generalize topT st = T at *
  go_enter Try.func82, Try.ntmps82
  go_wp2_with fail
  refine hS.mono ?_
  rintro e w2 ⟨rfl, rfl⟩
  go_wp2
  go_ret2
  exact ⟨rfl, b1⟩
set_option maxHeartbeats 1000000 in
theorem depthB_w (K : Nat → Prop) (w : World) (p : Nat) (st : List TV) (h : SRep K w p st) :
    Calls Try.prog 86 #[yv p] w fun e w' => e = .returned (I st.length) ∧ Below w.heap.size w w' := by
  have b1 : Below w.heap.size w (w.alloc (.cells #[ptr p] 31)) := (Below.refl _ _).alloc (Nat.le_refl _) _
  have hS := depth_w K _ p st (h.later b1)
  unfold yv
  go_enter Try.func86, Try.ntmps86
  go_wp2_with fail
  refine hS.mono ?_
  rintro e w2 ⟨rfl, rfl⟩
  go_wp2
  go_ret
  exact ⟨rfl, b1⟩
/-- What Play does to the stack. -/
def playT (c : UInt8) (v : Int) (s : List UInt8) (st : List TV) : List TV × Int :=
  if c = 97 then wAdd st else if c = 99 then wCons st else if c = 100 then wDup st else if c = 102 then wFind st else if c = 108 then wLen st else if c = 110 then wNeg st else if c = 112 then wPair st else if c = 115 then wFold st
  else if c = 120 ∨ c = 83 ∨ c = 68 ∨ c = 77 then wDrop st
  else if c = 91 then wPush .nil st
  else if c = 39 then wPush (.str s) st
  else if c = 35 ∨ c = 71 then wPush (.int v) st
  else extraT ((c.toNat : Int) - 48) st
set_option maxRecDepth 100000 in
set_option maxHeartbeats 2000000 in
theorem play_97 (K : Nat → Prop) (w : World) (p : Nat) (st : List TV) (hf : Fine st) (h : SRep K w p st) (v : Int) (s : List UInt8) :
    Calls Try.prog 85 #[yv p, U 97, I v, S s] w (Wc K w p (wAdd st)) := by
  have b1 : Below w.heap.size w (w.alloc (.cells #[ptr p] 31)) := (Below.refl _ _).alloc (Nat.le_refl _) _
  have hS := add_w K _ p st (h.later b1) hf
  have ks := h.ks
  clear hf
  unfold yv
  generalize wAdd st = r at *
  go_enter Try.func85, Try.ntmps85
  go_wp2_with fail
  refine hS.mono ?_
  rintro e w2 ⟨rfl, tn⟩
  go_wp2
  go_ret
  exact ⟨rfl, .trans (fun _ h => h) (fun _ h => .inl h) (Kept.of_below b1 ks) tn⟩
set_option maxRecDepth 100000 in
set_option maxHeartbeats 2000000 in
theorem play_99 (K : Nat → Prop) (w : World) (p : Nat) (st : List TV) (hf : Fine st) (h : SRep K w p st) (v : Int) (s : List UInt8) :
    Calls Try.prog 85 #[yv p, U 99, I v, S s] w (Wc K w p (wCons st)) := by
  have b1 : Below w.heap.size w (w.alloc (.cells #[ptr p] 31)) := (Below.refl _ _).alloc (Nat.le_refl _) _
  have hS := cons_w K _ p st (h.later b1) hf
  have ks := h.ks
  clear hf
  unfold yv
  generalize wCons st = r at *
  go_enter Try.func85, Try.ntmps85
  go_wp2_with fail
  refine hS.mono ?_
  rintro e w2 ⟨rfl, tn⟩
  go_wp2
  go_ret
  exact ⟨rfl, .trans (fun _ h => h) (fun _ h => .inl h) (Kept.of_below b1 ks) tn⟩
set_option maxRecDepth 100000 in
set_option maxHeartbeats 2000000 in
theorem play_100 (K : Nat → Prop) (w : World) (p : Nat) (st : List TV) (_hf : Fine st) (h : SRep K w p st) (v : Int) (s : List UInt8) :
    Calls Try.prog 85 #[yv p, U 100, I v, S s] w (Wc K w p (wDup st)) := by
  have b1 : Below w.heap.size w (w.alloc (.cells #[ptr p] 31)) := (Below.refl _ _).alloc (Nat.le_refl _) _
  have hS := dup_w K _ p st (h.later b1)
  have ks := h.ks
  clear _hf
  unfold yv
  generalize wDup st = r at *
  go_enter Try.func85, Try.ntmps85
  go_wp2_with fail
  refine hS.mono ?_
  rintro e w2 ⟨rfl, tn⟩
  go_wp2
  go_ret
  exact ⟨rfl, .trans (fun _ h => h) (fun _ h => .inl h) (Kept.of_below b1 ks) tn⟩
set_option maxRecDepth 100000 in
set_option maxHeartbeats 2000000 in
theorem play_102 (K : Nat → Prop) (w : World) (p : Nat) (st : List TV) (hf : Fine st) (h : SRep K w p st) (v : Int) (s : List UInt8) :
    Calls Try.prog 85 #[yv p, U 102, I v, S s] w (Wc K w p (wFind st)) := by
  have b1 : Below w.heap.size w (w.alloc (.cells #[ptr p] 31)) := (Below.refl _ _).alloc (Nat.le_refl _) _
  have hS := find_w K _ p st (h.later b1) hf
  have ks := h.ks
  clear hf
  unfold yv
  generalize wFind st = r at *
  go_enter Try.func85, Try.ntmps85
  go_wp2_with fail
  refine hS.mono ?_
  rintro e w2 ⟨rfl, tn⟩
  go_wp2
  go_ret
  exact ⟨rfl, .trans (fun _ h => h) (fun _ h => .inl h) (Kept.of_below b1 ks) tn⟩
set_option maxRecDepth 100000 in
set_option maxHeartbeats 2000000 in
theorem play_108 (K : Nat → Prop) (w : World) (p : Nat) (st : List TV) (hf : Fine st) (h : SRep K w p st) (v : Int) (s : List UInt8) :
    Calls Try.prog 85 #[yv p, U 108, I v, S s] w (Wc K w p (wLen st)) := by
  have b1 : Below w.heap.size w (w.alloc (.cells #[ptr p] 31)) := (Below.refl _ _).alloc (Nat.le_refl _) _
  have hS := len_w K _ p st (h.later b1) hf
  have ks := h.ks
  clear hf
  unfold yv
  generalize wLen st = r at *
  go_enter Try.func85, Try.ntmps85
  go_wp2_with fail
  refine hS.mono ?_
  rintro e w2 ⟨rfl, tn⟩
  go_wp2
  go_ret
  exact ⟨rfl, .trans (fun _ h => h) (fun _ h => .inl h) (Kept.of_below b1 ks) tn⟩
set_option maxRecDepth 100000 in
set_option maxHeartbeats 2000000 in
theorem play_110 (K : Nat → Prop) (w : World) (p : Nat) (st : List TV) (_hf : Fine st) (h : SRep K w p st) (v : Int) (s : List UInt8) :
    Calls Try.prog 85 #[yv p, U 110, I v, S s] w (Wc K w p (wNeg st)) := by
  have b1 : Below w.heap.size w (w.alloc (.cells #[ptr p] 31)) := (Below.refl _ _).alloc (Nat.le_refl _) _
  have hS := neg_w K _ p st (h.later b1)
  have ks := h.ks
  clear _hf
  unfold yv
  generalize wNeg st = r at *
  go_enter Try.func85, Try.ntmps85
  go_wp2_with fail
  refine hS.mono ?_
  rintro e w2 ⟨rfl, tn⟩
  go_wp2
  go_ret
  exact ⟨rfl, .trans (fun _ h => h) (fun _ h => .inl h) (Kept.of_below b1 ks) tn⟩
set_option maxRecDepth 100000 in
set_option maxHeartbeats 2000000 in
theorem play_112 (K : Nat → Prop) (w : World) (p : Nat) (st : List TV) (hf : Fine st) (h : SRep K w p st) (v : Int) (s : List UInt8) :
    Calls Try.prog 85 #[yv p, U 112, I v, S s] w (Wc K w p (wPair st)) := by
  have b1 : Below w.heap.size w (w.alloc (.cells #[ptr p] 31)) := (Below.refl _ _).alloc (Nat.le_refl _) _
  have hS := pair_w K _ p st (h.later b1) hf
  have ks := h.ks
  clear hf
  unfold yv
  generalize wPair st = r at *
  go_enter Try.func85, Try.ntmps85
  go_wp2_with fail
  refine hS.mono ?_
  rintro e w2 ⟨rfl, tn⟩
  go_wp2
  go_ret
  exact ⟨rfl, .trans (fun _ h => h) (fun _ h => .inl h) (Kept.of_below b1 ks) tn⟩
set_option maxRecDepth 100000 in
set_option maxHeartbeats 2000000 in
theorem play_115 (K : Nat → Prop) (w : World) (p : Nat) (st : List TV) (hf : Fine st) (h : SRep K w p st) (v : Int) (s : List UInt8) :
    Calls Try.prog 85 #[yv p, U 115, I v, S s] w (Wc K w p (wFold st)) := by
  have b1 : Below w.heap.size w (w.alloc (.cells #[ptr p] 31)) := (Below.refl _ _).alloc (Nat.le_refl _) _
  have hS := fold_w K _ p st (h.later b1) hf
  have ks := h.ks
  clear hf
  unfold yv
  generalize wFold st = r at *
  go_enter Try.func85, Try.ntmps85
  go_wp2_with fail
  refine hS.mono ?_
  rintro e w2 ⟨rfl, tn⟩
  go_wp2
  go_ret
  exact ⟨rfl, .trans (fun _ h => h) (fun _ h => .inl h) (Kept.of_below b1 ks) tn⟩
set_option maxRecDepth 100000 in
set_option maxHeartbeats 2000000 in
theorem play_120 (K : Nat → Prop) (w : World) (p : Nat) (st : List TV) (_hf : Fine st) (h : SRep K w p st) (v : Int) (s : List UInt8) :
    Calls Try.prog 85 #[yv p, U 120, I v, S s] w (Wc K w p (wDrop st)) := by
  have b1 : Below w.heap.size w (w.alloc (.cells #[ptr p] 31)) := (Below.refl _ _).alloc (Nat.le_refl _) _
  have hS := drop_w K _ p st (h.later b1)
  have ks := h.ks
  clear _hf
  unfold yv
  generalize wDrop st = r at *
  go_enter Try.func85, Try.ntmps85
  go_wp2_with fail
  refine hS.mono ?_
  rintro e w2 ⟨rfl, tn⟩
  go_wp2
  go_ret
  exact ⟨rfl, .trans (fun _ h => h) (fun _ h => .inl h) (Kept.of_below b1 ks) tn⟩
set_option maxRecDepth 100000 in
set_option maxHeartbeats 2000000 in
theorem play_83 (K : Nat → Prop) (w : World) (p : Nat) (st : List TV) (_hf : Fine st) (h : SRep K w p st) (v : Int) (s : List UInt8) :
    Calls Try.prog 85 #[yv p, U 83, I v, S s] w (Wc K w p (wDrop st)) := by
  have b1 : Below w.heap.size w (w.alloc (.cells #[ptr p] 31)) := (Below.refl _ _).alloc (Nat.le_refl _) _
  have hS := drop_w K _ p st (h.later b1)
  have ks := h.ks
  clear _hf
  unfold yv
  generalize wDrop st = r at *
  go_enter Try.func85, Try.ntmps85
  go_wp2_with fail
  refine hS.mono ?_
  rintro e w2 ⟨rfl, tn⟩
  go_wp2
  go_ret
  exact ⟨rfl, .trans (fun _ h => h) (fun _ h => .inl h) (Kept.of_below b1 ks) tn⟩
set_option maxRecDepth 100000 in
set_option maxHeartbeats 2000000 in
theorem play_68 (K : Nat → Prop) (w : World) (p : Nat) (st : List TV) (_hf : Fine st) (h : SRep K w p st) (v : Int) (s : List UInt8) :
    Calls Try.prog 85 #[yv p, U 68, I v, S s] w (Wc K w p (wDrop st)) := by
  have b1 : Below w.heap.size w (w.alloc (.cells #[ptr p] 31)) := (Below.refl _ _).alloc (Nat.le_refl _) _
  have hS := drop_w K _ p st (h.later b1)
  have ks := h.ks
  clear _hf
  unfold yv
  generalize wDrop st = r at *
  go_enter Try.func85, Try.ntmps85
  go_wp2_with fail
  refine hS.mono ?_
  rintro e w2 ⟨rfl, tn⟩
  go_wp2
  go_ret
  exact ⟨rfl, .trans (fun _ h => h) (fun _ h => .inl h) (Kept.of_below b1 ks) tn⟩
set_option maxRecDepth 100000 in
set_option maxHeartbeats 2000000 in
theorem play_77 (K : Nat → Prop) (w : World) (p : Nat) (st : List TV) (_hf : Fine st) (h : SRep K w p st) (v : Int) (s : List UInt8) :
    Calls Try.prog 85 #[yv p, U 77, I v, S s] w (Wc K w p (wDrop st)) := by
  have b1 : Below w.heap.size w (w.alloc (.cells #[ptr p] 31)) := (Below.refl _ _).alloc (Nat.le_refl _) _
  have hS := drop_w K _ p st (h.later b1)
  have ks := h.ks
  clear _hf
  unfold yv
  generalize wDrop st = r at *
  go_enter Try.func85, Try.ntmps85
  go_wp2_with fail
  refine hS.mono ?_
  rintro e w2 ⟨rfl, tn⟩
  go_wp2
  go_ret
  exact ⟨rfl, .trans (fun _ h => h) (fun _ h => .inl h) (Kept.of_below b1 ks) tn⟩
set_option maxRecDepth 100000 in
set_option maxHeartbeats 2000000 in
theorem play_91 (K : Nat → Prop) (w : World) (p : Nat) (st : List TV) (_hf : Fine st) (h : SRep K w p st) (v : Int) (s : List UInt8) :
    Calls Try.prog 85 #[yv p, U 91, I v, S s] w (Wc K w p (wPush .nil st)) := by
  have b1 : Below w.heap.size w (w.alloc (.cells #[ptr p] 31)) := (Below.refl _ _).alloc (Nat.le_refl _) _
  have hS := pushL_w K _ p st (h.later b1)
  have ks := h.ks
  clear _hf
  unfold yv
  generalize wPush .nil st = r at *
  go_enter Try.func85, Try.ntmps85
  go_wp2_with fail
  refine hS.mono ?_
  rintro e w2 ⟨rfl, tn⟩
  go_wp2
  go_ret
  exact ⟨rfl, .trans (fun _ h => h) (fun _ h => .inl h) (Kept.of_below b1 ks) tn⟩
set_option maxRecDepth 100000 in
set_option maxHeartbeats 2000000 in
theorem play_39 (K : Nat → Prop) (w : World) (p : Nat) (st : List TV) (_hf : Fine st) (h : SRep K w p st) (v : Int) (s : List UInt8) (hs : s.length ≤ 6) :
    Calls Try.prog 85 #[yv p, U 39, I v, S s] w (Wc K w p (wPush (.str s) st)) := by
  have b1 : Below w.heap.size w (w.alloc (.cells #[ptr p] 31)) := (Below.refl _ _).alloc (Nat.le_refl _) _
  have hS := pushS_w K _ p st (h.later b1) s hs
  have ks := h.ks
  clear _hf
  unfold yv
  generalize wPush (.str s) st = r at *
  go_enter Try.func85, Try.ntmps85
  go_wp2_with fail
  refine hS.mono ?_
  rintro e w2 ⟨rfl, tn⟩
  go_wp2
  go_ret
  exact ⟨rfl, .trans (fun _ h => h) (fun _ h => .inl h) (Kept.of_below b1 ks) tn⟩
set_option maxRecDepth 100000 in
set_option maxHeartbeats 2000000 in
theorem play_35 (K : Nat → Prop) (w : World) (p : Nat) (st : List TV) (_hf : Fine st) (h : SRep K w p st) (v : Int) (s : List UInt8) (v1 : -9223372036854775808 ≤ v) (v2 : v ≤ 9223372036854775807) :
    Calls Try.prog 85 #[yv p, U 35, I v, S s] w (Wc K w p (wPush (.int v) st)) := by
  have b1 : Below w.heap.size w (w.alloc (.cells #[ptr p] 31)) := (Below.refl _ _).alloc (Nat.le_refl _) _
  have hS := pushI_w K _ p st (h.later b1) v v1 v2
  have ks := h.ks
  clear _hf
  unfold yv
  generalize wPush (.int v) st = r at *
  go_enter Try.func85, Try.ntmps85
  go_wp2_with fail
  refine hS.mono ?_
  rintro e w2 ⟨rfl, tn⟩
  go_wp2
  go_ret
  exact ⟨rfl, .trans (fun _ h => h) (fun _ h => .inl h) (Kept.of_below b1 ks) tn⟩
set_option maxRecDepth 100000 in
set_option maxHeartbeats 2000000 in
theorem play_71 (K : Nat → Prop) (w : World) (p : Nat) (st : List TV) (_hf : Fine st) (h : SRep K w p st) (v : Int) (s : List UInt8) (v1 : -9223372036854775808 ≤ v) (v2 : v ≤ 9223372036854775807) :
    Calls Try.prog 85 #[yv p, U 71, I v, S s] w (Wc K w p (wPush (.int v) st)) := by
  have b1 : Below w.heap.size w (w.alloc (.cells #[ptr p] 31)) := (Below.refl _ _).alloc (Nat.le_refl _) _
  have hS := pushI_w K _ p st (h.later b1) v v1 v2
  have ks := h.ks
  clear _hf
  unfold yv
  generalize wPush (.int v) st = r at *
  go_enter Try.func85, Try.ntmps85
  go_wp2_with fail
  refine hS.mono ?_
  rintro e w2 ⟨rfl, tn⟩
  go_wp2
  go_ret
  exact ⟨rfl, .trans (fun _ h => h) (fun _ h => .inl h) (Kept.of_below b1 ks) tn⟩
set_option maxRecDepth 100000 in
set_option maxHeartbeats 2000000 in
theorem play_48 (K : Nat → Prop) (w : World) (p : Nat) (st : List TV) (hf : Fine st) (h : SRep K w p st) (v : Int) (s : List UInt8) :
    Calls Try.prog 85 #[yv p, U 48, I v, S s] w (Wc K w p (extraT 0 st)) := by
  have b1 : Below w.heap.size w (w.alloc (.cells #[ptr p] 31)) := (Below.refl _ _).alloc (Nat.le_refl _) _
  have hS := extra_w K _ p st (h.later b1) hf 0
  have ks := h.ks
  clear hf
  unfold yv
  generalize extraT 0 st = r at *
  go_enter Try.func85, Try.ntmps85
  go_wp2_with fail
  refine hS.mono ?_
  rintro e w2 ⟨rfl, tn⟩
  go_wp2
  go_ret
  exact ⟨rfl, .trans (fun _ h => h) (fun _ h => .inl h) (Kept.of_below b1 ks) tn⟩
set_option maxRecDepth 100000 in
set_option maxHeartbeats 2000000 in
theorem play_49 (K : Nat → Prop) (w : World) (p : Nat) (st : List TV) (hf : Fine st) (h : SRep K w p st) (v : Int) (s : List UInt8) :
    Calls Try.prog 85 #[yv p, U 49, I v, S s] w (Wc K w p (extraT 1 st)) := by
  have b1 : Below w.heap.size w (w.alloc (.cells #[ptr p] 31)) := (Below.refl _ _).alloc (Nat.le_refl _) _
  have hS := extra_w K _ p st (h.later b1) hf 1
  have ks := h.ks
  clear hf
  unfold yv
  generalize extraT 1 st = r at *
  go_enter Try.func85, Try.ntmps85
  go_wp2_with fail
  refine hS.mono ?_
  rintro e w2 ⟨rfl, tn⟩
  go_wp2
  go_ret
  exact ⟨rfl, .trans (fun _ h => h) (fun _ h => .inl h) (Kept.of_below b1 ks) tn⟩
set_option maxRecDepth 100000 in
set_option maxHeartbeats 2000000 in
theorem play_50 (K : Nat → Prop) (w : World) (p : Nat) (st : List TV) (hf : Fine st) (h : SRep K w p st) (v : Int) (s : List UInt8) :
    Calls Try.prog 85 #[yv p, U 50, I v, S s] w (Wc K w p (extraT 2 st)) := by
  have b1 : Below w.heap.size w (w.alloc (.cells #[ptr p] 31)) := (Below.refl _ _).alloc (Nat.le_refl _) _
  have hS := extra_w K _ p st (h.later b1) hf 2
  have ks := h.ks
  clear hf
  unfold yv
  generalize extraT 2 st = r at *
  go_enter Try.func85, Try.ntmps85
  go_wp2_with fail
  refine hS.mono ?_
  rintro e w2 ⟨rfl, tn⟩
  go_wp2
  go_ret
  exact ⟨rfl, .trans (fun _ h => h) (fun _ h => .inl h) (Kept.of_below b1 ks) tn⟩
set_option maxRecDepth 100000 in
set_option maxHeartbeats 2000000 in
theorem play_51 (K : Nat → Prop) (w : World) (p : Nat) (st : List TV) (hf : Fine st) (h : SRep K w p st) (v : Int) (s : List UInt8) :
    Calls Try.prog 85 #[yv p, U 51, I v, S s] w (Wc K w p (extraT 3 st)) := by
  have b1 : Below w.heap.size w (w.alloc (.cells #[ptr p] 31)) := (Below.refl _ _).alloc (Nat.le_refl _) _
  have hS := extra_w K _ p st (h.later b1) hf 3
  have ks := h.ks
  clear hf
  unfold yv
  generalize extraT 3 st = r at *
  go_enter Try.func85, Try.ntmps85
  go_wp2_with fail
  refine hS.mono ?_
  rintro e w2 ⟨rfl, tn⟩
  go_wp2
  go_ret
  exact ⟨rfl, .trans (fun _ h => h) (fun _ h => .inl h) (Kept.of_below b1 ks) tn⟩
set_option maxRecDepth 100000 in
set_option maxHeartbeats 2000000 in
theorem play_52 (K : Nat → Prop) (w : World) (p : Nat) (st : List TV) (hf : Fine st) (h : SRep K w p st) (v : Int) (s : List UInt8) :
    Calls Try.prog 85 #[yv p, U 52, I v, S s] w (Wc K w p (extraT 4 st)) := by
  have b1 : Below w.heap.size w (w.alloc (.cells #[ptr p] 31)) := (Below.refl _ _).alloc (Nat.le_refl _) _
  have hS := extra_w K _ p st (h.later b1) hf 4
  have ks := h.ks
  clear hf
  unfold yv
  generalize extraT 4 st = r at *
  go_enter Try.func85, Try.ntmps85
  go_wp2_with fail
  refine hS.mono ?_
  rintro e w2 ⟨rfl, tn⟩
  go_wp2
  go_ret
  exact ⟨rfl, .trans (fun _ h => h) (fun _ h => .inl h) (Kept.of_below b1 ks) tn⟩
set_option maxRecDepth 100000 in
set_option maxHeartbeats 2000000 in
theorem play_53 (K : Nat → Prop) (w : World) (p : Nat) (st : List TV) (hf : Fine st) (h : SRep K w p st) (v : Int) (s : List UInt8) :
    Calls Try.prog 85 #[yv p, U 53, I v, S s] w (Wc K w p (extraT 5 st)) := by
  have b1 : Below w.heap.size w (w.alloc (.cells #[ptr p] 31)) := (Below.refl _ _).alloc (Nat.le_refl _) _
  have hS := extra_w K _ p st (h.later b1) hf 5
  have ks := h.ks
  clear hf
  unfold yv
  generalize extraT 5 st = r at *
  go_enter Try.func85, Try.ntmps85
  go_wp2_with fail
  refine hS.mono ?_
  rintro e w2 ⟨rfl, tn⟩
  go_wp2
  go_ret
  exact ⟨rfl, .trans (fun _ h => h) (fun _ h => .inl h) (Kept.of_below b1 ks) tn⟩
set_option maxRecDepth 100000 in
set_option maxHeartbeats 2000000 in
theorem play_54 (K : Nat → Prop) (w : World) (p : Nat) (st : List TV) (hf : Fine st) (h : SRep K w p st) (v : Int) (s : List UInt8) :
    Calls Try.prog 85 #[yv p, U 54, I v, S s] w (Wc K w p (extraT 6 st)) := by
  have b1 : Below w.heap.size w (w.alloc (.cells #[ptr p] 31)) := (Below.refl _ _).alloc (Nat.le_refl _) _
  have hS := extra_w K _ p st (h.later b1) hf 6
  have ks := h.ks
  clear hf
  unfold yv
  generalize extraT 6 st = r at *
  go_enter Try.func85, Try.ntmps85
  go_wp2_with fail
  refine hS.mono ?_
  rintro e w2 ⟨rfl, tn⟩
  go_wp2
  go_ret
  exact ⟨rfl, .trans (fun _ h => h) (fun _ h => .inl h) (Kept.of_below b1 ks) tn⟩
set_option maxRecDepth 100000 in
set_option maxHeartbeats 2000000 in
theorem play_55 (K : Nat → Prop) (w : World) (p : Nat) (st : List TV) (hf : Fine st) (h : SRep K w p st) (v : Int) (s : List UInt8) :
    Calls Try.prog 85 #[yv p, U 55, I v, S s] w (Wc K w p (extraT 7 st)) := by
  have b1 : Below w.heap.size w (w.alloc (.cells #[ptr p] 31)) := (Below.refl _ _).alloc (Nat.le_refl _) _
  have hS := extra_w K _ p st (h.later b1) hf 7
  have ks := h.ks
  clear hf
  unfold yv
  generalize extraT 7 st = r at *
  go_enter Try.func85, Try.ntmps85
  go_wp2_with fail
  refine hS.mono ?_
  rintro e w2 ⟨rfl, tn⟩
  go_wp2
  go_ret
  exact ⟨rfl, .trans (fun _ h => h) (fun _ h => .inl h) (Kept.of_below b1 ks) tn⟩
set_option maxRecDepth 100000 in
set_option maxHeartbeats 2000000 in
theorem play_56 (K : Nat → Prop) (w : World) (p : Nat) (st : List TV) (hf : Fine st) (h : SRep K w p st) (v : Int) (s : List UInt8) :
    Calls Try.prog 85 #[yv p, U 56, I v, S s] w (Wc K w p (extraT 8 st)) := by
  have b1 : Below w.heap.size w (w.alloc (.cells #[ptr p] 31)) := (Below.refl _ _).alloc (Nat.le_refl _) _
  have hS := extra_w K _ p st (h.later b1) hf 8
  have ks := h.ks
  clear hf
  unfold yv
  generalize extraT 8 st = r at *
  go_enter Try.func85, Try.ntmps85
  go_wp2_with fail
  refine hS.mono ?_
  rintro e w2 ⟨rfl, tn⟩
  go_wp2
  go_ret
  exact ⟨rfl, .trans (fun _ h => h) (fun _ h => .inl h) (Kept.of_below b1 ks) tn⟩
set_option maxRecDepth 100000 in
set_option maxHeartbeats 2000000 in
theorem play_57 (K : Nat → Prop) (w : World) (p : Nat) (st : List TV) (hf : Fine st) (h : SRep K w p st) (v : Int) (s : List UInt8) :
    Calls Try.prog 85 #[yv p, U 57, I v, S s] w (Wc K w p (extraT 9 st)) := by
  have b1 : Below w.heap.size w (w.alloc (.cells #[ptr p] 31)) := (Below.refl _ _).alloc (Nat.le_refl _) _
  have hS := extra_w K _ p st (h.later b1) hf 9
  have ks := h.ks
  clear hf
  unfold yv
  generalize extraT 9 st = r at *
  go_enter Try.func85, Try.ntmps85
  go_wp2_with fail
  refine hS.mono ?_
  rintro e w2 ⟨rfl, tn⟩
  go_wp2
  go_ret
  exact ⟨rfl, .trans (fun _ h => h) (fun _ h => .inl h) (Kept.of_below b1 ks) tn⟩
end Go.Proofs.Qxb6500470a
