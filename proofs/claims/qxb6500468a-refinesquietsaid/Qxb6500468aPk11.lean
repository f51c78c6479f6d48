import Derived.Test.Qxb6500468aPk10
namespace Go.Proofs.Qxb6500468a
open Go.RowKit

abbrev AnsV (e n : Int) (s : List UInt8) : Value := .agg #[I e, I n, I 0, S s]
abbrev OpV (K a b c : Int) (s t : ByteArray) : Value := .agg #[I K, I a, I b, I c, .string s, .string t]
def goodB (k d l f s : Int) : Bool := decide (-128 ≤ k ∧ k ≤ 127 ∧ -32768 ≤ d ∧ d ≤ 32767 ∧ 0 ≤ l ∧ l ≤ 65535 ∧ 0 ≤ f ∧ f ≤ 31 ∧ 0 ≤ s ∧ s ≤ 2047)
theorem goodB_iff (k d l f s : Int) : goodB k d l f s = true ↔ goodH k d l f s := by unfold goodB goodH; exact decide_eq_true_iff
def imgB (s : List UInt8) : Bool := decide (s.length ≤ 64 ∧ s.length % 8 = 0 ∧ ∀ i, i < s.length / 8 → (slotAt s i < 8 ∧ (i = 0 ∨ slotAt s (i - 1) < slotAt s i)))
theorem imgB_iff (s : List UInt8) : imgB s = true ↔ imgOk s := by unfold imgB imgOk recOk; exact decide_eq_true_iff
/-- The desk at (b, off): the header register, the image register. -/
structure DeskR (w : World) (b off : Nat) (k d l f s : Int) (img : List UInt8) : Prop where
  ex : ∃ cs t, Blk w b cs t ∧ cs[off]? = some (I k) ∧ cs[off + 1]? = some (I d) ∧ cs[off + 2]? = some (I l) ∧ cs[off + 3]? = some (I f) ∧ cs[off + 4]? = some (I s) ∧ cs[off + 5]? = some (S img)
theorem DeskR.upd {bs : List Nat} {w w' : World} {b off : Nat} {k d l f s : Int} {img : List UInt8} (h : DeskR w b off k d l f s img) (u : Upd bs w w') (hb : b ∉ bs) : DeskR w' b off k d l f s img := by
  obtain ⟨cs, t, B, r⟩ := h.ex
  exact ⟨cs, t, B.upd u hb, r⟩
theorem DeskR.later {w w' : World} {b off : Nat} {k d l f s : Int} {img : List UInt8} (h : DeskR w b off k d l f s img) (u : Below w.heap.size w w') : DeskR w' b off k d l f s img := h.upd (Upd.of_below (bs := []) u) (by simp)
theorem DeskR.cells {w : World} {b off : Nat} {k d l f s : Int} {img : List UInt8} (h : DeskR w b off k d l f s img) : w.cell? ⟨b, off, none⟩ = some (I k) ∧ w.cell? ⟨b, off + 1, none⟩ = some (I d) ∧ w.cell? ⟨b, off + 2, none⟩ = some (I l) ∧ w.cell? ⟨b, off + 3, none⟩ = some (I f) ∧ w.cell? ⟨b, off + 4, none⟩ = some (I s) ∧ w.cell? ⟨b, off + 5, none⟩ = some (S img) ∧ b < w.heap.size := by
  obtain ⟨cs, t, B, r0, r1, r2, r3, r4, r5⟩ := h.ex
  exact ⟨(B.cell _).trans r0, (B.cell _).trans r1, (B.cell _).trans r2, (B.cell _).trans r3, (B.cell _).trans r4, (B.cell _).trans r5, B.lt⟩
theorem putAll (w : World) (x bw ub u : Nat) (ws : List Nat) (h : StoR w x bw ub u ws) (k d l f s : Int) : ∃ (r : (Int × Int) × Nat × List Nat), r = (if goodB k d l f s then (if lowZ u = 8 then ((0, 7), u, ws) else ((((lowZ u : Nat) : Int), 0), u ||| 2 ^ lowZ u, ws.set (lowZ u) (packN k d l f s))) else ((0, 6), u, ws)) ∧
    Calls Try.prog 34 #[ptr x, HdV k d l f s] w fun e w' => e = .returned (.tuple #[I r.1.1, I r.1.2]) ∧ StoR w' x bw ub r.2.1 r.2.2 ∧ Upd [bw, ub] w w' := by
  refine ⟨_, rfl, ?_⟩
  cases hg : goodB k d l f s with
  | true =>
    rw [if_pos rfl]
    refine (put_good w x bw ub u ws h k d l f s ((goodB_iff _ _ _ _ _).1 hg)).mono ?_
    rintro e w' (⟨h8, rfl, S1, U1⟩ | ⟨h8, rfl, S1, U1⟩)
    · rw [if_pos h8]; exact ⟨rfl, S1, U1⟩
    · rw [if_neg (by omega)]; exact ⟨rfl, S1, U1⟩
  | false =>
    rw [if_neg (by simp)]
    refine (put_bad w x bw ub u ws h k d l f s (fun e => by rw [(goodB_iff _ _ _ _ _).2 e] at hg; cases hg)).mono ?_
    rintro e w' ⟨rfl, S1, U1⟩
    exact ⟨rfl, S1, U1⟩
theorem importAll (w : World) (x bw ub u : Nat) (ws : List Nat) (h : StoR w x bw ub u ws) (s : List UInt8) : ∃ (r : Int × Nat × List Nat), r = (if imgB s then (0, impU s (s.length / 8), impW s (s.length / 8)) else (badE s, u, ws)) ∧
    Calls Try.prog 40 #[ptr x, S s] w fun e w' => e = .returned (I r.1) ∧ StoR w' x bw ub r.2.1 r.2.2 ∧ Upd [bw, ub] w w' := by
  refine ⟨_, rfl, ?_⟩
  cases hg : imgB s with
  | true =>
    rw [if_pos rfl]
    exact import_ok w x bw ub u ws h s ((imgB_iff _).1 hg)
  | false =>
    rw [if_neg (by simp)]
    refine (import_bad w x bw ub u ws h s (fun e => by rw [(imgB_iff _).2 e] at hg; cases hg)).mono ?_
    rintro e w' ⟨rfl, rfl⟩
    exact ⟨rfl, h, Upd.refl _ _⟩
/-- What a step answers, and the store behind it. -/
def doP (K A B : Int) (S1 img : List UInt8) (k d l f s : Int) (u : Nat) (ws : List Nat) : (Int × Int × List UInt8) × Nat × List Nat :=
  if K = 4 then (let r := (if goodB k d l f s then (if lowZ u = 8 then ((0, 7), u, ws) else ((((lowZ u : Nat) : Int), 0), u ||| 2 ^ lowZ u, ws.set (lowZ u) (packN k d l f s))) else (((0 : Int), (6 : Int)), u, ws)); ((r.1.2, r.1.1, []), r.2.1, r.2.2))
  else if K = 5 then ((atF u A, 0, shH (unK (getE u ws A)) (unD (getE u ws A)) (unL (getE u ws A)) (unF (getE u ws A)) (unS (getE u ws A))), u, ws)
  else if K = 6 then ((atF u A, 0, []), (if atF u A = 0 then rmB u A.toNat else u), (if atF u A = 0 then ws.set A.toNat 0 else ws))
  else if K = 7 then ((atF u A, 0, []), u, (if atF u A = 0 then ws.set A.toNat (bumpN (ws.getD A.toNat 0) B) else ws))
  else if K = 8 then ((0, popB u, []), u, ws)
  else if K = 9 then ((0, 0, expB u ws 8), u, ws)
  else if K = 10 then (let r := (if imgB S1 then ((0 : Int), impU S1 (S1.length / 8), impW S1 (S1.length / 8)) else (badE S1, u, ws)); ((r.1, 0, []), r.2.1, r.2.2))
  else if K = 11 then (let r := (if imgB img then ((0 : Int), impU img (img.length / 8), impW img (img.length / 8)) else (badE img, u, ws)); ((r.1, 0, []), r.2.1, r.2.2))
  else if K = 14 then ((0, 0, showT u ws 8), u, ws)
  else if K = 15 then ((0, 1, []), u, ws)
  else ((0, 0, []), u, ws)

set_option maxRecDepth 100000 in
set_option maxHeartbeats 2000000 in
theorem do_4 (w : World) (x bw ub u : Nat) (ws : List Nat) (h : StoR w x bw ub u ws) (b off : Nat) (k d l f s : Int) (img : List UInt8) (hd : DeskR w b off k d l f s img) (A B C : Int) (S1 : List UInt8) (t : ByteArray) (E N : Int) (U : Nat) (W : List Nat)
    (hC : ∀ v, StoR v x bw ub u ws → Calls Try.prog 34 #[ptr x, HdV k d l f s] v fun e w' => e = .returned (.tuple #[I N, I E]) ∧ StoR w' x bw ub U W ∧ Upd [bw, ub] v w') :
    Calls Try.prog 29 #[ptr x, .pointer (some ⟨b, off, none⟩), OpV 4 A B C (str S1) t] w fun e w' => e = .returned (AnsV E N []) ∧ StoR w' x bw ub U W ∧ Upd [bw, ub] w w' := by
  have b0 := ((Below.refl w.heap.size w).alloc (Nat.le_refl _) (.cells #[I 4, I A, I B, I C, S S1, .string t] 38)).alloc (by simp) (.cells #[I 0, I 0, I 0, S []] 42)
  have BA : Blk ((w.alloc (.cells #[I 4, I A, I B, I C, S S1, .string t] 38)).alloc (.cells #[I 0, I 0, I 0, S []] 42)) (w.heap.size + 1) #[I 0, I 0, I 0, S []] 42 := Blk.new (by simp)
  obtain ⟨-, -, lx, lb, lu⟩ := h.at0
  have h0 := h.later b0
  obtain ⟨d0, d1, d2, d3, d4, d5, ld⟩ := hd.cells
  go_enter Try.func29, Try.ntmps29
  go_wp2_with fail
  refine (hC _ h0).mono ?_
  rintro e w1 ⟨rfl, s1, u1⟩
  have BA1 := BA.upd u1 (by simp; omega)
  obtain ⟨q0, q1, q2⟩ := BA1.facts
  have U1 : Upd [bw, ub] w w1 := (Upd.of_below b0).trans u1
  clear d0 d1 d2 d3 d4 d5 u1 BA h0 b0
  go_wp2
  have BA2 := (((BA1.set (i := 0) (I E)).set (i := 1) (I N)).set (i := 2) (I 0)).set (i := 3) (S [])
  exact ret_row Try.results29 rfl rfl BA2 Try.underlying42 rfl (by kernel_rfl) ⟨rfl, s1.upd (bs := [w.heap.size + 1]) (((((Upd.refl _ _).setCell (by simp) _).setCell (by simp) _).setCell (by simp) _).setCell (by simp) _) (by simp; omega) (by simp; omega) (by simp; omega), (((U1.setCell (.inr (Nat.le_succ _)) _).setCell (.inr (Nat.le_succ _)) _).setCell (.inr (Nat.le_succ _)) _).setCell (.inr (Nat.le_succ _)) _⟩
set_option maxRecDepth 100000 in
set_option maxHeartbeats 2000000 in
theorem do_6 (w : World) (x bw ub u : Nat) (ws : List Nat) (h : StoR w x bw ub u ws) (b off : Nat) (k d l f s : Int) (img : List UInt8) (hd : DeskR w b off k d l f s img) (A B C : Int) (S1 : List UInt8) (t : ByteArray) (E : Int) (U : Nat) (W : List Nat)
    (hC : ∀ v, StoR v x bw ub u ws → Calls Try.prog 36 #[ptr x, I A] v fun e w' => e = .returned (I E) ∧ StoR w' x bw ub U W ∧ Upd [bw, ub] v w') :
    Calls Try.prog 29 #[ptr x, .pointer (some ⟨b, off, none⟩), OpV 6 A B C (str S1) t] w fun e w' => e = .returned (AnsV E 0 []) ∧ StoR w' x bw ub U W ∧ Upd [bw, ub] w w' := by
  have b0 := ((Below.refl w.heap.size w).alloc (Nat.le_refl _) (.cells #[I 6, I A, I B, I C, S S1, .string t] 38)).alloc (by simp) (.cells #[I 0, I 0, I 0, S []] 42)
  have BA : Blk ((w.alloc (.cells #[I 6, I A, I B, I C, S S1, .string t] 38)).alloc (.cells #[I 0, I 0, I 0, S []] 42)) (w.heap.size + 1) #[I 0, I 0, I 0, S []] 42 := Blk.new (by simp)
  obtain ⟨-, -, lx, lb, lu⟩ := h.at0
  have h0 := h.later b0
  obtain ⟨d0, d1, d2, d3, d4, d5, ld⟩ := hd.cells
  go_enter Try.func29, Try.ntmps29
  go_wp2_with fail
  refine (hC _ h0).mono ?_
  rintro e w1 ⟨rfl, s1, u1⟩
  have BA1 := BA.upd u1 (by simp; omega)
  obtain ⟨q0, q1, q2⟩ := BA1.facts
  have U1 : Upd [bw, ub] w w1 := (Upd.of_below b0).trans u1
  clear d0 d1 d2 d3 d4 d5 u1 BA h0 b0
  go_wp2
  have BA2 := (((BA1.set (i := 0) (I E)).set (i := 1) (I 0)).set (i := 2) (I 0)).set (i := 3) (S [])
  exact ret_row Try.results29 rfl rfl BA2 Try.underlying42 rfl (by kernel_rfl) ⟨rfl, s1.upd (bs := [w.heap.size + 1]) (((((Upd.refl _ _).setCell (by simp) _).setCell (by simp) _).setCell (by simp) _).setCell (by simp) _) (by simp; omega) (by simp; omega) (by simp; omega), (((U1.setCell (.inr (Nat.le_succ _)) _).setCell (.inr (Nat.le_succ _)) _).setCell (.inr (Nat.le_succ _)) _).setCell (.inr (Nat.le_succ _)) _⟩
set_option maxRecDepth 100000 in
set_option maxHeartbeats 2000000 in
theorem do_7 (w : World) (x bw ub u : Nat) (ws : List Nat) (h : StoR w x bw ub u ws) (b off : Nat) (k d l f s : Int) (img : List UInt8) (hd : DeskR w b off k d l f s img) (A B C : Int) (S1 : List UInt8) (t : ByteArray) (E : Int) (U : Nat) (W : List Nat)
    (hC : ∀ v, StoR v x bw ub u ws → Calls Try.prog 37 #[ptr x, I A, I B] v fun e w' => e = .returned (I E) ∧ StoR w' x bw ub U W ∧ Upd [bw, ub] v w') :
    Calls Try.prog 29 #[ptr x, .pointer (some ⟨b, off, none⟩), OpV 7 A B C (str S1) t] w fun e w' => e = .returned (AnsV E 0 []) ∧ StoR w' x bw ub U W ∧ Upd [bw, ub] w w' := by
  have b0 := ((Below.refl w.heap.size w).alloc (Nat.le_refl _) (.cells #[I 7, I A, I B, I C, S S1, .string t] 38)).alloc (by simp) (.cells #[I 0, I 0, I 0, S []] 42)
  have BA : Blk ((w.alloc (.cells #[I 7, I A, I B, I C, S S1, .string t] 38)).alloc (.cells #[I 0, I 0, I 0, S []] 42)) (w.heap.size + 1) #[I 0, I 0, I 0, S []] 42 := Blk.new (by simp)
  obtain ⟨-, -, lx, lb, lu⟩ := h.at0
  have h0 := h.later b0
  obtain ⟨d0, d1, d2, d3, d4, d5, ld⟩ := hd.cells
  go_enter Try.func29, Try.ntmps29
  go_wp2_with fail
  refine (hC _ h0).mono ?_
  rintro e w1 ⟨rfl, s1, u1⟩
  have BA1 := BA.upd u1 (by simp; omega)
  obtain ⟨q0, q1, q2⟩ := BA1.facts
  have U1 : Upd [bw, ub] w w1 := (Upd.of_below b0).trans u1
  clear d0 d1 d2 d3 d4 d5 u1 BA h0 b0
  go_wp2
  have BA2 := (((BA1.set (i := 0) (I E)).set (i := 1) (I 0)).set (i := 2) (I 0)).set (i := 3) (S [])
  exact ret_row Try.results29 rfl rfl BA2 Try.underlying42 rfl (by kernel_rfl) ⟨rfl, s1.upd (bs := [w.heap.size + 1]) (((((Upd.refl _ _).setCell (by simp) _).setCell (by simp) _).setCell (by simp) _).setCell (by simp) _) (by simp; omega) (by simp; omega) (by simp; omega), (((U1.setCell (.inr (Nat.le_succ _)) _).setCell (.inr (Nat.le_succ _)) _).setCell (.inr (Nat.le_succ _)) _).setCell (.inr (Nat.le_succ _)) _⟩
set_option maxRecDepth 100000 in
set_option maxHeartbeats 2000000 in
theorem do_8 (w : World) (x bw ub u : Nat) (ws : List Nat) (h : StoR w x bw ub u ws) (b off : Nat) (k d l f s : Int) (img : List UInt8) (hd : DeskR w b off k d l f s img) (A B C : Int) (S1 : List UInt8) (t : ByteArray) (N : Int) (U : Nat) (W : List Nat)
    (hC : ∀ v, StoR v x bw ub u ws → Calls Try.prog 38 #[ptr x] v fun e w' => e = .returned (I N) ∧ StoR w' x bw ub U W ∧ Upd [bw, ub] v w') :
    Calls Try.prog 29 #[ptr x, .pointer (some ⟨b, off, none⟩), OpV 8 A B C (str S1) t] w fun e w' => e = .returned (AnsV 0 N []) ∧ StoR w' x bw ub U W ∧ Upd [bw, ub] w w' := by
  have b0 := ((Below.refl w.heap.size w).alloc (Nat.le_refl _) (.cells #[I 8, I A, I B, I C, S S1, .string t] 38)).alloc (by simp) (.cells #[I 0, I 0, I 0, S []] 42)
  have BA : Blk ((w.alloc (.cells #[I 8, I A, I B, I C, S S1, .string t] 38)).alloc (.cells #[I 0, I 0, I 0, S []] 42)) (w.heap.size + 1) #[I 0, I 0, I 0, S []] 42 := Blk.new (by simp)
  obtain ⟨-, -, lx, lb, lu⟩ := h.at0
  have h0 := h.later b0
  obtain ⟨d0, d1, d2, d3, d4, d5, ld⟩ := hd.cells
  go_enter Try.func29, Try.ntmps29
  go_wp2_with fail
  refine (hC _ h0).mono ?_
  rintro e w1 ⟨rfl, s1, u1⟩
  have BA1 := BA.upd u1 (by simp; omega)
  obtain ⟨q0, q1, q2⟩ := BA1.facts
  have U1 : Upd [bw, ub] w w1 := (Upd.of_below b0).trans u1
  clear d0 d1 d2 d3 d4 d5 u1 BA h0 b0
  go_wp2
  have BA2 := (((BA1.set (i := 0) (I 0)).set (i := 1) (I N)).set (i := 2) (I 0)).set (i := 3) (S [])
  exact ret_row Try.results29 rfl rfl BA2 Try.underlying42 rfl (by kernel_rfl) ⟨rfl, s1.upd (bs := [w.heap.size + 1]) (((((Upd.refl _ _).setCell (by simp) _).setCell (by simp) _).setCell (by simp) _).setCell (by simp) _) (by simp; omega) (by simp; omega) (by simp; omega), (((U1.setCell (.inr (Nat.le_succ _)) _).setCell (.inr (Nat.le_succ _)) _).setCell (.inr (Nat.le_succ _)) _).setCell (.inr (Nat.le_succ _)) _⟩
set_option maxRecDepth 100000 in
set_option maxHeartbeats 2000000 in
theorem do_9 (w : World) (x bw ub u : Nat) (ws : List Nat) (h : StoR w x bw ub u ws) (b off : Nat) (k d l f s : Int) (img : List UInt8) (hd : DeskR w b off k d l f s img) (A B C : Int) (S1 : List UInt8) (t : ByteArray) (T : List UInt8) (U : Nat) (W : List Nat)
    (hC : ∀ v, StoR v x bw ub u ws → Calls Try.prog 39 #[ptr x] v fun e w' => e = .returned (S T) ∧ StoR w' x bw ub U W ∧ Upd [bw, ub] v w') :
    Calls Try.prog 29 #[ptr x, .pointer (some ⟨b, off, none⟩), OpV 9 A B C (str S1) t] w fun e w' => e = .returned (AnsV 0 0 T) ∧ StoR w' x bw ub U W ∧ Upd [bw, ub] w w' := by
  have b0 := ((Below.refl w.heap.size w).alloc (Nat.le_refl _) (.cells #[I 9, I A, I B, I C, S S1, .string t] 38)).alloc (by simp) (.cells #[I 0, I 0, I 0, S []] 42)
  have BA : Blk ((w.alloc (.cells #[I 9, I A, I B, I C, S S1, .string t] 38)).alloc (.cells #[I 0, I 0, I 0, S []] 42)) (w.heap.size + 1) #[I 0, I 0, I 0, S []] 42 := Blk.new (by simp)
  obtain ⟨-, -, lx, lb, lu⟩ := h.at0
  have h0 := h.later b0
  obtain ⟨d0, d1, d2, d3, d4, d5, ld⟩ := hd.cells
  go_enter Try.func29, Try.ntmps29
  go_wp2_with fail
  refine (hC _ h0).mono ?_
  rintro e w1 ⟨rfl, s1, u1⟩
  have BA1 := BA.upd u1 (by simp; omega)
  obtain ⟨q0, q1, q2⟩ := BA1.facts
  have U1 : Upd [bw, ub] w w1 := (Upd.of_below b0).trans u1
  clear d0 d1 d2 d3 d4 d5 u1 BA h0 b0
  go_wp2
  have BA2 := (((BA1.set (i := 0) (I 0)).set (i := 1) (I 0)).set (i := 2) (I 0)).set (i := 3) (S T)
  exact ret_row Try.results29 rfl rfl BA2 Try.underlying42 rfl (by kernel_rfl) ⟨rfl, s1.upd (bs := [w.heap.size + 1]) (((((Upd.refl _ _).setCell (by simp) _).setCell (by simp) _).setCell (by simp) _).setCell (by simp) _) (by simp; omega) (by simp; omega) (by simp; omega), (((U1.setCell (.inr (Nat.le_succ _)) _).setCell (.inr (Nat.le_succ _)) _).setCell (.inr (Nat.le_succ _)) _).setCell (.inr (Nat.le_succ _)) _⟩
set_option maxRecDepth 100000 in
set_option maxHeartbeats 2000000 in
theorem do_10 (w : World) (x bw ub u : Nat) (ws : List Nat) (h : StoR w x bw ub u ws) (b off : Nat) (k d l f s : Int) (img : List UInt8) (hd : DeskR w b off k d l f s img) (A B C : Int) (S1 : List UInt8) (t : ByteArray) (E : Int) (U : Nat) (W : List Nat)
    (hC : ∀ v, StoR v x bw ub u ws → Calls Try.prog 40 #[ptr x, S S1] v fun e w' => e = .returned (I E) ∧ StoR w' x bw ub U W ∧ Upd [bw, ub] v w') :
    Calls Try.prog 29 #[ptr x, .pointer (some ⟨b, off, none⟩), OpV 10 A B C (str S1) t] w fun e w' => e = .returned (AnsV E 0 []) ∧ StoR w' x bw ub U W ∧ Upd [bw, ub] w w' := by
  have b0 := ((Below.refl w.heap.size w).alloc (Nat.le_refl _) (.cells #[I 10, I A, I B, I C, S S1, .string t] 38)).alloc (by simp) (.cells #[I 0, I 0, I 0, S []] 42)
  have BA : Blk ((w.alloc (.cells #[I 10, I A, I B, I C, S S1, .string t] 38)).alloc (.cells #[I 0, I 0, I 0, S []] 42)) (w.heap.size + 1) #[I 0, I 0, I 0, S []] 42 := Blk.new (by simp)
  obtain ⟨-, -, lx, lb, lu⟩ := h.at0
  have h0 := h.later b0
  obtain ⟨d0, d1, d2, d3, d4, d5, ld⟩ := hd.cells
  go_enter Try.func29, Try.ntmps29
  go_wp2_with fail
  refine (hC _ h0).mono ?_
  rintro e w1 ⟨rfl, s1, u1⟩
  have BA1 := BA.upd u1 (by simp; omega)
  obtain ⟨q0, q1, q2⟩ := BA1.facts
  have U1 : Upd [bw, ub] w w1 := (Upd.of_below b0).trans u1
  clear d0 d1 d2 d3 d4 d5 u1 BA h0 b0
  go_wp2
  have BA2 := (((BA1.set (i := 0) (I E)).set (i := 1) (I 0)).set (i := 2) (I 0)).set (i := 3) (S [])
  exact ret_row Try.results29 rfl rfl BA2 Try.underlying42 rfl (by kernel_rfl) ⟨rfl, s1.upd (bs := [w.heap.size + 1]) (((((Upd.refl _ _).setCell (by simp) _).setCell (by simp) _).setCell (by simp) _).setCell (by simp) _) (by simp; omega) (by simp; omega) (by simp; omega), (((U1.setCell (.inr (Nat.le_succ _)) _).setCell (.inr (Nat.le_succ _)) _).setCell (.inr (Nat.le_succ _)) _).setCell (.inr (Nat.le_succ _)) _⟩
set_option maxRecDepth 100000 in
set_option maxHeartbeats 2000000 in
theorem do_11 (w : World) (x bw ub u : Nat) (ws : List Nat) (h : StoR w x bw ub u ws) (b off : Nat) (k d l f s : Int) (img : List UInt8) (hd : DeskR w b off k d l f s img) (A B C : Int) (S1 : List UInt8) (t : ByteArray) (E : Int) (U : Nat) (W : List Nat)
    (hC : ∀ v, StoR v x bw ub u ws → Calls Try.prog 40 #[ptr x, S img] v fun e w' => e = .returned (I E) ∧ StoR w' x bw ub U W ∧ Upd [bw, ub] v w') :
    Calls Try.prog 29 #[ptr x, .pointer (some ⟨b, off, none⟩), OpV 11 A B C (str S1) t] w fun e w' => e = .returned (AnsV E 0 []) ∧ StoR w' x bw ub U W ∧ Upd [bw, ub] w w' := by
  have b0 := ((Below.refl w.heap.size w).alloc (Nat.le_refl _) (.cells #[I 11, I A, I B, I C, S S1, .string t] 38)).alloc (by simp) (.cells #[I 0, I 0, I 0, S []] 42)
  have BA : Blk ((w.alloc (.cells #[I 11, I A, I B, I C, S S1, .string t] 38)).alloc (.cells #[I 0, I 0, I 0, S []] 42)) (w.heap.size + 1) #[I 0, I 0, I 0, S []] 42 := Blk.new (by simp)
  obtain ⟨-, -, lx, lb, lu⟩ := h.at0
  have h0 := h.later b0
  obtain ⟨d0, d1, d2, d3, d4, d5, ld⟩ := hd.cells
  go_enter Try.func29, Try.ntmps29
  go_wp2_with fail
  refine (hC _ h0).mono ?_
  rintro e w1 ⟨rfl, s1, u1⟩
  have BA1 := BA.upd u1 (by simp; omega)
  obtain ⟨q0, q1, q2⟩ := BA1.facts
  have U1 : Upd [bw, ub] w w1 := (Upd.of_below b0).trans u1
  clear d0 d1 d2 d3 d4 d5 u1 BA h0 b0
  go_wp2
  have BA2 := (((BA1.set (i := 0) (I E)).set (i := 1) (I 0)).set (i := 2) (I 0)).set (i := 3) (S [])
  exact ret_row Try.results29 rfl rfl BA2 Try.underlying42 rfl (by kernel_rfl) ⟨rfl, s1.upd (bs := [w.heap.size + 1]) (((((Upd.refl _ _).setCell (by simp) _).setCell (by simp) _).setCell (by simp) _).setCell (by simp) _) (by simp; omega) (by simp; omega) (by simp; omega), (((U1.setCell (.inr (Nat.le_succ _)) _).setCell (.inr (Nat.le_succ _)) _).setCell (.inr (Nat.le_succ _)) _).setCell (.inr (Nat.le_succ _)) _⟩
set_option maxRecDepth 100000 in
set_option maxHeartbeats 2000000 in
theorem do_14 (w : World) (x bw ub u : Nat) (ws : List Nat) (h : StoR w x bw ub u ws) (b off : Nat) (k d l f s : Int) (img : List UInt8) (hd : DeskR w b off k d l f s img) (A B C : Int) (S1 : List UInt8) (t : ByteArray) (T : List UInt8) (U : Nat) (W : List Nat)
    (hC : ∀ v, StoR v x bw ub u ws → Calls Try.prog 41 #[ptr x] v fun e w' => e = .returned (S T) ∧ StoR w' x bw ub U W ∧ Upd [bw, ub] v w') :
    Calls Try.prog 29 #[ptr x, .pointer (some ⟨b, off, none⟩), OpV 14 A B C (str S1) t] w fun e w' => e = .returned (AnsV 0 0 T) ∧ StoR w' x bw ub U W ∧ Upd [bw, ub] w w' := by
  have b0 := ((Below.refl w.heap.size w).alloc (Nat.le_refl _) (.cells #[I 14, I A, I B, I C, S S1, .string t] 38)).alloc (by simp) (.cells #[I 0, I 0, I 0, S []] 42)
  have BA : Blk ((w.alloc (.cells #[I 14, I A, I B, I C, S S1, .string t] 38)).alloc (.cells #[I 0, I 0, I 0, S []] 42)) (w.heap.size + 1) #[I 0, I 0, I 0, S []] 42 := Blk.new (by simp)
  obtain ⟨-, -, lx, lb, lu⟩ := h.at0
  have h0 := h.later b0
  obtain ⟨d0, d1, d2, d3, d4, d5, ld⟩ := hd.cells
  go_enter Try.func29, Try.ntmps29
  go_wp2_with fail
  refine (hC _ h0).mono ?_
  rintro e w1 ⟨rfl, s1, u1⟩
  have BA1 := BA.upd u1 (by simp; omega)
  obtain ⟨q0, q1, q2⟩ := BA1.facts
  have U1 : Upd [bw, ub] w w1 := (Upd.of_below b0).trans u1
  clear d0 d1 d2 d3 d4 d5 u1 BA h0 b0
  go_wp2
  have BA2 := (((BA1.set (i := 0) (I 0)).set (i := 1) (I 0)).set (i := 2) (I 0)).set (i := 3) (S T)
  exact ret_row Try.results29 rfl rfl BA2 Try.underlying42 rfl (by kernel_rfl) ⟨rfl, s1.upd (bs := [w.heap.size + 1]) (((((Upd.refl _ _).setCell (by simp) _).setCell (by simp) _).setCell (by simp) _).setCell (by simp) _) (by simp; omega) (by simp; omega) (by simp; omega), (((U1.setCell (.inr (Nat.le_succ _)) _).setCell (.inr (Nat.le_succ _)) _).setCell (.inr (Nat.le_succ _)) _).setCell (.inr (Nat.le_succ _)) _⟩
set_option maxRecDepth 100000 in
set_option maxHeartbeats 2000000 in
theorem do_15 (w : World) (x bw ub u : Nat) (ws : List Nat) (h : StoR w x bw ub u ws) (b off : Nat) (k d l f s : Int) (img : List UInt8) (hd : DeskR w b off k d l f s img) (A B C : Int) (S1 : List UInt8) (t : ByteArray) (U : Nat) (W : List Nat)
    (hC : ∀ v, StoR v x bw ub u ws → Calls Try.prog 42 #[ptr x] v fun e w' => e = .returned (.bool true) ∧ StoR w' x bw ub U W ∧ Upd [bw, ub] v w') :
    Calls Try.prog 29 #[ptr x, .pointer (some ⟨b, off, none⟩), OpV 15 A B C (str S1) t] w fun e w' => e = .returned (AnsV 0 1 []) ∧ StoR w' x bw ub U W ∧ Upd [bw, ub] w w' := by
  have b0 := ((Below.refl w.heap.size w).alloc (Nat.le_refl _) (.cells #[I 15, I A, I B, I C, S S1, .string t] 38)).alloc (by simp) (.cells #[I 0, I 0, I 0, S []] 42)
  have BA : Blk ((w.alloc (.cells #[I 15, I A, I B, I C, S S1, .string t] 38)).alloc (.cells #[I 0, I 0, I 0, S []] 42)) (w.heap.size + 1) #[I 0, I 0, I 0, S []] 42 := Blk.new (by simp)
  obtain ⟨-, -, lx, lb, lu⟩ := h.at0
  have h0 := h.later b0
  obtain ⟨d0, d1, d2, d3, d4, d5, ld⟩ := hd.cells
  go_enter Try.func29, Try.ntmps29
  go_wp2_with fail
  refine (hC _ h0).mono ?_
  rintro e w1 ⟨rfl, s1, u1⟩
  have BA1 := BA.upd u1 (by simp; omega)
  obtain ⟨q0, q1, q2⟩ := BA1.facts
  have U1 : Upd [bw, ub] w w1 := (Upd.of_below b0).trans u1
  clear d0 d1 d2 d3 d4 d5 u1 BA h0 b0
  go_wp2
  have BA2 := (((BA1.set (i := 0) (I 0)).set (i := 1) (I 1)).set (i := 2) (I 0)).set (i := 3) (S [])
  exact ret_row Try.results29 rfl rfl BA2 Try.underlying42 rfl (by kernel_rfl) ⟨rfl, s1.upd (bs := [w.heap.size + 1]) (((((Upd.refl _ _).setCell (by simp) _).setCell (by simp) _).setCell (by simp) _).setCell (by simp) _) (by simp; omega) (by simp; omega) (by simp; omega), (((U1.setCell (.inr (Nat.le_succ _)) _).setCell (.inr (Nat.le_succ _)) _).setCell (.inr (Nat.le_succ _)) _).setCell (.inr (Nat.le_succ _)) _⟩
set_option maxRecDepth 100000 in
set_option maxHeartbeats 2000000 in
theorem do_5 (w : World) (x bw ub u : Nat) (ws : List Nat) (h : StoR w x bw ub u ws) (b off : Nat) (k d l f s : Int) (img : List UInt8) (hd : DeskR w b off k d l f s img) (A B C : Int) (S1 : List UInt8) (t : ByteArray) (E : Int) (n : Nat) (U : Nat) (W : List Nat)
    (hC : ∀ v, StoR v x bw ub u ws → Calls Try.prog 35 #[ptr x, I A] v fun e w' => e = .returned (.tuple #[UnV n, I E]) ∧ StoR w' x bw ub U W ∧ Upd [bw, ub] v w') :
    Calls Try.prog 29 #[ptr x, .pointer (some ⟨b, off, none⟩), OpV 5 A B C (str S1) t] w fun e w' => e = .returned (AnsV E 0 (shH (unK n) (unD n) (unL n) (unF n) (unS n))) ∧ StoR w' x bw ub U W ∧ Upd [bw, ub] w w' := by
  have b0 := ((Below.refl w.heap.size w).alloc (Nat.le_refl _) (.cells #[I 5, I A, I B, I C, S S1, .string t] 38)).alloc (by simp) (.cells #[I 0, I 0, I 0, S []] 42)
  have BA : Blk ((w.alloc (.cells #[I 5, I A, I B, I C, S S1, .string t] 38)).alloc (.cells #[I 0, I 0, I 0, S []] 42)) (w.heap.size + 1) #[I 0, I 0, I 0, S []] 42 := Blk.new (by simp)
  obtain ⟨-, -, lx, lb, lu⟩ := h.at0
  have h0 := h.later b0
  obtain ⟨d0, d1, d2, d3, d4, d5, ld⟩ := hd.cells
  go_enter Try.func29, Try.ntmps29
  go_wp2_with fail
  refine (hC _ h0).mono ?_
  rintro e w1 ⟨rfl, s1, u1⟩
  have BA1 := BA.upd u1 (by simp; omega)
  have U1 : Upd [bw, ub] w w1 := (Upd.of_below b0).trans u1
  have hz1 : w.heap.size + 1 < w1.heap.size := BA1.lt
  clear d0 d1 d2 d3 d4 d5 u1 BA h0 b0
  obtain ⟨e1, e2, e3, e4, e5⟩ := un_in64 n
  have aB := (Below.refl w1.heap.size w1).alloc (Nat.le_refl _) (.cells #[I (unK n), I (unD n), I (unL n), I (unF n), I (unS n)] 27)
  have BH : Blk (w1.alloc (.cells #[I (unK n), I (unD n), I (unL n), I (unF n), I (unS n)] 27)) w1.heap.size #[I (unK n), I (unD n), I (unL n), I (unF n), I (unS n)] 27 := Blk.new rfl
  have s2 := s1.later aB
  have BA2 := BA1.below aB BA1.lt
  have U2 := U1.trans (Upd.of_below aB)
  clear s1 BA1 U1 aB
  go_wp2_with fail
  generalize w1.alloc (.cells #[I (unK n), I (unD n), I (unL n), I (unF n), I (unS n)] 27) = v2 at *
  refine (showH_any _ _ _ _ _ e1 e2 e3 e4 e5 v2).mono ?_
  rintro e w3 ⟨rfl, b3⟩
  have BA3 := BA2.below b3 BA2.lt
  have s3 := s2.later b3
  have U3 := U2.trans (Upd.of_below b3)
  obtain ⟨q0, q1, q2⟩ := BA3.facts
  clear BA2 s2 U2 b3 BH
  go_wp2
  have BA4 := (((BA3.set (i := 0) (I E)).set (i := 1) (I 0)).set (i := 2) (I 0)).set (i := 3) (S (shH (unK n) (unD n) (unL n) (unF n) (unS n)))
  exact ret_row Try.results29 rfl rfl BA4 Try.underlying42 rfl (by kernel_rfl) ⟨rfl, s3.upd (bs := [w.heap.size + 1]) (((((Upd.refl _ _).setCell (by simp) _).setCell (by simp) _).setCell (by simp) _).setCell (by simp) _) (by simp; omega) (by simp; omega) (by simp; omega), (((U3.setCell (.inr (Nat.le_succ _)) _).setCell (.inr (Nat.le_succ _)) _).setCell (.inr (Nat.le_succ _)) _).setCell (.inr (Nat.le_succ _)) _⟩
set_option maxRecDepth 100000 in
set_option maxHeartbeats 2000000 in
theorem do_o (w : World) (x bw ub u : Nat) (ws : List Nat) (h : StoR w x bw ub u ws) (b off : Nat) (K A B C : Int) (S1 : List UInt8) (t : ByteArray) (k4 : K ≠ 4) (k5 : K ≠ 5) (k6 : K ≠ 6) (k7 : K ≠ 7) (k8 : K ≠ 8) (k9 : K ≠ 9) (k10 : K ≠ 10) (k11 : K ≠ 11) (k14 : K ≠ 14) (k15 : K ≠ 15) :
    Calls Try.prog 29 #[ptr x, .pointer (some ⟨b, off, none⟩), OpV K A B C (str S1) t] w fun e w' => e = .returned (AnsV 0 0 []) ∧ StoR w' x bw ub u ws ∧ Upd [bw, ub] w w' := by
  have e4 : (K == 4) = false := by simpa using k4
  have e5 : (K == 5) = false := by simpa using k5
  have e6 : (K == 6) = false := by simpa using k6
  have e7 : (K == 7) = false := by simpa using k7
  have e8 : (K == 8) = false := by simpa using k8
  have e9 : (K == 9) = false := by simpa using k9
  have e10 : (K == 10) = false := by simpa using k10
  have e11 : (K == 11) = false := by simpa using k11
  have e14 : (K == 14) = false := by simpa using k14
  have e15 : (K == 15) = false := by simpa using k15
  clear k4 k5 k6 k7 k8 k9 k10 k11 k14 k15
  have b0 := ((Below.refl w.heap.size w).alloc (Nat.le_refl _) (.cells #[I K, I A, I B, I C, S S1, .string t] 38)).alloc (by simp) (.cells #[I 0, I 0, I 0, S []] 42)
  have BA : Blk ((w.alloc (.cells #[I K, I A, I B, I C, S S1, .string t] 38)).alloc (.cells #[I 0, I 0, I 0, S []] 42)) (w.heap.size + 1) #[I 0, I 0, I 0, S []] 42 := Blk.new (by simp)
  have h0 := h.later b0
  go_enter Try.func29, Try.ntmps29
  go_wp2
  exact ret_row Try.results29 rfl rfl BA Try.underlying42 rfl (by kernel_rfl) ⟨rfl, h0, Upd.of_below b0⟩
end Go.Proofs.Qxb6500468a
