import Derived.Test.Qxb6500470aXtb
namespace Go.Proofs.Qxb6500470a
open Go.RowKit
attribute [local go_sem] run_store_fn run_store_nf
set_option maxRecDepth 100000 in
set_option maxHeartbeats 8000000 in
theorem extra_run2 (K : Nat → Prop) (w : World) (p : Nat) (st : List TV) (h : SRep K w p st) (r : Except Int (List TV)) (hW : ∀ (K' : Nat → Prop) W, SRepQ K' W p st → Calls Try.prog 77 #[ptr p] W (Out K' W p r)) :
    Calls Try.prog 60 #[ptr p, I 2] w fun e w' => e = .returned (I (extR st r).2) ∧ Turn K w p (extR st r).1 w' := by
  have hq : ∀ w, (binOp .eql 108 (.func (.func 77) #[] #[]) .nilFunc).run Try.prog w = .ok (.bool false) w := fun _ => by kernel_rfl
  obtain ⟨vs, hS, rs⟩ := h
  have hone : ∀ u ∈ vs.reverse, u.oneCell' = true := fun u hu => by obtain ⟨t, v, rfl⟩ := rs.one u (List.mem_reverse.1 hu); rfl
  have ks := hS.ks
  obtain ⟨L, hL⟩ : ∃ L, L = vs.reverse := ⟨_, rfl⟩
  rw [← hL] at hS hone
  have HL : Hid (L = vs.reverse) := hL
  clear hL
  have hS' := hS
  obtain ⟨a, cap, hA⟩ := hS
  obtain ⟨c0, c1, f0, f1, lp⟩ := hA.at0
  obtain ⟨i0, hi, hz0, hz1, hz2⟩ := info_parts vInfo
  have h5 := hA.le
  have hmk : ∀ W : World, (Instr.makeSlice 60 (.int .i64 (L.length : Int)) (.int .i64 (L.length : Int))).run Try.prog W = .ok (.slice (some ⟨W.heap.size, 0, none⟩) L.length L.length) (W.alloc (.cells (madeCells #[.nilIface] L.length) 64)) := fun W =>
    run_make_row' 60 64 .nilIface 16 Try.underlying60 vInfo rfl .i64 .i64 L.length (by omega) (by omega) W
  have hpos : 0 < L.length → ∃ ad, a = some ad ∧ ∀ j v, L[j]? = some v → w.cell? (ad.add j) = some v := by
    intro h0
    obtain ⟨g, rfl, hc, -, -, -⟩ := hA.form h0
    exact ⟨_, rfl, cells_of rfl hc⟩
  have HA : Hid (StA K w p a cap L) := hA
  obtain ⟨W2, hW2⟩ : ∃ W2, W2 = ((w.alloc (.cells #[I 0] 26)).alloc (.cells #[Fv 76, .nilFunc, Fv 77, Fv 78, Fv 79] 109)) := ⟨_, rfl⟩
  have bW2 : Below w.heap.size w W2 := by rw [hW2]; exact ((Below.refl _ _).alloc (Nat.le_refl _) _).alloc (by simp) _
  have sW2 : W2.heap.size = w.heap.size + 1 + 1 := by rw [hW2]; simp
  have bE2 : Blk W2 w.heap.size #[I 0] 26 := by rw [hW2]; exact (Blk.new rfl : Blk (w.alloc _) _ _ _).old _
  obtain ⟨W3, hW3⟩ : ∃ W3, W3 = W2.alloc (.cells (madeCells #[.nilIface] L.length) 64) := ⟨_, rfl⟩
  have bW3 : Below w.heap.size w W3 := by rw [hW3]; exact bW2.alloc (by omega) _
  have B3 : Blk W3 p _ _ := hA.head.below bW3 lp
  have bE3 : Blk W3 w.heap.size #[I 0] 26 := by rw [hW3]; exact bE2.old _
  have bG3 : Blk W3 (w.heap.size + 1 + 1) (madeCells #[.nilIface] L.length) 64 := by rw [hW3]; exact Blk.new sW2.symm
  obtain ⟨W4, hcopy, bG4, k4⟩ := keep_copy W3 (w.heap.size + 1 + 1) a cap L bG3 (by
    intro h0
    obtain ⟨g, rfl, hc, -, -, hgl⟩ := hA.form h0
    exact ⟨_, rfl, cells_of (bW3.block g hgl).symm hc⟩) hone
  have B4 : Blk W4 p _ _ := B3.kept k4 (by omega)
  have bE4 := bE3.kept k4 (by omega)
  have bW4 : Below w.heap.size w W4 := bW3.trans ⟨k4.os, k4.tape, k4.output, k4.size, fun k hk => k4.block k (by omega)⟩
  have b30 := B3.cell 0
  have b31 := B4.cell 1
  have g41 := B4.frozen 1
  rw [hW3, hW2] at hcopy b30
  clear hA
  go_enter_defers Try.func60, Try.ntmps60
  have kp : ¬ K p := HA.out.kp
  have S4 : StR (fun k => K k ∨ k = w.heap.size ∨ k = w.heap.size + 1 + 1) W4 p L := hS'.growK bW4 (by
    rintro k (e | rfl | rfl)
    · exact .inl e
    · exact .inr ⟨Nat.le_refl _, bE4.lt⟩
    · exact .inr ⟨by omega, bG4.lt⟩)
  have kw5 : Kept K w (W4.setCell ⟨p, 1, none⟩ (.bool true)) := (Kept.of_below bW4 ks).setCell kp _
  have S5 : SRepQ (fun k => K k ∨ k = w.heap.size ∨ k = w.heap.size + 1 + 1) (W4.setCell ⟨p, 1, none⟩ (.bool true)) p st := by
    obtain ⟨a4, cap4, hA4⟩ := S4
    exact ⟨vs, ⟨a4, cap4, HL.out ▸ hA4.busy⟩, (rs.kept kw5).mono (fun _ h => .inl h)⟩
  have bE5 := bE4.other (a := ⟨p, 1, none⟩) (by show w.heap.size ≠ p; omega) (.bool true)
  have bG5 := bG4.other (a := ⟨p, 1, none⟩) (by show w.heap.size + 1 + 1 ≠ p; omega) (.bool true)
  have hcall := hW _ _ S5
  go_wp2_with fail
  refine hcall.mono ?_
  intro e w6 hO
  clear hcopy b30 hW2 hW3
  cases r with
  | ok st' =>
    obtain ⟨rfl, K', m, n, ⟨vs', s6, r6⟩, k6⟩ := hO
    have bE6 := bE5.kept k6 (.inr (.inl rfl))
    have e60 := bE6.cell 0
    obtain ⟨x, hb⟩ := s6.blk
    have bE7 := bE6.other (a := ⟨p, 1, none⟩) (by show w.heap.size ≠ p; omega) (.bool false)
    have e70 := bE7.cell 0
    go_wp2
    refine leaves_cons (f := 80) (args := #[ptr p, .slice (some ⟨w.heap.size + 1 + 1, 0, none⟩) L.length L.length, ptr w.heap.size]) (by simp) (by simp [go_sem]) ?_
    refine (rescue_idle w6 p x _ ⟨w.heap.size, 0, none⟩ hb).mono ?_
    rintro e u' w7 ⟨rfl, rfl, rfl⟩
    refine ⟨_, by simp [results, Try.results60, go_sem, e70, extR], rfl, K', fun k hk => m k (.inl hk), fun k hk => ?_, ?_, ?_⟩
    · rcases n k hk with (e | rfl | rfl) | e
      · exact .inl e
      · exact .inr (Nat.le_refl _)
      · exact .inr (by omega)
      · have := bW4.size
        simp [World.setCell] at e
        exact .inr (by omega)
    · obtain ⟨a6, cap6, hA6⟩ := s6
      exact ⟨vs', ⟨a6, cap6, hA6.idle⟩, r6.kept ((Kept.refl K' w6).setCell (p := ⟨p, 1, none⟩) hA6.kp _)⟩
    · exact (kw5.trans (k6.weak (fun _ h => .inl h))).setCell kp _
  | error k =>
    obtain ⟨v, rfl, hv, k6, x, hb⟩ := hO
    have bE6 := bE5.kept k6 (.inr (.inl rfl))
    have bG6 := bG5.kept k6 (.inr (.inr rfl))
    have fin : ∀ y, ∃ w7, w7 = ((w6.setCell ⟨p, 1, none⟩ (.bool false)).setCell ⟨p, 0, none⟩ (.slice (some ⟨w.heap.size + 1 + 1, 0, none⟩) L.length L.length)).setCell ⟨w.heap.size, 0, none⟩ (I y) ∧ Turn K w p st w7 ∧ w7.cell? ⟨w.heap.size, 0, none⟩ = some (I y) := by
      intro y
      refine ⟨_, rfl, ⟨K, fun _ h => h, fun _ h => .inl h, ?_, ?_⟩, ?_⟩
      · have head : Blk ((w6.setCell ⟨p, 1, none⟩ (.bool false)).setCell ⟨p, 0, none⟩ (.slice (some ⟨w.heap.size + 1 + 1, 0, none⟩) L.length L.length)) p #[.slice (some ⟨w.heap.size + 1 + 1, 0, none⟩) L.length L.length, .bool false] 62 := by simpa using (hb.set (i := 1) (.bool false)).set (i := 0) (.slice (some ⟨w.heap.size + 1 + 1, 0, none⟩) L.length L.length)
        have k7 : Kept K w (((w6.setCell ⟨p, 1, none⟩ (.bool false)).setCell ⟨p, 0, none⟩ (.slice (some ⟨w.heap.size + 1 + 1, 0, none⟩) L.length L.length)).setCell ⟨w.heap.size, 0, none⟩ (I y)) := ((((kw5.trans (k6.weak (fun _ h => .inl h))).setCell kp _).setCell kp _).setCell (fun hk => by have := ks _ hk; simp at this) _)
        refine ⟨vs, ⟨some ⟨w.heap.size + 1 + 1, 0, none⟩, L.length, HL.out ▸ keep_back (head.other (a := ⟨w.heap.size, 0, none⟩) (by show p ≠ w.heap.size; omega) _) (((bG6.other (a := ⟨p, 1, none⟩) (by show w.heap.size + 1 + 1 ≠ p; omega) _).other (a := ⟨p, 0, none⟩) (by show w.heap.size + 1 + 1 ≠ p; omega) _).other (a := ⟨w.heap.size, 0, none⟩) (by show w.heap.size + 1 + 1 ≠ w.heap.size; omega) _) (by omega) kp (fun hk => by have := ks _ hk; omega) (fun k hk => Nat.lt_of_lt_of_le (ks k hk) k7.size) h5⟩, rs.kept k7⟩
      · exact ((((kw5.trans (k6.weak (fun _ h => .inl h))).setCell kp _).setCell kp _).setCell (fun hk => by have := ks _ hk; simp at this) _)
      · have := ((bE6.other (a := ⟨p, 1, none⟩) (by show w.heap.size ≠ p; omega) (.bool false)).other (a := ⟨p, 0, none⟩) (by show w.heap.size ≠ p; omega) (.slice (some ⟨w.heap.size + 1 + 1, 0, none⟩) L.length L.length)).set (i := 0) (I y)
        simpa using this.cell 0
    rcases hv with rfl | ⟨rfl, t, u, rfl, ht⟩
    · obtain ⟨w7, hw7, tn, cc⟩ := fin k
      go_wp2
      refine leaves_cons (f := 80) (args := #[ptr p, .slice (some ⟨w.heap.size + 1 + 1, 0, none⟩) L.length L.length, ptr w.heap.size]) (by simp) (by simp [go_sem]) ?_
      refine (rescue_own w6 p w.heap.size x _ _ _ _ k hb bE6 (by omega) []).mono ?_
      rintro e u' w8 ⟨rfl, rfl, rfl⟩
      rw [← hw7]
      exact ⟨_, by simp [results, Try.results60, go_sem, cc, extR], rfl, tn⟩
    · obtain ⟨w7, hw7, tn, cc⟩ := fin 5
      go_wp2
      refine leaves_cons (f := 80) (args := #[ptr p, .slice (some ⟨w.heap.size + 1 + 1, 0, none⟩) L.length L.length, ptr w.heap.size]) (by simp) (by simp [go_sem]) ?_
      refine (rescue_run w6 p w.heap.size x _ _ _ _ t u ht hb bE6 (by omega) []).mono ?_
      rintro e u' w8 ⟨rfl, rfl, rfl⟩
      rw [← hw7]
      exact ⟨_, by simp [results, Try.results60, go_sem, cc, extR], rfl, tn⟩
set_option maxRecDepth 100000 in
set_option maxHeartbeats 8000000 in
theorem extra_run3 (K : Nat → Prop) (w : World) (p : Nat) (st : List TV) (h : SRep K w p st) (r : Except Int (List TV)) (hW : ∀ (K' : Nat → Prop) W, SRepQ K' W p st → Calls Try.prog 78 #[ptr p] W (Out K' W p r)) :
    Calls Try.prog 60 #[ptr p, I 3] w fun e w' => e = .returned (I (extR st r).2) ∧ Turn K w p (extR st r).1 w' := by
  have hq : ∀ w, (binOp .eql 108 (.func (.func 78) #[] #[]) .nilFunc).run Try.prog w = .ok (.bool false) w := fun _ => by kernel_rfl
  obtain ⟨vs, hS, rs⟩ := h
  have hone : ∀ u ∈ vs.reverse, u.oneCell' = true := fun u hu => by obtain ⟨t, v, rfl⟩ := rs.one u (List.mem_reverse.1 hu); rfl
  have ks := hS.ks
  obtain ⟨L, hL⟩ : ∃ L, L = vs.reverse := ⟨_, rfl⟩
  rw [← hL] at hS hone
  have HL : Hid (L = vs.reverse) := hL
  clear hL
  have hS' := hS
  obtain ⟨a, cap, hA⟩ := hS
  obtain ⟨c0, c1, f0, f1, lp⟩ := hA.at0
  obtain ⟨i0, hi, hz0, hz1, hz2⟩ := info_parts vInfo
  have h5 := hA.le
  have hmk : ∀ W : World, (Instr.makeSlice 60 (.int .i64 (L.length : Int)) (.int .i64 (L.length : Int))).run Try.prog W = .ok (.slice (some ⟨W.heap.size, 0, none⟩) L.length L.length) (W.alloc (.cells (madeCells #[.nilIface] L.length) 64)) := fun W =>
    run_make_row' 60 64 .nilIface 16 Try.underlying60 vInfo rfl .i64 .i64 L.length (by omega) (by omega) W
  have hpos : 0 < L.length → ∃ ad, a = some ad ∧ ∀ j v, L[j]? = some v → w.cell? (ad.add j) = some v := by
    intro h0
    obtain ⟨g, rfl, hc, -, -, -⟩ := hA.form h0
    exact ⟨_, rfl, cells_of rfl hc⟩
  have HA : Hid (StA K w p a cap L) := hA
  obtain ⟨W2, hW2⟩ : ∃ W2, W2 = ((w.alloc (.cells #[I 0] 26)).alloc (.cells #[Fv 76, .nilFunc, Fv 77, Fv 78, Fv 79] 109)) := ⟨_, rfl⟩
  have bW2 : Below w.heap.size w W2 := by rw [hW2]; exact ((Below.refl _ _).alloc (Nat.le_refl _) _).alloc (by simp) _
  have sW2 : W2.heap.size = w.heap.size + 1 + 1 := by rw [hW2]; simp
  have bE2 : Blk W2 w.heap.size #[I 0] 26 := by rw [hW2]; exact (Blk.new rfl : Blk (w.alloc _) _ _ _).old _
  obtain ⟨W3, hW3⟩ : ∃ W3, W3 = W2.alloc (.cells (madeCells #[.nilIface] L.length) 64) := ⟨_, rfl⟩
  have bW3 : Below w.heap.size w W3 := by rw [hW3]; exact bW2.alloc (by omega) _
  have B3 : Blk W3 p _ _ := hA.head.below bW3 lp
  have bE3 : Blk W3 w.heap.size #[I 0] 26 := by rw [hW3]; exact bE2.old _
  have bG3 : Blk W3 (w.heap.size + 1 + 1) (madeCells #[.nilIface] L.length) 64 := by rw [hW3]; exact Blk.new sW2.symm
  obtain ⟨W4, hcopy, bG4, k4⟩ := keep_copy W3 (w.heap.size + 1 + 1) a cap L bG3 (by
    intro h0
    obtain ⟨g, rfl, hc, -, -, hgl⟩ := hA.form h0
    exact ⟨_, rfl, cells_of (bW3.block g hgl).symm hc⟩) hone
  have B4 : Blk W4 p _ _ := B3.kept k4 (by omega)
  have bE4 := bE3.kept k4 (by omega)
  have bW4 : Below w.heap.size w W4 := bW3.trans ⟨k4.os, k4.tape, k4.output, k4.size, fun k hk => k4.block k (by omega)⟩
  have b30 := B3.cell 0
  have b31 := B4.cell 1
  have g41 := B4.frozen 1
  rw [hW3, hW2] at hcopy b30
  clear hA
  go_enter_defers Try.func60, Try.ntmps60
  have kp : ¬ K p := HA.out.kp
  have S4 : StR (fun k => K k ∨ k = w.heap.size ∨ k = w.heap.size + 1 + 1) W4 p L := hS'.growK bW4 (by
    rintro k (e | rfl | rfl)
    · exact .inl e
    · exact .inr ⟨Nat.le_refl _, bE4.lt⟩
    · exact .inr ⟨by omega, bG4.lt⟩)
  have kw5 : Kept K w (W4.setCell ⟨p, 1, none⟩ (.bool true)) := (Kept.of_below bW4 ks).setCell kp _
  have S5 : SRepQ (fun k => K k ∨ k = w.heap.size ∨ k = w.heap.size + 1 + 1) (W4.setCell ⟨p, 1, none⟩ (.bool true)) p st := by
    obtain ⟨a4, cap4, hA4⟩ := S4
    exact ⟨vs, ⟨a4, cap4, HL.out ▸ hA4.busy⟩, (rs.kept kw5).mono (fun _ h => .inl h)⟩
  have bE5 := bE4.other (a := ⟨p, 1, none⟩) (by show w.heap.size ≠ p; omega) (.bool true)
  have bG5 := bG4.other (a := ⟨p, 1, none⟩) (by show w.heap.size + 1 + 1 ≠ p; omega) (.bool true)
  have hcall := hW _ _ S5
  go_wp2_with fail
  refine hcall.mono ?_
  intro e w6 hO
  clear hcopy b30 hW2 hW3
  cases r with
  | ok st' =>
    obtain ⟨rfl, K', m, n, ⟨vs', s6, r6⟩, k6⟩ := hO
    have bE6 := bE5.kept k6 (.inr (.inl rfl))
    have e60 := bE6.cell 0
    obtain ⟨x, hb⟩ := s6.blk
    have bE7 := bE6.other (a := ⟨p, 1, none⟩) (by show w.heap.size ≠ p; omega) (.bool false)
    have e70 := bE7.cell 0
    go_wp2
    refine leaves_cons (f := 80) (args := #[ptr p, .slice (some ⟨w.heap.size + 1 + 1, 0, none⟩) L.length L.length, ptr w.heap.size]) (by simp) (by simp [go_sem]) ?_
    refine (rescue_idle w6 p x _ ⟨w.heap.size, 0, none⟩ hb).mono ?_
    rintro e u' w7 ⟨rfl, rfl, rfl⟩
    refine ⟨_, by simp [results, Try.results60, go_sem, e70, extR], rfl, K', fun k hk => m k (.inl hk), fun k hk => ?_, ?_, ?_⟩
    · rcases n k hk with (e | rfl | rfl) | e
      · exact .inl e
      · exact .inr (Nat.le_refl _)
      · exact .inr (by omega)
      · have := bW4.size
        simp [World.setCell] at e
        exact .inr (by omega)
    · obtain ⟨a6, cap6, hA6⟩ := s6
      exact ⟨vs', ⟨a6, cap6, hA6.idle⟩, r6.kept ((Kept.refl K' w6).setCell (p := ⟨p, 1, none⟩) hA6.kp _)⟩
    · exact (kw5.trans (k6.weak (fun _ h => .inl h))).setCell kp _
  | error k =>
    obtain ⟨v, rfl, hv, k6, x, hb⟩ := hO
    have bE6 := bE5.kept k6 (.inr (.inl rfl))
    have bG6 := bG5.kept k6 (.inr (.inr rfl))
    have fin : ∀ y, ∃ w7, w7 = ((w6.setCell ⟨p, 1, none⟩ (.bool false)).setCell ⟨p, 0, none⟩ (.slice (some ⟨w.heap.size + 1 + 1, 0, none⟩) L.length L.length)).setCell ⟨w.heap.size, 0, none⟩ (I y) ∧ Turn K w p st w7 ∧ w7.cell? ⟨w.heap.size, 0, none⟩ = some (I y) := by
      intro y
      refine ⟨_, rfl, ⟨K, fun _ h => h, fun _ h => .inl h, ?_, ?_⟩, ?_⟩
      · have head : Blk ((w6.setCell ⟨p, 1, none⟩ (.bool false)).setCell ⟨p, 0, none⟩ (.slice (some ⟨w.heap.size + 1 + 1, 0, none⟩) L.length L.length)) p #[.slice (some ⟨w.heap.size + 1 + 1, 0, none⟩) L.length L.length, .bool false] 62 := by simpa using (hb.set (i := 1) (.bool false)).set (i := 0) (.slice (some ⟨w.heap.size + 1 + 1, 0, none⟩) L.length L.length)
        have k7 : Kept K w (((w6.setCell ⟨p, 1, none⟩ (.bool false)).setCell ⟨p, 0, none⟩ (.slice (some ⟨w.heap.size + 1 + 1, 0, none⟩) L.length L.length)).setCell ⟨w.heap.size, 0, none⟩ (I y)) := ((((kw5.trans (k6.weak (fun _ h => .inl h))).setCell kp _).setCell kp _).setCell (fun hk => by have := ks _ hk; simp at this) _)
        refine ⟨vs, ⟨some ⟨w.heap.size + 1 + 1, 0, none⟩, L.length, HL.out ▸ keep_back (head.other (a := ⟨w.heap.size, 0, none⟩) (by show p ≠ w.heap.size; omega) _) (((bG6.other (a := ⟨p, 1, none⟩) (by show w.heap.size + 1 + 1 ≠ p; omega) _).other (a := ⟨p, 0, none⟩) (by show w.heap.size + 1 + 1 ≠ p; omega) _).other (a := ⟨w.heap.size, 0, none⟩) (by show w.heap.size + 1 + 1 ≠ w.heap.size; omega) _) (by omega) kp (fun hk => by have := ks _ hk; omega) (fun k hk => Nat.lt_of_lt_of_le (ks k hk) k7.size) h5⟩, rs.kept k7⟩
      · exact ((((kw5.trans (k6.weak (fun _ h => .inl h))).setCell kp _).setCell kp _).setCell (fun hk => by have := ks _ hk; simp at this) _)
      · have := ((bE6.other (a := ⟨p, 1, none⟩) (by show w.heap.size ≠ p; omega) (.bool false)).other (a := ⟨p, 0, none⟩) (by show w.heap.size ≠ p; omega) (.slice (some ⟨w.heap.size + 1 + 1, 0, none⟩) L.length L.length)).set (i := 0) (I y)
        simpa using this.cell 0
    rcases hv with rfl | ⟨rfl, t, u, rfl, ht⟩
    · obtain ⟨w7, hw7, tn, cc⟩ := fin k
      go_wp2
      refine leaves_cons (f := 80) (args := #[ptr p, .slice (some ⟨w.heap.size + 1 + 1, 0, none⟩) L.length L.length, ptr w.heap.size]) (by simp) (by simp [go_sem]) ?_
      refine (rescue_own w6 p w.heap.size x _ _ _ _ k hb bE6 (by omega) []).mono ?_
      rintro e u' w8 ⟨rfl, rfl, rfl⟩
      rw [← hw7]
      exact ⟨_, by simp [results, Try.results60, go_sem, cc, extR], rfl, tn⟩
    · obtain ⟨w7, hw7, tn, cc⟩ := fin 5
      go_wp2
      refine leaves_cons (f := 80) (args := #[ptr p, .slice (some ⟨w.heap.size + 1 + 1, 0, none⟩) L.length L.length, ptr w.heap.size]) (by simp) (by simp [go_sem]) ?_
      refine (rescue_run w6 p w.heap.size x _ _ _ _ t u ht hb bE6 (by omega) []).mono ?_
      rintro e u' w8 ⟨rfl, rfl, rfl⟩
      rw [← hw7]
      exact ⟨_, by simp [results, Try.results60, go_sem, cc, extR], rfl, tn⟩
set_option maxRecDepth 100000 in
set_option maxHeartbeats 8000000 in
theorem extra_run4 (K : Nat → Prop) (w : World) (p : Nat) (st : List TV) (h : SRep K w p st) (r : Except Int (List TV)) (hW : ∀ (K' : Nat → Prop) W, SRepQ K' W p st → Calls Try.prog 79 #[ptr p] W (Out K' W p r)) :
    Calls Try.prog 60 #[ptr p, I 4] w fun e w' => e = .returned (I (extR st r).2) ∧ Turn K w p (extR st r).1 w' := by
  have hq : ∀ w, (binOp .eql 108 (.func (.func 79) #[] #[]) .nilFunc).run Try.prog w = .ok (.bool false) w := fun _ => by kernel_rfl
  obtain ⟨vs, hS, rs⟩ := h
  have hone : ∀ u ∈ vs.reverse, u.oneCell' = true := fun u hu => by obtain ⟨t, v, rfl⟩ := rs.one u (List.mem_reverse.1 hu); rfl
  have ks := hS.ks
  obtain ⟨L, hL⟩ : ∃ L, L = vs.reverse := ⟨_, rfl⟩
  rw [← hL] at hS hone
  have HL : Hid (L = vs.reverse) := hL
  clear hL
  have hS' := hS
  obtain ⟨a, cap, hA⟩ := hS
  obtain ⟨c0, c1, f0, f1, lp⟩ := hA.at0
  obtain ⟨i0, hi, hz0, hz1, hz2⟩ := info_parts vInfo
  have h5 := hA.le
  have hmk : ∀ W : World, (Instr.makeSlice 60 (.int .i64 (L.length : Int)) (.int .i64 (L.length : Int))).run Try.prog W = .ok (.slice (some ⟨W.heap.size, 0, none⟩) L.length L.length) (W.alloc (.cells (madeCells #[.nilIface] L.length) 64)) := fun W =>
    run_make_row' 60 64 .nilIface 16 Try.underlying60 vInfo rfl .i64 .i64 L.length (by omega) (by omega) W
  have hpos : 0 < L.length → ∃ ad, a = some ad ∧ ∀ j v, L[j]? = some v → w.cell? (ad.add j) = some v := by
    intro h0
    obtain ⟨g, rfl, hc, -, -, -⟩ := hA.form h0
    exact ⟨_, rfl, cells_of rfl hc⟩
  have HA : Hid (StA K w p a cap L) := hA
  obtain ⟨W2, hW2⟩ : ∃ W2, W2 = ((w.alloc (.cells #[I 0] 26)).alloc (.cells #[Fv 76, .nilFunc, Fv 77, Fv 78, Fv 79] 109)) := ⟨_, rfl⟩
  have bW2 : Below w.heap.size w W2 := by rw [hW2]; exact ((Below.refl _ _).alloc (Nat.le_refl _) _).alloc (by simp) _
  have sW2 : W2.heap.size = w.heap.size + 1 + 1 := by rw [hW2]; simp
  have bE2 : Blk W2 w.heap.size #[I 0] 26 := by rw [hW2]; exact (Blk.new rfl : Blk (w.alloc _) _ _ _).old _
  obtain ⟨W3, hW3⟩ : ∃ W3, W3 = W2.alloc (.cells (madeCells #[.nilIface] L.length) 64) := ⟨_, rfl⟩
  have bW3 : Below w.heap.size w W3 := by rw [hW3]; exact bW2.alloc (by omega) _
  have B3 : Blk W3 p _ _ := hA.head.below bW3 lp
  have bE3 : Blk W3 w.heap.size #[I 0] 26 := by rw [hW3]; exact bE2.old _
  have bG3 : Blk W3 (w.heap.size + 1 + 1) (madeCells #[.nilIface] L.length) 64 := by rw [hW3]; exact Blk.new sW2.symm
  obtain ⟨W4, hcopy, bG4, k4⟩ := keep_copy W3 (w.heap.size + 1 + 1) a cap L bG3 (by
    intro h0
    obtain ⟨g, rfl, hc, -, -, hgl⟩ := hA.form h0
    exact ⟨_, rfl, cells_of (bW3.block g hgl).symm hc⟩) hone
  have B4 : Blk W4 p _ _ := B3.kept k4 (by omega)
  have bE4 := bE3.kept k4 (by omega)
  have bW4 : Below w.heap.size w W4 := bW3.trans ⟨k4.os, k4.tape, k4.output, k4.size, fun k hk => k4.block k (by omega)⟩
  have b30 := B3.cell 0
  have b31 := B4.cell 1
  have g41 := B4.frozen 1
  rw [hW3, hW2] at hcopy b30
  clear hA
  go_enter_defers Try.func60, Try.ntmps60
  have kp : ¬ K p := HA.out.kp
  have S4 : StR (fun k => K k ∨ k = w.heap.size ∨ k = w.heap.size + 1 + 1) W4 p L := hS'.growK bW4 (by
    rintro k (e | rfl | rfl)
    · exact .inl e
    · exact .inr ⟨Nat.le_refl _, bE4.lt⟩
    · exact .inr ⟨by omega, bG4.lt⟩)
  have kw5 : Kept K w (W4.setCell ⟨p, 1, none⟩ (.bool true)) := (Kept.of_below bW4 ks).setCell kp _
  have S5 : SRepQ (fun k => K k ∨ k = w.heap.size ∨ k = w.heap.size + 1 + 1) (W4.setCell ⟨p, 1, none⟩ (.bool true)) p st := by
    obtain ⟨a4, cap4, hA4⟩ := S4
    exact ⟨vs, ⟨a4, cap4, HL.out ▸ hA4.busy⟩, (rs.kept kw5).mono (fun _ h => .inl h)⟩
  have bE5 := bE4.other (a := ⟨p, 1, none⟩) (by show w.heap.size ≠ p; omega) (.bool true)
  have bG5 := bG4.other (a := ⟨p, 1, none⟩) (by show w.heap.size + 1 + 1 ≠ p; omega) (.bool true)
  have hcall := hW _ _ S5
  go_wp2_with fail
  refine hcall.mono ?_
  intro e w6 hO
  clear hcopy b30 hW2 hW3
  cases r with
  | ok st' =>
    obtain ⟨rfl, K', m, n, ⟨vs', s6, r6⟩, k6⟩ := hO
    have bE6 := bE5.kept k6 (.inr (.inl rfl))
    have e60 := bE6.cell 0
    obtain ⟨x, hb⟩ := s6.blk
    have bE7 := bE6.other (a := ⟨p, 1, none⟩) (by show w.heap.size ≠ p; omega) (.bool false)
    have e70 := bE7.cell 0
    go_wp2
    refine leaves_cons (f := 80) (args := #[ptr p, .slice (some ⟨w.heap.size + 1 + 1, 0, none⟩) L.length L.length, ptr w.heap.size]) (by simp) (by simp [go_sem]) ?_
    refine (rescue_idle w6 p x _ ⟨w.heap.size, 0, none⟩ hb).mono ?_
    rintro e u' w7 ⟨rfl, rfl, rfl⟩
    refine ⟨_, by simp [results, Try.results60, go_sem, e70, extR], rfl, K', fun k hk => m k (.inl hk), fun k hk => ?_, ?_, ?_⟩
    · rcases n k hk with (e | rfl | rfl) | e
      · exact .inl e
      · exact .inr (Nat.le_refl _)
      · exact .inr (by omega)
      · have := bW4.size
        simp [World.setCell] at e
        exact .inr (by omega)
    · obtain ⟨a6, cap6, hA6⟩ := s6
      exact ⟨vs', ⟨a6, cap6, hA6.idle⟩, r6.kept ((Kept.refl K' w6).setCell (p := ⟨p, 1, none⟩) hA6.kp _)⟩
    · exact (kw5.trans (k6.weak (fun _ h => .inl h))).setCell kp _
  | error k =>
    obtain ⟨v, rfl, hv, k6, x, hb⟩ := hO
    have bE6 := bE5.kept k6 (.inr (.inl rfl))
    have bG6 := bG5.kept k6 (.inr (.inr rfl))
    have fin : ∀ y, ∃ w7, w7 = ((w6.setCell ⟨p, 1, none⟩ (.bool false)).setCell ⟨p, 0, none⟩ (.slice (some ⟨w.heap.size + 1 + 1, 0, none⟩) L.length L.length)).setCell ⟨w.heap.size, 0, none⟩ (I y) ∧ Turn K w p st w7 ∧ w7.cell? ⟨w.heap.size, 0, none⟩ = some (I y) := by
      intro y
      refine ⟨_, rfl, ⟨K, fun _ h => h, fun _ h => .inl h, ?_, ?_⟩, ?_⟩
      · have head : Blk ((w6.setCell ⟨p, 1, none⟩ (.bool false)).setCell ⟨p, 0, none⟩ (.slice (some ⟨w.heap.size + 1 + 1, 0, none⟩) L.length L.length)) p #[.slice (some ⟨w.heap.size + 1 + 1, 0, none⟩) L.length L.length, .bool false] 62 := by simpa using (hb.set (i := 1) (.bool false)).set (i := 0) (.slice (some ⟨w.heap.size + 1 + 1, 0, none⟩) L.length L.length)
        have k7 : Kept K w (((w6.setCell ⟨p, 1, none⟩ (.bool false)).setCell ⟨p, 0, none⟩ (.slice (some ⟨w.heap.size + 1 + 1, 0, none⟩) L.length L.length)).setCell ⟨w.heap.size, 0, none⟩ (I y)) := ((((kw5.trans (k6.weak (fun _ h => .inl h))).setCell kp _).setCell kp _).setCell (fun hk => by have := ks _ hk; simp at this) _)
        refine ⟨vs, ⟨some ⟨w.heap.size + 1 + 1, 0, none⟩, L.length, HL.out ▸ keep_back (head.other (a := ⟨w.heap.size, 0, none⟩) (by show p ≠ w.heap.size; omega) _) (((bG6.other (a := ⟨p, 1, none⟩) (by show w.heap.size + 1 + 1 ≠ p; omega) _).other (a := ⟨p, 0, none⟩) (by show w.heap.size + 1 + 1 ≠ p; omega) _).other (a := ⟨w.heap.size, 0, none⟩) (by show w.heap.size + 1 + 1 ≠ w.heap.size; omega) _) (by omega) kp (fun hk => by have := ks _ hk; omega) (fun k hk => Nat.lt_of_lt_of_le (ks k hk) k7.size) h5⟩, rs.kept k7⟩
      · exact ((((kw5.trans (k6.weak (fun _ h => .inl h))).setCell kp _).setCell kp _).setCell (fun hk => by have := ks _ hk; simp at this) _)
      · have := ((bE6.other (a := ⟨p, 1, none⟩) (by show w.heap.size ≠ p; omega) (.bool false)).other (a := ⟨p, 0, none⟩) (by show w.heap.size ≠ p; omega) (.slice (some ⟨w.heap.size + 1 + 1, 0, none⟩) L.length L.length)).set (i := 0) (I y)
        simpa using this.cell 0
    rcases hv with rfl | ⟨rfl, t, u, rfl, ht⟩
    · obtain ⟨w7, hw7, tn, cc⟩ := fin k
      go_wp2
      refine leaves_cons (f := 80) (args := #[ptr p, .slice (some ⟨w.heap.size + 1 + 1, 0, none⟩) L.length L.length, ptr w.heap.size]) (by simp) (by simp [go_sem]) ?_
      refine (rescue_own w6 p w.heap.size x _ _ _ _ k hb bE6 (by omega) []).mono ?_
      rintro e u' w8 ⟨rfl, rfl, rfl⟩
      rw [← hw7]
      exact ⟨_, by simp [results, Try.results60, go_sem, cc, extR], rfl, tn⟩
    · obtain ⟨w7, hw7, tn, cc⟩ := fin 5
      go_wp2
      refine leaves_cons (f := 80) (args := #[ptr p, .slice (some ⟨w.heap.size + 1 + 1, 0, none⟩) L.length L.length, ptr w.heap.size]) (by simp) (by simp [go_sem]) ?_
      refine (rescue_run w6 p w.heap.size x _ _ _ _ t u ht hb bE6 (by omega) []).mono ?_
      rintro e u' w8 ⟨rfl, rfl, rfl⟩
      rw [← hw7]
      exact ⟨_, by simp [results, Try.results60, go_sem, cc, extR], rfl, tn⟩
/-- The stack and the answer behind Extra(k). -/
def extraT (k : Int) (st : List TV) : List TV × Int :=
  if k = 0 then extR st (doubleT st) else if k = 2 then extR st (spreadT st) else if k = 3 then extR st (echoT st) else if k = 4 then extR st (quotT st) else (st, 9)
theorem extra_any (K : Nat → Prop) (w : World) (p : Nat) (st : List TV) (h : SRep K w p st) (hl : ∀ x ∈ st, (text x).length ≤ 30) (k : Int) :
    Calls Try.prog 60 #[ptr p, I k] w fun e w' => e = .returned (I (extraT k st).2) ∧ Turn K w p (extraT k st).1 w' := by
  unfold extraT
  by_cases h0 : k = 0
  · subst h0
    exact extra_run0 K w p st h _ (fun K' W hs => double_any K' W p st hs hl)
  rw [if_neg h0]
  by_cases h2 : k = 2
  · subst h2
    exact extra_run2 K w p st h _ (fun K' W hs => spread_any K' W p st hs hl)
  rw [if_neg h2]
  by_cases h3 : k = 3
  · subst h3
    exact extra_run3 K w p st h _ (fun K' W hs => echo_any K' W p st hs)
  rw [if_neg h3]
  by_cases h4 : k = 4
  · subst h4
    exact extra_run4 K w p st h _ (fun K' W hs => quot_any K' W p st hs)
  rw [if_neg h4]
  refine (extra_out w p k (by omega)).mono ?_
  rintro e w' ⟨rfl, b⟩
  exact ⟨rfl, .of_below h b⟩
end Go.Proofs.Qxb6500470a
