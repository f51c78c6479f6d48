import Derived.Test.Qxb6500470aXta
import Derived.Deep.OwnRows
import Derived.Laws.CopyOwn
namespace Go.Proofs.Qxb6500470a
open Go.RowKit
theorem StA.busy {K : Nat → Prop} {w : World} {p : Nat} {a : Option Addr} {cap : Nat} {vs : List Value} (h : StA K w p a cap vs) : StU K (w.setCell ⟨p, 1, none⟩ (.bool true)) p a cap vs := by
  refine ⟨by simpa using h.head.set (i := 1) (.bool true), ⟨h.own.1, ?_⟩, h.far, h.kp, h.ka, fun k hk => by simpa [World.setCell] using h.ks k hk, h.le⟩
  rcases h.own.2 with h0 | ⟨g, c, cur, hv, h1, hg, h2⟩
  · exact .inl h0
  · refine .inr ⟨g, c, cur, hv, h1, ?_, h2⟩
    have e : a = some ⟨g, 0, none⟩ := by simp only [Value.slice.injEq] at hv; exact hv.1
    exact Blk.other (w := w) (t := 64) hg (a := ⟨p, 1, none⟩) (fun e2 => h.far (by rw [e]; show some g = some p; rw [e2])) _
theorem StU.idle {K : Nat → Prop} {w : World} {p : Nat} {a : Option Addr} {cap : Nat} {vs : List Value} (h : StU K w p a cap vs) : StA K (w.setCell ⟨p, 1, none⟩ (.bool false)) p a cap vs := by
  refine ⟨by simpa using h.head.set (i := 1) (.bool false), ⟨h.own.1, ?_⟩, h.far, h.kp, h.ka, fun k hk => by simpa [World.setCell] using h.ks k hk, h.le⟩
  rcases h.own.2 with h0 | ⟨g, c, cur, hv, h1, hg, h2⟩
  · exact .inl h0
  · refine .inr ⟨g, c, cur, hv, h1, ?_, h2⟩
    have e : a = some ⟨g, 0, none⟩ := by simp only [Value.slice.injEq] at hv; exact hv.1
    exact Blk.other (w := w) (t := 64) hg (a := ⟨p, 1, none⟩) (fun e2 => h.far (by rw [e]; show some g = some p; rw [e2])) _
theorem run_store_nf {P : Program} {w : World} {a : Addr} {m : Mode} : (store a .nilFunc m).run P w = stored P w a .nilFunc m := run_store P w a _ m rfl
attribute [local go_sem] run_store_fn run_store_nf
set_option maxRecDepth 100000 in
set_option maxHeartbeats 4000000 in
theorem extra_out (w : World) (p : Nat) (k : Int) (hk : k < 0 ∨ k = 1 ∨ 5 ≤ k) : Calls Try.prog 60 #[ptr p, I k] w fun e w' => e = .returned (I 9) ∧ Below w.heap.size w w' := by
  have hq : ∀ w, (binOp .eql 108 .nilFunc .nilFunc).run Try.prog w = .ok (.bool true) w := fun _ => by kernel_rfl
  have bb : ∀ o1 o2, Below w.heap.size w ((w.alloc o1).alloc o2) := fun o1 o2 => ((Below.refl _ _).alloc (Nat.le_refl _) _).alloc (by simp) _
  rcases hk with hk | rfl | hk
  · have h1 : ¬ (0 ≤ k) := by omega
    go_enter_defers Try.func60, Try.ntmps60
    go_wp2
    exact ⟨_, by simp [results, Try.results60, go_sem], rfl, bb _ _⟩
  · go_enter_defers Try.func60, Try.ntmps60
    go_wp2
    exact ⟨_, by simp [results, Try.results60, go_sem], rfl, bb _ _⟩
  · have h1 : (0 ≤ k) := by omega
    have h2 : ¬ k < 5 := by omega
    go_enter_defers Try.func60, Try.ntmps60
    go_wp2
    exact ⟨_, by simp [results, Try.results60, go_sem], rfl, bb _ _⟩
theorem keep_copy (W : World) (g : Nat) (a : Option Addr) (cap : Nat) (L : List Value) (hg : Blk W g (madeCells #[.nilIface] L.length) 64) (hpos : 0 < L.length → ∃ ad, a = some ad ∧ ∀ j v, L[j]? = some v → W.cell? (ad.add j) = some v) (hone : ∀ u ∈ L, u.oneCell' = true) :
    ∃ W4, (Builtin.copy_ #[60, 60] 3 #[.slice (some ⟨g, 0, none⟩) L.length L.length, .slice a L.length cap]).run Try.prog W = .ok (I L.length) W4 ∧ Blk W4 g L.toArray 64 ∧ Kept (fun k => k ≠ g) W W4 := by
  have hsz : (Try.prog.info? 64).map (·.size) = some 1 := by kernel_rfl
  have hms := size_madeCells #[.nilIface] L.length
  by_cases h0 : L.length = 0
  · obtain rfl : L = [] := List.eq_nil_of_length_eq_zero h0
    refine ⟨W, run_copy_none W 60 60 3 64 _ _ _ _ _ _ Try.underlying60 hsz rfl, ?_, Kept.refl _ _⟩
    have e : madeCells #[.nilIface] ([] : List Value).length = #[] := by simp [madeCells]
    rw [e] at hg
    exact hg
  · obtain ⟨ad, rfl, hc⟩ := hpos (by omega)
    have hr := run_copy_row (P := Try.prog) W 60 60 3 64 g 0 L.length L.length ad L.length cap (madeCells #[.nilIface] L.length) 64 L Try.underlying60 hsz hg (by simp) hc (by rw [hms]; omega) hone
    refine ⟨_, hr, ?_, ⟨rfl, rfl, rfl, by simp [World.setRow], fun k hk => setRow_other W g k _ hk⟩⟩
    have e := setRow_heap W g _ ((madeCells #[.nilIface] L.length).toList.take 0 ++ L ++ (madeCells #[.nilIface] L.length).toList.drop (0 + L.length)).toArray 64 _ hg
    have e2 : ((madeCells #[.nilIface] L.length).toList.take 0 ++ L ++ (madeCells #[.nilIface] L.length).toList.drop (0 + L.length)) = L := by
      rw [List.drop_eq_nil_of_le (by rw [Array.length_toList, hms]; omega)]
      simp
    rw [e2] at e ⊢
    exact e
theorem keep_back {K : Nat → Prop} {w : World} {p G : Nat} {L : List Value} (head : Blk w p #[.slice (some ⟨G, 0, none⟩) L.length L.length, .bool false] 62) (bG : Blk w G L.toArray 64) (hne : G ≠ p) (kp : ¬ K p) (kG : ¬ K G) (ks : ∀ k, K k → k < w.heap.size) (le : L.length ≤ 5) : StA K w p (some ⟨G, 0, none⟩) L.length L := by
  refine ⟨head, ⟨by simp, .inr ⟨G, L.length, L.toArray, rfl, Nat.zero_le _, bG, Nat.le_refl _, by unfold maxLen; omega, by simp, by simp⟩⟩, fun e => hne (by simpa [blk?] using e), kp, fun g hg => ?_, ks, le⟩
  obtain rfl : G = g := by simpa [blk?] using hg
  exact kG
/-- The stack and the answer behind a plug-in word. -/
def extR (st : List TV) (r : Except Int (List TV)) : List TV × Int := match r with | .ok st' => (st', 0) | .error k => (st, k)
set_option maxRecDepth 100000 in
set_option maxHeartbeats 8000000 in
theorem extra_run0 (K : Nat → Prop) (w : World) (p : Nat) (st : List TV) (h : SRep K w p st) (r : Except Int (List TV)) (hW : ∀ (K' : Nat → Prop) W, SRepQ K' W p st → Calls Try.prog 76 #[ptr p] W (Out K' W p r)) :
    Calls Try.prog 60 #[ptr p, I 0] w fun e w' => e = .returned (I (extR st r).2) ∧ Turn K w p (extR st r).1 w' := by
  have hq : ∀ w, (binOp .eql 108 (.func (.func 76) #[] #[]) .nilFunc).run Try.prog w = .ok (.bool false) w := fun _ => by kernel_rfl
  obtain ⟨vs, hS, rs⟩ := h
  have hone : ∀ u ∈ vs.reverse, u.oneCell' = true := fun u hu => by obtain ⟨t, v, rfl⟩ := rs.one u (List.mem_reverse.1 hu); rfl
  have ks := hS.ks
  obtain ⟨L, hL⟩ : ∃ L, L = vs.reverse := ⟨_, rfl⟩
  rw [← hL] at hS hone
  have HL : Hid (L = vs.reverse) := hL
  clear hL
  have hS' := hS
  obtain ⟨a, cap, hA⟩ := hS
  obtain ⟨c0, c1, f0, f1, lp⟩ := hA.at0
  obtain ⟨i0, hi, hz0, hz1, hz2⟩ := info_parts vInfo
  have h5 := hA.le
  have hmk : ∀ W : World, (Instr.makeSlice 60 (.int .i64 (L.length : Int)) (.int .i64 (L.length : Int))).run Try.prog W = .ok (.slice (some ⟨W.heap.size, 0, none⟩) L.length L.length) (W.alloc (.cells (madeCells #[.nilIface] L.length) 64)) := fun W =>
    run_make_row' 60 64 .nilIface 16 Try.underlying60 vInfo rfl .i64 .i64 L.length (by omega) (by omega) W
  have hpos : 0 < L.length → ∃ ad, a = some ad ∧ ∀ j v, L[j]? = some v → w.cell? (ad.add j) = some v := by
    intro h0
    obtain ⟨g, rfl, hc, -, -, -⟩ := hA.form h0
    exact ⟨_, rfl, cells_of rfl hc⟩
  have HA : Hid (StA K w p a cap L) := hA
  obtain ⟨W2, hW2⟩ : ∃ W2, W2 = ((w.alloc (.cells #[I 0] 26)).alloc (.cells #[Fv 76, .nilFunc, Fv 77, Fv 78, Fv 79] 109)) := ⟨_, rfl⟩
  have bW2 : Below w.heap.size w W2 := by rw [hW2]; exact ((Below.refl _ _).alloc (Nat.le_refl _) _).alloc (by simp) _
  have sW2 : W2.heap.size = w.heap.size + 1 + 1 := by rw [hW2]; simp
  have bE2 : Blk W2 w.heap.size #[I 0] 26 := by rw [hW2]; exact (Blk.new rfl : Blk (w.alloc _) _ _ _).old _
  obtain ⟨W3, hW3⟩ : ∃ W3, W3 = W2.alloc (.cells (madeCells #[.nilIface] L.length) 64) := ⟨_, rfl⟩
  have bW3 : Below w.heap.size w W3 := by rw [hW3]; exact bW2.alloc (by omega) _
  have B3 : Blk W3 p _ _ := hA.head.below bW3 lp
  have bE3 : Blk W3 w.heap.size #[I 0] 26 := by rw [hW3]; exact bE2.old _
  have bG3 : Blk W3 (w.heap.size + 1 + 1) (madeCells #[.nilIface] L.length) 64 := by rw [hW3]; exact Blk.new sW2.symm
  obtain ⟨W4, hcopy, bG4, k4⟩ := keep_copy W3 (w.heap.size + 1 + 1) a cap L bG3 (by
    intro h0
    obtain ⟨g, rfl, hc, -, -, hgl⟩ := hA.form h0
    exact ⟨_, rfl, cells_of (bW3.block g hgl).symm hc⟩) hone
  have B4 : Blk W4 p _ _ := B3.kept k4 (by omega)
  have bE4 := bE3.kept k4 (by omega)
  have bW4 : Below w.heap.size w W4 := bW3.trans ⟨k4.os, k4.tape, k4.output, k4.size, fun k hk => k4.block k (by omega)⟩
  have b30 := B3.cell 0
  have b31 := B4.cell 1
  have g41 := B4.frozen 1
  rw [hW3, hW2] at hcopy b30
  clear hA
  go_enter_defers Try.func60, Try.ntmps60
  have kp : ¬ K p := HA.out.kp
  have S4 : StR (fun k => K k ∨ k = w.heap.size ∨ k = w.heap.size + 1 + 1) W4 p L := hS'.growK bW4 (by
    rintro k (e | rfl | rfl)
    · exact .inl e
    · exact .inr ⟨Nat.le_refl _, bE4.lt⟩
    · exact .inr ⟨by omega, bG4.lt⟩)
  have kw5 : Kept K w (W4.setCell ⟨p, 1, none⟩ (.bool true)) := (Kept.of_below bW4 ks).setCell kp _
  have S5 : SRepQ (fun k => K k ∨ k = w.heap.size ∨ k = w.heap.size + 1 + 1) (W4.setCell ⟨p, 1, none⟩ (.bool true)) p st := by
    obtain ⟨a4, cap4, hA4⟩ := S4
    exact ⟨vs, ⟨a4, cap4, HL.out ▸ hA4.busy⟩, (rs.kept kw5).mono (fun _ h => .inl h)⟩
  have bE5 := bE4.other (a := ⟨p, 1, none⟩) (by show w.heap.size ≠ p; omega) (.bool true)
  have bG5 := bG4.other (a := ⟨p, 1, none⟩) (by show w.heap.size + 1 + 1 ≠ p; omega) (.bool true)
  have hcall := hW _ _ S5
  go_wp2_with fail
  refine hcall.mono ?_
  intro e w6 hO
  clear hcopy b30 hW2 hW3
  cases r with
  | ok st' =>
    obtain ⟨rfl, K', m, n, ⟨vs', s6, r6⟩, k6⟩ := hO
    have bE6 := bE5.kept k6 (.inr (.inl rfl))
    have e60 := bE6.cell 0
    obtain ⟨x, hb⟩ := s6.blk
    have bE7 := bE6.other (a := ⟨p, 1, none⟩) (by show w.heap.size ≠ p; omega) (.bool false)
    have e70 := bE7.cell 0
    go_wp2
    refine leaves_cons (f := 80) (args := #[ptr p, .slice (some ⟨w.heap.size + 1 + 1, 0, none⟩) L.length L.length, ptr w.heap.size]) (by simp) (by simp [go_sem]) ?_
    refine (rescue_idle w6 p x _ ⟨w.heap.size, 0, none⟩ hb).mono ?_
    rintro e u' w7 ⟨rfl, rfl, rfl⟩
    refine ⟨_, by simp [results, Try.results60, go_sem, e70, extR], rfl, K', fun k hk => m k (.inl hk), fun k hk => ?_, ?_, ?_⟩
    · rcases n k hk with (e | rfl | rfl) | e
      · exact .inl e
      · exact .inr (Nat.le_refl _)
      · exact .inr (by omega)
      · have := bW4.size
        simp [World.setCell] at e
        exact .inr (by omega)
    · obtain ⟨a6, cap6, hA6⟩ := s6
      exact ⟨vs', ⟨a6, cap6, hA6.idle⟩, r6.kept ((Kept.refl K' w6).setCell (p := ⟨p, 1, none⟩) hA6.kp _)⟩
    · exact (kw5.trans (k6.weak (fun _ h => .inl h))).setCell kp _
  | error k =>
    obtain ⟨v, rfl, hv, k6, x, hb⟩ := hO
    have bE6 := bE5.kept k6 (.inr (.inl rfl))
    have bG6 := bG5.kept k6 (.inr (.inr rfl))
    have fin : ∀ y, ∃ w7, w7 = ((w6.setCell ⟨p, 1, none⟩ (.bool false)).setCell ⟨p, 0, none⟩ (.slice (some ⟨w.heap.size + 1 + 1, 0, none⟩) L.length L.length)).setCell ⟨w.heap.size, 0, none⟩ (I y) ∧ Turn K w p st w7 ∧ w7.cell? ⟨w.heap.size, 0, none⟩ = some (I y) := by
      intro y
      refine ⟨_, rfl, ⟨K, fun _ h => h, fun _ h => .inl h, ?_, ?_⟩, ?_⟩
      · have head : Blk ((w6.setCell ⟨p, 1, none⟩ (.bool false)).setCell ⟨p, 0, none⟩ (.slice (some ⟨w.heap.size + 1 + 1, 0, none⟩) L.length L.length)) p #[.slice (some ⟨w.heap.size + 1 + 1, 0, none⟩) L.length L.length, .bool false] 62 := by simpa using (hb.set (i := 1) (.bool false)).set (i := 0) (.slice (some ⟨w.heap.size + 1 + 1, 0, none⟩) L.length L.length)
        have k7 : Kept K w (((w6.setCell ⟨p, 1, none⟩ (.bool false)).setCell ⟨p, 0, none⟩ (.slice (some ⟨w.heap.size + 1 + 1, 0, none⟩) L.length L.length)).setCell ⟨w.heap.size, 0, none⟩ (I y)) := ((((kw5.trans (k6.weak (fun _ h => .inl h))).setCell kp _).setCell kp _).setCell (fun hk => by have := ks _ hk; simp at this) _)
        refine ⟨vs, ⟨some ⟨w.heap.size + 1 + 1, 0, none⟩, L.length, HL.out ▸ keep_back (head.other (a := ⟨w.heap.size, 0, none⟩) (by show p ≠ w.heap.size; omega) _) (((bG6.other (a := ⟨p, 1, none⟩) (by show w.heap.size + 1 + 1 ≠ p; omega) _).other (a := ⟨p, 0, none⟩) (by show w.heap.size + 1 + 1 ≠ p; omega) _).other (a := ⟨w.heap.size, 0, none⟩) (by show w.heap.size + 1 + 1 ≠ w.heap.size; omega) _) (by omega) kp (fun hk => by have := ks _ hk; omega) (fun k hk => Nat.lt_of_lt_of_le (ks k hk) k7.size) h5⟩, rs.kept k7⟩
      · exact ((((kw5.trans (k6.weak (fun _ h => .inl h))).setCell kp _).setCell kp _).setCell (fun hk => by have := ks _ hk; simp at this) _)
      · have := ((bE6.other (a := ⟨p, 1, none⟩) (by show w.heap.size ≠ p; omega) (.bool false)).other (a := ⟨p, 0, none⟩) (by show w.heap.size ≠ p; omega) (.slice (some ⟨w.heap.size + 1 + 1, 0, none⟩) L.length L.length)).set (i := 0) (I y)
        simpa using this.cell 0
    rcases hv with rfl | ⟨rfl, t, u, rfl, ht⟩
    · obtain ⟨w7, hw7, tn, cc⟩ := fin k
      go_wp2
      refine leaves_cons (f := 80) (args := #[ptr p, .slice (some ⟨w.heap.size + 1 + 1, 0, none⟩) L.length L.length, ptr w.heap.size]) (by simp) (by simp [go_sem]) ?_
      refine (rescue_own w6 p w.heap.size x _ _ _ _ k hb bE6 (by omega) []).mono ?_
      rintro e u' w8 ⟨rfl, rfl, rfl⟩
      rw [← hw7]
      exact ⟨_, by simp [results, Try.results60, go_sem, cc, extR], rfl, tn⟩
    · obtain ⟨w7, hw7, tn, cc⟩ := fin 5
      go_wp2
      refine leaves_cons (f := 80) (args := #[ptr p, .slice (some ⟨w.heap.size + 1 + 1, 0, none⟩) L.length L.length, ptr w.heap.size]) (by simp) (by simp [go_sem]) ?_
      refine (rescue_run w6 p w.heap.size x _ _ _ _ t u ht hb bE6 (by omega) []).mono ?_
      rintro e u' w8 ⟨rfl, rfl, rfl⟩
      rw [← hw7]
      exact ⟨_, by simp [results, Try.results60, go_sem, cc, extR], rfl, tn⟩
end Go.Proofs.Qxb6500470a
