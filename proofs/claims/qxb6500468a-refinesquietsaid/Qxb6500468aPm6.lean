import Derived.Test.Qxb6500468aPm4
namespace Go.Proofs.Qxb6500468a
open Go.RowKit

theorem bump_parts (n : Nat) (d : Int) : unK (bumpN n d) = unK n ∧ unD (bumpN n d) = w16 (unD n + w16 d) ∧ unL (bumpN n d) = (if unL n < 65535 then unL n + 1 else unL n) ∧ unF (bumpN n d) = (if unF n % 2 = 0 then unF n + 1 else unF n - 1) ∧ unS (bumpN n d) = (if 2047 < unS n + 1 then 0 else unS n + 1) := by
  have h := bump_un n d
  simp only [UnV, HdV, Value.agg.injEq, Array.mk.injEq, List.cons.injEq, Value.int.injEq, true_and, and_true] at h
  exact h

set_option maxRecDepth 100000 in
set_option maxHeartbeats 4000000 in
theorem mbump_any (w : World) (m : Nat) (us : List Bool) (hs : List Int) (h : MoR w m us hs) (u : Nat) (ws : List Nat) (ht : Tells u ws us hs) (lw : ws.length = 8) (A B : Int) (W : List Nat) (HR : Hid (W = (if atF u A = 0 then ws.set A.toNat (bumpN (ws.getD A.toNat 0) B) else ws))) :
    Calls Try.prog 66 #[ptr m, I A, I B] w fun e w' => e = .returned (I (atF u A)) ∧ Mon w m u W w' := by
  have hA := mat_any w m us hs h u ws ht A
  have hr2 := HR.out
  rcases atF_cases u A with ⟨e0, s0, s1, hb⟩ | ⟨e0, -⟩
  · obtain ⟨i, rfl⟩ := Int.eq_ofNat_of_zero_le s0
    have hi : i < 8 := by omega
    rw [if_pos e0, Int.toNat_natCast] at hr2
    rw [e0] at hA ⊢
    rw [Int.toNat_natCast] at hb
    obtain ⟨z0, z1, z2, z3, z4⟩ := h.hdr ht i hi hb
    have tp := ht.turn lw h.l2 i (bumpN (ws.getD i 0) B) hi
    obtain ⟨p1, p2, p3, p4, p5⟩ := bump_parts (ws.getD i 0) B
    rw [p1, p2, p3, p4, p5, ← hr2] at tp
    clear p1 p2 p3 p4 p5 hr2 HR
    obtain ⟨g0, g1, g2, g3, g4, g5, g6, g7, g8, g9⟩ := un_good (ws.getD i 0)
    generalize ws.getD i 0 = n at *
    obtain ⟨dd, hdd⟩ : ∃ x, x = w16 B := ⟨_, rfl⟩
    obtain ⟨D, hD⟩ : ∃ x, x = w16 (unD n + dd) := ⟨_, rfl⟩
    obtain ⟨l', hl'⟩ : ∃ x, x = (if unL n < 65535 then unL n + 1 else unL n) := ⟨_, rfl⟩
    obtain ⟨f', hf'⟩ : ∃ x, x = (if unF n % 2 = 0 then unF n + 1 else unF n - 1) := ⟨_, rfl⟩
    obtain ⟨s', hs'⟩ : ∃ x, x = (if 2047 < unS n + 1 then 0 else unS n + 1) := ⟨_, rfl⟩
    rw [← hdd, ← hD, ← hl', ← hf', ← hs'] at tp
    have W1 : ∀ v : World, Calls Try.prog 32 #[I B, I (-32768), I 32767] v fun e w' => e = .returned (I dd) ∧ Below v.heap.size v w' := by rw [hdd]; exact wrap_i16 B
    have W2 : ∀ v : World, Calls Try.prog 32 #[I (unD n + dd), I (-32768), I 32767] v fun e w' => e = .returned (I D) ∧ Below v.heap.size v w' := by rw [hD]; exact wrap_i16 _
    have W3 : ∀ v : World, Calls Try.prog 18 #[I (unL n + 1), I 0, I 65535] v fun e w' => e = .returned (I l') ∧ w' = v := by
      have e : l' = (if unL n + 1 < 65536 then unL n + 1 else 65535) := by rw [hl']; split <;> split <;> omega
      rw [e]
      exact clamp16 _ (by omega)
    have t1 : (unS n + 1).tmod 2048 = s' := by rw [Int.tmod_eq_emod_of_nonneg (by omega), hs']; split <;> omega
    obtain ⟨c2, hc2⟩ : ∃ x, x = (unF n).tmod 2 := ⟨_, rfl⟩
    have t2 : unF n + 1 - 2 * c2 = f' := by rw [hc2, Int.tmod_eq_emod_of_nonneg (by omega), hf']; split <;> omega
    have t3 : (unF n).tmod 2 = c2 := hc2.symm
    have hc3 : 0 ≤ c2 ∧ c2 ≤ 1 := by rw [hc2, Int.tmod_eq_emod_of_nonneg (by omega)]; omega
    have hdr : -32768 ≤ dd ∧ dd ≤ 32767 := by rw [hdd]; unfold w16; omega
    have a1 := wr64 (unD n + dd) (by omega) (by omega)
    have a2 := wr64 (unL n + 1) (by omega) (by omega)
    have a3 := wr64 (unS n + 1) (by omega) (by omega)
    have a4 := wr64 (unF n + 1) (by omega) (by omega)
    have a5 := wr64 (2 * c2) (by omega) (by omega)
    have a6 := wr64 (unF n + 1 - 2 * c2) (by omega) (by omega)
    rw [t2] at a6
    have HTP : Hid (Tells _ _ _ _) := tp
    have lm := h.head.lt
    clear tp e0 hb hdd hD hl' hf' hs' hc2 g0 g1 g2 g3 g4 g5 g6 g7 g8 g9 hc3 hdr ht
    generalize unK n = zk at *
    generalize unD n = zd at *
    generalize unL n = zl at *
    generalize unF n = zf at *
    generalize unS n = zs at *
    go_enter Try.func66, Try.ntmps66
    go_wp2_with fail
    refine hA.mono ?_
    rintro e w1 ⟨rfl, rfl⟩
    have aB := (Below.refl w1.heap.size w1).alloc (Nat.le_refl _) (.cells #[I zk, I zd, I zl, I zf, I zs] 27)
    have BH : Blk (w1.alloc (.cells #[I zk, I zd, I zl, I zf, I zs] 27)) w1.heap.size #[I zk, I zd, I zl, I zf, I zs] 27 := Blk.new rfl
    have h1 := h.later aB
    go_wp2_with fail
    generalize w1.alloc (.cells #[I zk, I zd, I zl, I zf, I zs] 27) = v1 at *
    refine (W1 _).mono ?_
    rintro e w2 ⟨rfl, b2⟩
    have h2 := h1.later b2
    have BH2 := BH.below b2 BH.lt
    have bb2 := aB.trans (b2.mono aB.size)
    clear z0 z1 z2 z3 z4 h1 BH b2 aB hA W1
    obtain ⟨c0, c1, -⟩ := BH2.facts
    go_wp2_with fail
    refine (W2 _).mono ?_
    rintro e w3 ⟨rfl, b3⟩
    have h3 := h2.later b3
    have BH3 := BH2.below b3 BH2.lt
    have bb3 := bb2.trans (b3.mono bb2.size)
    clear c0 c1 h2 BH2 b3 bb2 W2
    obtain ⟨c0, c1, -⟩ := BH3.facts
    go_wp2_with fail
    have hne : m ≠ w1.heap.size := by omega
    have Us : Upd [w1.heap.size] w3 _ := (Upd.refl _ w3).setCell (p := ⟨w1.heap.size, 1, none⟩) (by simp) (I D)
    have h4 := h3.upd Us (fun hm => hne (List.mem_singleton.1 hm))
    have BH4 := BH3.set (i := 1) (I D)
    have bb4 := bb3.setCell (p := ⟨w1.heap.size, 1, none⟩) (Nat.le_refl _) (I D)
    clear c0 c1 h3 BH3 bb3 Us
    generalize w3.setCell ⟨w1.heap.size, 1, none⟩ (I D) = v4 at *
    refine (W3 _).mono ?_
    rintro e w5 ⟨rfl, rfl⟩
    clear W3
    obtain ⟨c0, c1, -⟩ := BH4.facts
    have Us : Upd [w1.heap.size] w5 _ := (((Upd.refl _ w5).setCell (p := ⟨w1.heap.size, 2, none⟩) (by simp) (I l')).setCell (p := ⟨w1.heap.size, 4, none⟩) (by simp) (I s')).setCell (p := ⟨w1.heap.size, 3, none⟩) (by simp) (I f')
    have h6 := h4.upd Us (fun hm => hne (List.mem_singleton.1 hm))
    have BH6 := ((BH4.set (i := 2) (I l')).set (i := 4) (I s')).set (i := 3) (I f')
    have bb6 := ((bb4.setCell (p := ⟨w1.heap.size, 2, none⟩) (Nat.le_refl _) (I l')).setCell (p := ⟨w1.heap.size, 4, none⟩) (Nat.le_refl _) (I s')).setCell (p := ⟨w1.heap.size, 3, none⟩) (Nat.le_refl _) (I f')
    go_wp2_with fail
    clear c0 c1 h4 BH4 bb4 Us
    generalize ((w5.setCell ⟨w1.heap.size, 2, none⟩ (I l')).setCell ⟨w1.heap.size, 4, none⟩ (I s')).setCell ⟨w1.heap.size, 3, none⟩ (I f') = v6 at *
    have k0 : v6.cell? ⟨w1.heap.size, 0, none⟩ = some (I zk) := BH6.cell 0
    have k1 : v6.cell? ⟨w1.heap.size, 1, none⟩ = some (I D) := BH6.cell 1
    have k2 : v6.cell? ⟨w1.heap.size, 2, none⟩ = some (I l') := BH6.cell 2
    have k3 : v6.cell? ⟨w1.heap.size, 3, none⟩ = some (I f') := BH6.cell 3
    have k4 : v6.cell? ⟨w1.heap.size, 4, none⟩ = some (I s') := BH6.cell 4
    obtain ⟨z0, z1, z2, z3, z4⟩ := h6.cellh i hi
    generalize hs.getD (i * 5) 0 = o0 at *
    generalize hs.getD (i * 5 + 1) 0 = o1 at *
    generalize hs.getD (i * 5 + 2) 0 = o2 at *
    generalize hs.getD (i * 5 + 3) 0 = o3 at *
    generalize hs.getD (i * 5 + 4) 0 = o4 at *
    have fz := h6.head.frozen
    have HP := h6.lay i zk D l' f' s'
    have Uw : Upd [m] w1 _ := (((((Upd.of_below bb6).setCell (p := ⟨m, 8 + i * 5, none⟩) (by simp) (I zk)).setCell (p := ⟨m, 8 + i * 5 + 1, none⟩) (by simp) (I D)).setCell (p := ⟨m, 8 + i * 5 + 2, none⟩) (by simp) (I l')).setCell (p := ⟨m, 8 + i * 5 + 3, none⟩) (by simp) (I f')).setCell (p := ⟨m, 8 + i * 5 + 4, none⟩) (by simp) (I s')
    have HPU : Hid (Mon w1 m u W _) := ⟨us, hset hs i zk D l' f' s', HP.later (Below.refl _ _).drew, HTP.out, Uw.drew⟩
    have hne' : w1.heap.size ≠ m := fun e => hne e.symm
    clear HP Uw HTP bb6 BH6 h6 t1 t2 t3 a1 a2 a3 a4 a5 a6
    go_region
    go_wp2
    go_ret
    exact ⟨rfl, HPU.out⟩
  · rw [if_neg e0] at hr2
    subst hr2
    have e1 : (atF u A != 0) = true := by simpa using e0
    clear e0 HR
    generalize atF u A = a at *
    go_enter Try.func66, Try.ntmps66
    go_wp2_with fail
    refine hA.mono ?_
    rintro e w1 ⟨rfl, rfl⟩
    go_wp2
    go_ret
    exact ⟨rfl, us, hs, h, ht, Upd.refl _ _⟩
end Go.Proofs.Qxb6500468a
