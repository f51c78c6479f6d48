import Derived.Test.Qxb6500468aPm3
import Derived.Test.Qxb6500468aPm2
namespace Go.Proofs.Qxb6500468a
open Go.RowKit

/-- What a method of the model leaves. -/
def Mon (w : World) (m : Nat) (U : Nat) (W : List Nat) (v : World) : Prop := ∃ us' hs', MoR v m us' hs' ∧ Tells U W us' hs' ∧ Upd [m] w v
theorem Mon.since {w0 w : World} {m : Nat} {U : Nat} {W : List Nat} {v : World} (h : Mon w m U W v) (b : Below w0.heap.size w0 w) : Mon w0 m U W v := by
  obtain ⟨us', hs', h1, h2, h3⟩ := h
  exact ⟨us', hs', h1, h2, (Upd.of_below b).trans h3⟩
theorem Mon.later {w : World} {m : Nat} {U : Nat} {W : List Nat} {v v' : World} (h : Mon w m U W v) (b : Below v.heap.size v v') : Mon w m U W v' := by
  obtain ⟨us', hs', h1, h2, h3⟩ := h
  exact ⟨us', hs', h1.later b, h2, h3.trans (Upd.of_below b)⟩

theorem low_bits : ∀ u, u < 256 → (lowZ u < 8 → u.testBit (lowZ u) = false) ∧ ∀ k, k < 8 → k < lowZ u → u.testBit k = true := by decide +kernel

set_option maxRecDepth 100000 in
set_option maxHeartbeats 4000000 in
theorem mput_bad (w : World) (m : Nat) (k d l f s : Int) (hg : ¬ goodH k d l f s) :
    Calls Try.prog 63 #[ptr m, HdV k d l f s] w fun e w' => e = .returned (.tuple #[I 0, I 6]) ∧ Below w.heap.size w w' := by
  have b0 := (Below.refl w.heap.size w).alloc (Nat.le_refl _) (.cells #[I k, I d, I l, I f, I s] 27)
  go_enter Try.func63, Try.ntmps63
  go_wp2_with fail
  refine (good_no k d l f s hg _).mono ?_
  rintro e w1 ⟨rfl, b1⟩
  have bb := b0.trans (b1.mono b0.size)
  clear b0 b1
  go_wp2
  go_ret2
  exact ⟨rfl, bb⟩

set_option maxRecDepth 100000 in
set_option maxHeartbeats 4000000 in
theorem mput_good (w : World) (m : Nat) (us : List Bool) (hs : List Int) (h : MoR w m us hs) (u : Nat) (ws : List Nat) (ht : Tells u ws us hs) (hu : u < 256) (lw : ws.length = 8) (k d l f s : Int) (hg : goodH k d l f s) (L : Nat) (hL : L = lowZ u) (R1 R2 : Int) (U : Nat) (W : List Nat)
    (HR : Hid ((R1, R2, U, W) = if L = 8 then (0, 7, u, ws) else ((L : Int), 0, u ||| 2 ^ L, ws.set L (packN k d l f s)))) :
    Calls Try.prog 63 #[ptr m, HdV k d l f s] w fun e w' => e = .returned (.tuple #[I R1, I R2]) ∧ Mon w m U W w' := by
  have b0 := (Below.refl w.heap.size w).alloc (Nat.le_refl _) (.cells #[I k, I d, I l, I f, I s] 27)
  have BH : Blk (w.alloc (.cells #[I k, I d, I l, I f, I s] 27)) w.heap.size #[I k, I d, I l, I f, I s] 27 := Blk.new rfl
  have lm := h.head.lt
  obtain ⟨q1, q2⟩ := low_bits u hu
  have hle := lowZ_le u hu
  rw [← hL] at q1 q2 hle
  have HQ : Hid (_ ∧ _) := ⟨q1, q2⟩
  have h0 := h.later b0
  clear q1 q2 hL
  go_enter Try.func63, Try.ntmps63
  go_wp2_with fail
  refine (good_yes k d l f s hg _).mono ?_
  rintro e w1 ⟨rfl, b1⟩
  have bb := b0.trans (b1.mono b0.size)
  have BH1 := BH.below b1 BH.lt
  have h1 := h0.later b1
  clear b0 b1 BH h0
  go_wp2
  go_loopw [6] (fun i wr => ∃ j : Nat, j ≤ L ∧ i = I j ∧ wr = w1) (fun i _ => (8 - intOf i).toNat)
  case atStart => exact ⟨0, by omega, rfl, rfl⟩
  case round =>
    obtain ⟨j, hj, rfl, rfl⟩ := hrel
    by_cases hlt : j < 8
    · have q1 : (j : Int) < 8 := by omega
      have c0 := h1.used ht j hlt
      by_cases hjL : j < L
      · rw [HQ.out.2 j hlt hjL] at c0
        go_wp2
        go_roundw
        case rel => exact ⟨j + 1, by omega, by go_num, trivial⟩
        case measure => simp [intOf]; omega
      · obtain rfl : j = L := by omega
        rw [HQ.out.1 hlt] at c0
        have hr := HR.out
        rw [if_neg (by omega)] at hr
        simp only [Prod.mk.injEq] at hr
        obtain ⟨rfl, rfl, rfl, rfl⟩ := hr
        have HP := (h1.setu j true hlt).lay j k d l f s
        have tp := ht.put hu lw h1.l1 h1.l2 j (packN k d l f s) hlt
        obtain ⟨e1, e2, e3, e4, e5⟩ := un_pack _ _ _ _ _ hg
        rw [e1, e2, e3, e4, e5] at tp
        have Uw : Upd [m] w _ := (((((((Upd.of_below bb).setCell (p := ⟨m, j, none⟩) (by simp) (.bool true)).setCell (p := ⟨m, 8 + j * 5, none⟩) (by simp) (I k)).setCell (p := ⟨m, 8 + j * 5 + 1, none⟩) (by simp) (I d)).setCell (p := ⟨m, 8 + j * 5 + 2, none⟩) (by simp) (I l)).setCell (p := ⟨m, 8 + j * 5 + 3, none⟩) (by simp) (I f)).setCell (p := ⟨m, 8 + j * 5 + 4, none⟩) (by simp) (I s))
        have HPU : Hid (Mon w m _ _ _) := ⟨us.set j true, hset hs j k d l f s, HP.later (Below.refl _ _).drew, tp, Uw.drew⟩
        obtain ⟨z0, z1, z2, z3, z4⟩ := h1.cellh j hlt
        have fz := h1.head.frozen
        have k0 : wr.cell? ⟨w.heap.size, 0, none⟩ = some (I k) := BH1.cell 0
        have k1 : wr.cell? ⟨w.heap.size, 1, none⟩ = some (I d) := BH1.cell 1
        have k2 : wr.cell? ⟨w.heap.size, 2, none⟩ = some (I l) := BH1.cell 2
        have k3 : wr.cell? ⟨w.heap.size, 3, none⟩ = some (I f) := BH1.cell 3
        have k4 : wr.cell? ⟨w.heap.size, 4, none⟩ = some (I s) := BH1.cell 4
        have hne : m ≠ w.heap.size := by omega
        have hne' : w.heap.size ≠ m := by omega
        clear HP tp Uw e1 e2 e3 e4 e5 HQ
        go_wp2_with fail
        go_region
        go_wp2
        go_ret2
        exact ⟨rfl, HPU.out⟩
    · obtain rfl : j = 8 := by omega
      have hL8 : L = 8 := by omega
      have hr := HR.out
      rw [if_pos hL8] at hr
      simp only [Prod.mk.injEq] at hr
      obtain ⟨rfl, rfl, rfl, rfl⟩ := hr
      clear hL8
      go_wp2
      go_ret2
      exact ⟨rfl, us, hs, h1, ht, Upd.of_below bb⟩

set_option maxRecDepth 100000 in
set_option maxHeartbeats 4000000 in
theorem mdrop_any (w : World) (m : Nat) (us : List Bool) (hs : List Int) (h : MoR w m us hs) (u : Nat) (ws : List Nat) (ht : Tells u ws us hs) (hu : u < 256) (lw : ws.length = 8) (A : Int) (U : Nat) (W : List Nat) (HR : Hid (U = (if atF u A = 0 then rmB u A.toNat else u) ∧ W = (if atF u A = 0 then ws.set A.toNat 0 else ws))) :
    Calls Try.prog 65 #[ptr m, I A] w fun e w' => e = .returned (I (atF u A)) ∧ Mon w m U W w' := by
  have hA := mat_any w m us hs h u ws ht A
  obtain ⟨hr1, hr2⟩ := HR.out
  rcases atF_cases u A with ⟨e0, s0, s1, hb⟩ | ⟨e0, -⟩
  · obtain ⟨i, rfl⟩ := Int.eq_ofNat_of_zero_le s0
    have hi : i < 8 := by omega
    rw [if_pos e0, Int.toNat_natCast] at hr1 hr2
    rw [e0] at hA ⊢
    rw [Int.toNat_natCast] at hb
    have HP := (h.setu i false hi).lay i 0 0 0 0 0
    have tp := ht.drop hu lw h.l1 i hi
    have tp2 : Tells U W (us.set i false) (hset hs i 0 0 0 0 0) := by
      rw [hr1, hr2]
      intro j hj
      obtain ⟨t1, t2⟩ := tp j hj
      refine ⟨t1, fun e => ?_⟩
      have hne : i ≠ j := by
        rintro rfl
        rw [← t1, getB_set _ _ _ _ (by rw [h.l1]; exact hi), if_pos rfl] at e
        cases e
      have q := fun c hc => hset_at hs h.l2 i hi 0 0 0 0 0 j c hc
      obtain ⟨r0, r1, r2, r3, r4⟩ := t2 e
      have q0 := q 0 (by omega)
      have q1 := q 1 (by omega)
      have q2 := q 2 (by omega)
      have q3 := q 3 (by omega)
      have q4 := q 4 (by omega)
      rw [if_neg hne] at q0 q1 q2 q3 q4
      exact ⟨q0.trans r0, q1.trans r1, q2.trans r2, q3.trans r3, q4.trans r4⟩
    have Uw : Upd [m] w _ := (((((((Upd.refl _ w).setCell (p := ⟨m, i, none⟩) (by simp) (.bool false)).setCell (p := ⟨m, 8 + i * 5, none⟩) (by simp) (I 0)).setCell (p := ⟨m, 8 + i * 5 + 1, none⟩) (by simp) (I 0)).setCell (p := ⟨m, 8 + i * 5 + 2, none⟩) (by simp) (I 0)).setCell (p := ⟨m, 8 + i * 5 + 3, none⟩) (by simp) (I 0)).setCell (p := ⟨m, 8 + i * 5 + 4, none⟩) (by simp) (I 0))
    have HPU : Hid (Mon w m U W _) := ⟨us.set i false, hset hs i 0 0 0 0 0, HP, tp2, Uw⟩
    have c0 := h.used ht i hi
    rw [hb] at c0
    obtain ⟨z0, z1, z2, z3, z4⟩ := h.cellh i hi
    have fz := h.head.frozen
    clear HP tp tp2 Uw hr1 hr2 HR e0 hb
    go_enter Try.func65, Try.ntmps65
    go_wp2_with fail
    refine hA.mono ?_
    rintro e w1 ⟨rfl, rfl⟩
    go_wp2
    go_ret
    exact ⟨rfl, HPU.out⟩
  · rw [if_neg e0] at hr1 hr2
    subst hr1
    subst hr2
    have e1 : (atF U A == 0) = false := by simpa using e0
    clear e0 HR
    generalize atF U A = a at *
    go_enter Try.func65, Try.ntmps65
    go_wp2_with fail
    refine hA.mono ?_
    rintro e w1 ⟨rfl, rfl⟩
    go_wp2
    go_ret
    exact ⟨rfl, us, hs, h, ht, Upd.refl _ _⟩
end Go.Proofs.Qxb6500468a
