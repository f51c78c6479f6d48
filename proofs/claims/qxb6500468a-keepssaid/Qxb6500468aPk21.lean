import Derived.Test.Qxb6500468aPk20
import Derived.Deep.RegionHeld3
namespace Go.Proofs.Qxb6500468a
open Go.RowKit

set_option maxRecDepth 100000 in
set_option maxHeartbeats 4000000 in
theorem loaded_bad (w : World) (x g : Nat) (s : List UInt8) (hn : ¬ imgOk s) (N : Int) (T : List UInt8) : Calls Try.prog 44 #[ptr x, ptr g, S s, AnsV (badE s) N T] w fun e w' => e = .returned (.bool true) ∧ Below w.heap.size w w' := by
  obtain ⟨E, hE⟩ : ∃ E, E = badE s := ⟨_, rfl⟩
  rw [← hE]
  have HE : Hid _ := hE
  clear hE
  have b0 := (Below.refl w.heap.size w).alloc (Nat.le_refl _) (.cells #[I E, I N, I 0, S T] 42)
  have BA : Blk (w.alloc (.cells #[I E, I N, I 0, S T] 42)) w.heap.size #[I E, I N, I 0, S T] 42 := Blk.new rfl
  go_enter Try.func44, Try.ntmps44
  go_wp2_with fail
  generalize w.alloc (.cells #[I E, I N, I 0, S T] 42) = v0 at *
  refine (Judge_any s _).mono ?_
  rintro e w1 ⟨j, rfl, rfl, hj⟩
  obtain ⟨rfl, hE0⟩ : j = E ∧ E ≠ 0 := by
    have := HE.out
    unfold badE at this
    rcases hj with ⟨h0, h1⟩ | ⟨h0, h1⟩ | ⟨h0, h1, -⟩
    · exact absurd h1 hn
    · rw [if_pos h1] at this; omega
    · rw [if_neg (by omega)] at this; omega
  clear hj HE
  obtain ⟨n0, n1, n2⟩ := BA.facts
  go_wp2
  exact bodyPost_ret (v := .bool true) (by simp [results, Try.results44, go_sem]) rfl ⟨rfl, b0⟩
set_option maxRecDepth 100000 in
set_option maxHeartbeats 4000000 in
theorem loaded_ok (w : World) (x bw ub UM : Nat) (WM : List Nat) (h : StoR w x bw ub UM WM) (s : List UInt8) (hn : imgOk s) (hU : Hid (UM = impU s (s.length / 8) ∧ WM = impW s (s.length / 8))) (g : Nat) (us : List Bool) (hs ds : List Int) (img : List UInt8) (hg : GhR w g us hs ds img) (g1 : g ≠ x) (g2 : g ≠ bw) (g3 : g ≠ ub) (N : Int) (T : List UInt8) :
    Calls Try.prog 44 #[ptr x, ptr g, S s, AnsV 0 N T] w fun e w' => e = .returned (.bool true) ∧ ∃ us' hs', GhR w' g us' hs' ds img ∧ Tells UM WM us' hs' ∧ Upd [g] w w' := by
  have hexp : expB UM WM 8 = s := by rw [hU.out.1, hU.out.2]; exact exp_all s hn
  have hpop : popB UM = s.length / 8 := by rw [hU.out.1]; exact pop_all s hn
  have hall : ∀ i, i < s.length / 8 → WM.getD (slotAt s i) 0 = wAt s (8 * i) 7 ∧ UM.testBit (slotAt s i) = true := by rw [hU.out.1, hU.out.2]; exact (imp_facts s hn _ (Nat.le_refl _)).2.2.2.2.2
  have HALL : Hid _ := hall
  clear hall
  have hz := str_size s
  have h64 := hn.1
  have b0 := (Below.refl w.heap.size w).alloc (Nat.le_refl _) (.cells #[I 0, I N, I 0, S T] 42)
  have BA : Blk (w.alloc (.cells #[I 0, I N, I 0, S T] 42)) w.heap.size #[I 0, I N, I 0, S T] 42 := Blk.new rfl
  have h0 := h.later b0
  have hg0 := hg.later b0
  obtain ⟨M, hM⟩ : ∃ M, M = s.length / 8 := ⟨_, rfl⟩
  rw [← hM] at hpop
  have hq : (s.length : Int).tdiv 8 = (M : Int) := by rw [Int.tdiv_eq_ediv_of_nonneg (by omega)]; omega
  have U0 : Upd [g] w _ := Upd.of_below b0
  go_enter Try.func44, Try.ntmps44
  go_wp2_with fail
  generalize w.alloc (.cells #[I 0, I N, I 0, S T] 42) = v0 at *
  refine (Judge_any s _).mono ?_
  rintro e w1 ⟨j, rfl, rfl, hj⟩
  obtain rfl : j = 0 := by
    rcases hj with ⟨h0, -⟩ | ⟨-, h1⟩ | ⟨-, -, h1⟩
    · exact h0
    · omega
    · exact absurd hn h1
  clear hj
  obtain ⟨n0, n1, n2⟩ := BA.facts
  go_wp2_with fail
  refine (export_any _ x bw ub UM WM h0).mono ?_
  rintro e w2 ⟨rfl, b2⟩
  rw [hexp]
  have h2 := h0.later b2
  have hg2 := hg0.later b2
  have U2 : Upd [g] w w2 := U0.trans (Upd.of_below b2)
  clear n0 n1 n2 h0 hg0 BA b0 b2 U0 hexp
  go_wp2_with fail
  refine (len_any w2 x bw ub UM WM h2).mono ?_
  rintro e w3 ⟨rfl, rfl⟩
  rw [hpop]
  clear hpop
  go_wp2
  go_loopw [10] (fun i wr => ∃ (k : Nat) (us' : List Bool), k ≤ 8 ∧ i = I k ∧ Hid (∀ j, j < k → us'.getD j false = false) ∧ GhR wr g us' hs ds img ∧ StoR wr x bw ub UM WM ∧ Upd [g] w wr) (fun i _ => (8 - intOf i).toNat)
  case atStart => exact ⟨0, us, by omega, rfl, fun j hj => by omega, hg2, h2, U2⟩
  case round =>
    clear h2 hg2 U2
    obtain ⟨k, us', hk, rfl, hz0, hr, Sr, Ur⟩ := hrel
    by_cases hlt : k < 8
    · have q1 : (k : Int) < 8 := by omega
      have p2 := hr.head.frozen k
      have hr' := hr.setu k false hlt
      have Sr' := Sr.upd (bs := [g]) ((Upd.refl _ wr).setCell (p := ⟨g, k, none⟩) (by simp) (.bool false)) (by simp; exact fun e => g1 e.symm) (by simp; exact fun e => g2 e.symm) (by simp; exact fun e => g3 e.symm)
      have Ur' := Ur.setCell (p := ⟨g, k, none⟩) (by simp) (.bool false)
      have p1 : wr.cell? ⟨g, k, none⟩ = some (.bool (us'.getD k false)) := (hr.head.cell k).trans (ghC_u _ _ _ _ _ (by rw [hr.l1]; exact hlt))
      generalize us'.getD k false = old at *
      go_wp2
      go_roundw
      case rel =>
        refine ⟨k + 1, us'.set k false, by omega, by go_num, ?_, hr', Sr', Ur'⟩
        intro j hj
        rw [getB_set _ _ _ _ (by rw [hr.l1]; exact hlt)]
        split
        · rfl
        · exact hz0.out j (by omega)
      case measure => simp [intOf]; omega
    · have hke : k = 8 := by omega
      have q1 : ¬ (k : Int) < 8 := by omega
      have ht0 : Tells (impU s 0) (impW s 0) us' hs := by
        intro j hj
        rw [hz0.out j (by omega)]
        exact ⟨(Nat.zero_testBit j).symm, fun e => by rw [show impU s 0 = 0 from rfl, Nat.zero_testBit] at e; cases e⟩
      clear hke hk hlt hz0
      go_wp2
      go_loopw [11] (fun a wr' => ∃ (m : Nat) (us2 : List Bool) (hs2 : List Int), 8 * m ≤ s.length ∧ a = I ((8 * m : Nat) : Int) ∧ GhR wr' g us2 hs2 ds img ∧ Tells (impU s m) (impW s m) us2 hs2 ∧ StoR wr' x bw ub UM WM ∧ Upd [g] w wr') (fun a _ => (s.length - intOf a).toNat)
      case atStart => exact ⟨0, us', hs, by omega, rfl, hr, ht0, Sr, Ur⟩
      case round =>
        clear hr ht0 Sr Ur
        obtain ⟨m, us2, hs2, hm, rfl, hr, ht, Sm, Km⟩ := hrel
        by_cases hlt2 : 8 * m < s.length
        · have h8 := hn.2.1
          have hrec := hn.2.2 m (by omega)
          have h8m : 8 * m + 8 ≤ s.length := by omega
          have g0 := str_get s (8 * m) hlt2
          have hsl : (s.getD (8 * m) 0).toNat = slotAt s m := rfl
          rw [hsl] at g0
          have hσ : slotAt s m < 8 := hrec.1
          obtain ⟨ha1, ha2⟩ := HALL.out m (by omega)
          obtain ⟨f1, f2, -⟩ := imp_facts s hn m (by omega)
          have htp := ht.put f1 f2 hr.l1 hr.l2 (slotAt s m) (wAt s (8 * m) 7) hσ
          have hpU : impU s (m + 1) = impU s m ||| 2 ^ slotAt s m := rfl
          have hpW : impW s (m + 1) = (impW s m).set (slotAt s m) (wAt s (8 * m) 7) := rfl
          rw [← hpU, ← hpW] at htp
          have hW := wAt7 s (8 * m)
          clear hrec hsl hpU hpW f1 f2
          obtain ⟨W7, hW7⟩ : ∃ W7, W7 = wAt s (8 * m) 7 := ⟨_, rfl⟩
          obtain ⟨σ, hσe⟩ : ∃ σ, σ = slotAt s m := ⟨_, rfl⟩
          rw [← hW7] at htp hW ha1
          rw [← hσe] at htp hσ ha1 ha2 g0
          have HP : Hid (Tells _ _ _ _) := htp
          clear hσe htp
          have hat : atF UM (σ : Int) = 0 := by
            unfold atF
            rw [if_neg (by omega), Int.toNat_natCast, ha2, if_pos rfl]
          have hge : getE UM WM (σ : Int) = W7 := by
            unfold getE
            rw [hat, if_pos rfl, Int.toNat_natCast, ha1]
          clear ha1 ha2
          have hlt' : ((8 * m : Nat) : Int) < (s.length : Int) := by omega
          obtain ⟨a8, ha8⟩ : ∃ a8, a8 = 8 * m := ⟨_, rfl⟩
          have hm64 : a8 + 8 ≤ 64 := by omega
          have gk : ∀ j, j < 7 → ∀ hh, ((str s)[a8 + (j + 1)]'hh).toNat = (s.getD (a8 + (j + 1)) 0).toNat := fun j hj => str_get s _ (by omega)
          rw [← ha8] at g0 hlt' hW7 ⊢
          have HA8 : Hid _ := ha8
          have hal : a8 + 8 ≤ s.length := by omega
          clear ha8
          have HGK : Hid _ := gk
          have HW7 : Hid _ := hW7
          clear gk hW7 hlt2 hm h8m ht
          go_wp2
          go_loopw [12, 13] (fun ww kk wr' => ∃ j : Nat, j ≤ 7 ∧ ww = W64 (wAt s a8 j) ∧ kk = I ((j : Int) + 1) ∧ wr' = wr) (fun _ kk _ => (8 - intOf kk).toNat)
          case atStart => exact ⟨0, by omega, rfl, rfl, rfl⟩
          case round =>
            obtain ⟨j, hj, rfl, rfl, rfl⟩ := hrel
            have hwl := wAt_lt s a8 j
            by_cases hj7 : j < 7
            · have gj := HGK.out j hj7
              have hb := (s.getD (a8 + (j + 1)) 0).toNat_lt
              have hst : wAt s a8 (j + 1) = wAt s a8 j * 256 + (s.getD (a8 + (j + 1)) 0).toNat := rfl
              have hw48 : wAt s a8 j < 281474976710656 := by
                have : 256 ^ j ≤ 256 ^ 6 := Nat.pow_le_pow_right (by decide) (by omega)
                have e6 : (256 : Nat) ^ 6 = 281474976710656 := by decide
                omega
              generalize (s.getD (a8 + (j + 1)) 0).toNat = b at *
              generalize wAt s a8 j = n at *
              have eb := or_byte n b hw48 hb
              have HEB : Hid _ := eb
              have HST : Hid _ := hst
              clear eb hst hwl
              have q2 : (j : Int) + 1 < 8 := by omega
              have q3 : 0 ≤ (a8 : Int) + ((j : Int) + 1) := by omega
              have q4 : (a8 : Int) + ((j : Int) + 1) < (s.length : Int) := by omega
              have q5 := wr64 ((a8 : Int) + ((j : Int) + 1)) (by omega) (by omega)
              have q6 := wr64 ((j : Int) + 1 + 1) (by omega) (by omega)
              go_wp2
              go_roundw
              case rel => exact ⟨j + 1, by omega, by rw [HEB.out, HST.out], by go_num, trivial⟩
              case measure => simp [intOf]; omega
            · obtain rfl : j = 7 := by omega
              rw [← HW7.out]
              clear hwl
              have hGet := get_any wr x bw ub UM WM Sm (σ : Int)
              rw [hge, hat] at hGet
              have hs8 : (σ : Int) < 8 := by omega
              have w8 := wr64 ((a8 : Int) + 8) (by omega) (by omega)
              go_wp2_with fail
              refine hGet.mono ?_
              rintro e w6 ⟨rfl, b6⟩
              have hr6 := hr.later b6
              have Sm6 := Sm.later b6
              have Km6 : Upd [g] w w6 := Km.trans (Upd.of_below b6)
              clear hGet b6 hr Sm Km hge hat
              go_wp2_with fail
              have aB := (Below.refl w6.heap.size w6).alloc (Nat.le_refl _) (.cells #[I (unK W7), I (unD W7), I (unL W7), I (unF W7), I (unS W7)] 27)
              have BH : Blk (w6.alloc (.cells #[I (unK W7), I (unD W7), I (unL W7), I (unF W7), I (unS W7)] 27)) w6.heap.size #[I (unK W7), I (unD W7), I (unL W7), I (unF W7), I (unS W7)] 27 := Blk.new rfl
              have hr7 := hr6.later aB
              have Sm7 := Sm6.later aB
              have Km7 : Upd [g] w _ := Km6.trans (Upd.of_below aB)
              have hgH : g ≠ w6.heap.size := by have := hr6.head.lt; omega
              have hHg : w6.heap.size ≠ g := fun e => hgH e.symm
              have hUn : ∀ W, Calls Try.prog 24 #[W64 W7] W fun e w' => e = .returned (.agg #[I (unK W7), I (unD W7), I (unL W7), I (unF W7), I (unS W7)]) ∧ Below W.heap.size W w' := fun W => unpack_any W W7 (by omega)
              clear hr6 Sm6 Km6 aB
              generalize w6.alloc (.cells #[I (unK W7), I (unD W7), I (unL W7), I (unF W7), I (unS W7)] 27) = v7 at *
              generalize w6.heap.size = HB at *
              generalize unK W7 = zk at *
              generalize unD W7 = zd at *
              generalize unL W7 = zl at *
              generalize unF W7 = zf at *
              generalize unS W7 = zs at *
              have k0 : v7.cell? ⟨HB, 0, none⟩ = some (I zk) := BH.cell 0
              have k1 : v7.cell? ⟨HB, 1, none⟩ = some (I zd) := BH.cell 1
              have k2 : v7.cell? ⟨HB, 2, none⟩ = some (I zl) := BH.cell 2
              have k3 : v7.cell? ⟨HB, 3, none⟩ = some (I zf) := BH.cell 3
              have k4 : v7.cell? ⟨HB, 4, none⟩ = some (I zs) := BH.cell 4
              have zh := BH.lt
              go_region_held3 (fun W => W.cell? ⟨HB, 0, none⟩ = some (I zk) ∧ W.cell? ⟨HB, 1, none⟩ = some (I zd) ∧ W.cell? ⟨HB, 2, none⟩ = some (I zl) ∧ W.cell? ⟨HB, 3, none⟩ = some (I zf) ∧ W.cell? ⟨HB, 4, none⟩ = some (I zs)) (go_keep) (first | (go_at_call 24; refine (hUn _).mono ?_; rintro e w8 ⟨rfl, b8⟩; have b8' : Below v7.heap.size v7 w8 := ((Below.refl v7.heap.size v7).drew).trans b8; have m0 := (b8'.cell (p := ⟨HB, 0, none⟩) zh).trans k0; have m1 := (b8'.cell (p := ⟨HB, 1, none⟩) zh).trans k1; have m2 := (b8'.cell (p := ⟨HB, 2, none⟩) zh).trans k2; have m3 := (b8'.cell (p := ⟨HB, 3, none⟩) zh).trans k3; have m4 := (b8'.cell (p := ⟨HB, 4, none⟩) zh).trans k4))
              have hr8 := hr7.later b8'
              have Sm8 := Sm7.later b8'
              have Km8 : Upd [g] w w8 := Km7.trans (Upd.of_below b8')
              have BH8 := BH.below b8' zh
              clear k0 k1 k2 k3 k4 m0 m1 m2 m3 m4 b8 b8' hr7 Sm7 Km7 BH hUn
              have p1 : w8.cell? ⟨g, σ, none⟩ = some (.bool (us2.getD σ false)) := (hr8.head.cell σ).trans (ghC_u _ _ _ _ _ (by rw [hr8.l1]; exact hσ))
              have p2 := hr8.head.frozen σ
              generalize us2.getD σ false = old at *
              go_wp2_with fail
              clear p1 p2
              have hr9 := hr8.setu σ true hσ
              have Ust : Upd [g] w8 _ := (Upd.refl _ w8).setCell (p := ⟨g, σ, none⟩) (by simp) (.bool true)
              have Sm9 := Sm8.upd Ust (by simp; exact fun e => g1 e.symm) (by simp; exact fun e => g2 e.symm) (by simp; exact fun e => g3 e.symm)
              have Km9 := Km8.trans Ust
              have BH9 := BH8.upd Ust (by simp; exact hHg)
              clear hr8 Sm8 Km8 Ust BH8
              generalize w8.setCell ⟨g, σ, none⟩ (.bool true) = v9 at *
              have lh2 := hr9.l2
              have y0 : v9.cell? ⟨g, 8 + σ * 5, none⟩ = some (I (hs2.getD (σ * 5 + 0) 0)) := (hr9.head.cell _).trans (ghC_h _ _ _ _ hr9.l1 (σ * 5 + 0) (by omega))
              have y1 : v9.cell? ⟨g, 8 + σ * 5 + 1, none⟩ = some (I (hs2.getD (σ * 5 + 1) 0)) := (hr9.head.cell _).trans (ghC_h _ _ _ _ hr9.l1 (σ * 5 + 1) (by omega))
              have y2 : v9.cell? ⟨g, 8 + σ * 5 + 2, none⟩ = some (I (hs2.getD (σ * 5 + 2) 0)) := (hr9.head.cell _).trans (ghC_h _ _ _ _ hr9.l1 (σ * 5 + 2) (by omega))
              have y3 : v9.cell? ⟨g, 8 + σ * 5 + 3, none⟩ = some (I (hs2.getD (σ * 5 + 3) 0)) := (hr9.head.cell _).trans (ghC_h _ _ _ _ hr9.l1 (σ * 5 + 3) (by omega))
              have y4 : v9.cell? ⟨g, 8 + σ * 5 + 4, none⟩ = some (I (hs2.getD (σ * 5 + 4) 0)) := (hr9.head.cell _).trans (ghC_h _ _ _ _ hr9.l1 (σ * 5 + 4) (by omega))
              generalize hs2.getD (σ * 5 + 0) 0 = o0 at *
              generalize hs2.getD (σ * 5 + 1) 0 = o1 at *
              generalize hs2.getD (σ * 5 + 2) 0 = o2 at *
              generalize hs2.getD (σ * 5 + 3) 0 = o3 at *
              generalize hs2.getD (σ * 5 + 4) 0 = o4 at *
              have fz := hr9.head.frozen
              obtain ⟨t0, t1, t2⟩ := BH9.facts
              have q2 : ¬ (σ : Int) < 0 := by omega
              have hrF := hr9.lay σ hσ zk zd zl zf zs
              have Ust := ((((((Upd.refl [g] v9).setCell (p := ⟨g, 8 + σ * 5, none⟩) (by simp) (I zk)).setCell (p := ⟨g, 8 + σ * 5 + 1, none⟩) (by simp) (I zd)).setCell (p := ⟨g, 8 + σ * 5 + 2, none⟩) (by simp) (I zl)).setCell (p := ⟨g, 8 + σ * 5 + 3, none⟩) (by simp) (I zf)).setCell (p := ⟨g, 8 + σ * 5 + 4, none⟩) (by simp) (I zs))
              have SmF := Sm9.upd Ust (by simp; exact fun e => g1 e.symm) (by simp; exact fun e => g2 e.symm) (by simp; exact fun e => g3 e.symm)
              have KmF := Km9.trans Ust
              clear Ust Sm9 Km9 BH9 hr9
              go_region
              go_wp2
              go_roundw
              case rel => exact ⟨m + 1, us2.set σ true, hset hs2 σ zk zd zl zf zs, by have := HA8.out; omega, by have := HA8.out; go_num, ⟨hrF.head, hrF.l1, hrF.l2, hrF.l3⟩, HP.out, ⟨SmF.head, SmF.rows, SmF.brd, SmF.len, SmF.hu, SmF.lt, SmF.free, SmF.d1, SmF.d2, SmF.d3⟩, KmF.drew⟩
              case measure => simp [intOf]; omega
        · have hme : m = s.length / 8 := by have := hn.2.1; omega
          have hlt' : ¬ ((8 * m : Nat) : Int) < (s.length : Int) := by omega
          obtain ⟨a8, ha8⟩ : ∃ a8, a8 = 8 * m := ⟨_, rfl⟩
          rw [← ha8] at hlt' ⊢
          rw [hme, ← hU.out.1, ← hU.out.2] at ht
          clear ha8 hme hlt2 hm
          go_wp2
          go_ret
          exact ⟨rfl, us2, hs2, hr, ht, Km⟩
end Go.Proofs.Qxb6500468a
