import Derived.Test.Qxb6500468aPm7
namespace Go.Proofs.Qxb6500468a
open Go.RowKit

set_option maxRecDepth 100000 in
set_option maxHeartbeats 4000000 in
theorem mimp_any (w : World) (m : Nat) (us : List Bool) (hs : List Int) (h : MoR w m us hs) (u : Nat) (ws : List Nat) (ht : Tells u ws us hs) (s : List UInt8) (E : Int) (U : Nat) (W : List Nat)
    (HR : Hid ((imgOk s ∧ E = 0 ∧ U = impU s (s.length / 8) ∧ W = impW s (s.length / 8)) ∨ (¬ imgOk s ∧ E = badE s ∧ U = u ∧ W = ws))) :
    Calls Try.prog 69 #[ptr m, S s] w fun e w' => e = .returned (I E) ∧ Mon w m U W w' := by
  have hz := str_size s
  have htm : (s.length : Int).tmod 8 = ((s.length % 8 : Nat) : Int) := by rw [Int.tmod_eq_emod_of_nonneg (by omega)]; omega
  have lm := h.head.lt
  have bad : ¬ imgOk s → ∀ v, Below w.heap.size w v → (E = badE s ∧ Mon w m U W v) := by
    intro hn v bv
    rcases HR.out with ⟨a, -⟩ | ⟨-, b, rfl, rfl⟩
    · exact absurd a hn
    · exact ⟨b, us, hs, h.later bv, ht, Upd.of_below bv⟩
  have HB : Hid _ := bad
  clear bad
  by_cases h64 : 64 < s.length
  · have h64' : (64 : Int) < (s.length : Int) := by omega
    obtain ⟨hE, hM⟩ := HB.out (fun hI => by have := hI.1; omega) w (Below.refl _ _)
    have hE1 : E = 1 := by rw [hE]; unfold badE; rw [if_pos h64]
    subst hE1
    clear hE HR HB
    go_enter Try.func69, Try.ntmps69
    go_wp2
    go_ret
    exact ⟨rfl, hM⟩
  · have h64' : ¬ (64 : Int) < (s.length : Int) := by omega
    have hz2 : (str s).size ≤ 64 := by omega
    have hE9 : badE s = 9 := by unfold badE; rw [if_neg h64]
    by_cases h8 : s.length % 8 = 0
    · have h8' : ((s.length : Int).tmod 8 != 0) = false := by rw [htm, h8]; rfl
      clear htm
      go_enter Try.func69, Try.ntmps69
      go_wp2_with fail
      refine (mNew_any w).mono ?_
      rintro e w1 ⟨rfl, n1, b1⟩
      have hmn : m ≠ w.heap.size := by omega
      have h1 := h.later b1
      generalize hN : w.heap.size = N at *
      have HN : Hid _ := hN
      clear hN
      go_wp2
      go_loopw [6, 7] (fun la at_ wr => ∃ (k : Nat) (us2 : List Bool) (hs2 : List Int), 8 * k ≤ s.length ∧ at_ = I ((8 * k : Nat) : Int) ∧ la = I (if k = 0 then -1 else (slotAt s (k - 1) : Int)) ∧ Hid (∀ i, i < k → recOk s i) ∧ MoR wr m us hs ∧ MoR wr N us2 hs2 ∧ Hid (Tells (impU s k) (impW s k) us2 hs2 ∧ impU s k < 256 ∧ (impW s k).length = 8) ∧ Below N w wr) (fun _ at_ _ => (s.length - intOf at_).toNat)
      case atStart => exact ⟨0, f8, z40, by omega, rfl, rfl, fun i hi => by omega, h1, n1, ⟨tells0 _, by show 0 < 256; omega, rfl⟩, b1⟩
      case round =>
        clear h1 n1 b1
        obtain ⟨k, us2, hs2, hk, rfl, rfl, hok, hr, hr2, htt, br⟩ := hrel
        obtain ⟨la, hla⟩ : ∃ la : Int, la = if k = 0 then -1 else (slotAt s (k - 1) : Int) := ⟨_, rfl⟩
        have hla8 : la ≤ 255 ∧ -1 ≤ la := by
          rw [hla]; split
          · omega
          · have := (s.getD (8 * (k - 1)) 0).toNat_lt; unfold slotAt; omega
        rw [← hla]
        by_cases hlt : 8 * k < s.length
        · have hlt' : ((8 * k : Nat) : Int) < (s.length : Int) := by omega
          have g0 := str_get s (8 * k) hlt
          have hsl : (s.getD (8 * k) 0).toNat = slotAt s k := rfl
          rw [hsl] at g0
          have hs256 : slotAt s k < 256 := (s.getD (8 * k) 0).toNat_lt
          have hrk : recOk s k ↔ (slotAt s k < 8 ∧ la < (slotAt s k : Int)) := by
            unfold recOk
            rw [hla]
            constructor
            · rintro ⟨a, b⟩
              refine ⟨a, ?_⟩
              split
              · omega
              · rcases b with b | b <;> omega
            · rintro ⟨a, b⟩
              refine ⟨a, ?_⟩
              by_cases e : k = 0
              · exact .inl e
              · rw [if_neg e] at b; exact .inr (by omega)
          have HK : Hid _ := hrk
          clear hsl hrk hla
          obtain ⟨c, hc⟩ : ∃ c, c = slotAt s k := ⟨_, rfl⟩
          rw [← hc] at g0 hs256
          have hk8 : 8 * k ≤ 64 := by omega
          obtain ⟨a8, ha8⟩ : ∃ a8, a8 = 8 * k := ⟨_, rfl⟩
          rw [← ha8] at g0 hlt' ⊢
          have HA8 : Hid _ := ha8
          have HC : Hid _ := hc
          have hlt2 : a8 < s.length := by omega
          have hal : a8 + 8 ≤ s.length := by omega
          clear hc ha8
          by_cases c8 : c < 8
          · have c8' : ¬ (8 : Int) ≤ (c : Int) := by omega
            by_cases cl : la < (c : Int)
            · have cl' : ¬ (c : Int) ≤ la := by omega
              have w8 := wr64 ((a8 : Int) + 8) (by omega) (by omega)
              have gk : ∀ j, j < 7 → ∀ hh, ((str s)[a8 + (j + 1)]'hh).toNat = (s.getD (a8 + (j + 1)) 0).toNat := fun j hj => str_get s _ (by omega)
              have HGK : Hid _ := gk
              clear gk
              go_wp2
              go_loopw [9, 10] (fun ww kk wr' => ∃ j : Nat, j ≤ 7 ∧ ww = W64 (wAt s a8 j) ∧ kk = I ((j : Int) + 1) ∧ wr' = wr) (fun _ kk _ => (8 - intOf kk).toNat)
              case atStart => exact ⟨0, by omega, rfl, rfl, rfl⟩
              case round =>
                obtain ⟨j, hj, rfl, rfl, rfl⟩ := hrel
                have hwl := wAt_lt s a8 j
                by_cases hj7 : j < 7
                · have gj := HGK.out j hj7
                  have hb := (s.getD (a8 + (j + 1)) 0).toNat_lt
                  have hst : wAt s a8 (j + 1) = wAt s a8 j * 256 + (s.getD (a8 + (j + 1)) 0).toNat := rfl
                  have hw48 : wAt s a8 j < 281474976710656 := by
                    have : 256 ^ j ≤ 256 ^ 6 := Nat.pow_le_pow_right (by decide) (by omega)
                    have e6 : (256 : Nat) ^ 6 = 281474976710656 := by decide
                    omega
                  generalize (s.getD (a8 + (j + 1)) 0).toNat = b at *
                  generalize wAt s a8 j = n at *
                  have HST : Hid _ := hst
                  have u1 : IntKind.u64.wrap ((n : Int) * 256) = (n : Int) * 256 := by rw [IntKind.wrap_u64]; omega
                  have u2 : IntKind.u64.wrap ((n : Int) * 256 + (b : Int)) = (n : Int) * 256 + (b : Int) := by rw [IntKind.wrap_u64]; omega
                  clear hst hwl
                  have q2 : (j : Int) + 1 < 8 := by omega
                  have q3 : 0 ≤ (a8 : Int) + ((j : Int) + 1) := by omega
                  have q4 : (a8 : Int) + ((j : Int) + 1) < (s.length : Int) := by omega
                  have q5 := wr64 ((a8 : Int) + ((j : Int) + 1)) (by omega) (by omega)
                  have q6 := wr64 ((j : Int) + 1 + 1) (by omega) (by omega)
                  go_wp2
                  go_roundw
                  case rel => exact ⟨j + 1, by omega, by rw [HST.out]; go_num, by go_num, trivial⟩
                  case measure => simp [intOf]; omega
                · obtain rfl : j = 7 := by omega
                  obtain ⟨tt, tu, tl⟩ := htt.out
                  have hsk : slotAt s k = c := HC.out.symm
                  have hw7 : wAt s a8 7 = wAt s (8 * k) 7 := by rw [HA8.out]
                  have tp := tt.put tu tl hr2.l1 hr2.l2 c (wAt s a8 7) c8
                  have e1 : impU s (k + 1) = impU s k ||| 2 ^ c := by rw [← hsk]; rfl
                  have e2 : impW s (k + 1) = (impW s k).set c (wAt s a8 7) := by rw [← hsk, hw7]; rfl
                  have htN : Tells (impU s (k + 1)) (impW s (k + 1)) (us2.set c true) (hset hs2 c (unK (wAt s a8 7)) (unD (wAt s a8 7)) (unL (wAt s a8 7)) (unF (wAt s a8 7)) (unS (wAt s a8 7))) ∧ impU s (k + 1) < 256 ∧ (impW s (k + 1)).length = 8 := by
                    rw [e1, e2]
                    exact ⟨tp, (bit_add _ tu c c8).1, by simp [tl]⟩
                  have HTN : Hid _ := htN
                  have hW7 := wAt7 s a8
                  clear hwl tt tu tl tp e1 e2 htN hw7 htt hsk
                  generalize wAt s a8 7 = W7 at *
                  have c0 : wr.cell? ⟨N, c, none⟩ = some (.bool (us2.getD c false)) := (hr2.head.cell c).trans (moC_u _ _ c (by rw [hr2.l1]; exact c8))
                  have fz := hr2.head.frozen c
                  have c8i : (c : Int) < 8 := by omega
                  generalize us2.getD c false = old at *
                  go_wp2_with fail
                  clear c0 fz
                  have hr3 := hr2.setu c true c8
                  have Us : Upd [N] wr _ := (Upd.refl _ wr).setCell (p := ⟨N, c, none⟩) (by simp) (.bool true)
                  have hm3 := hr.upd Us (fun hm => hmn (List.mem_singleton.1 hm))
                  have br3 := br.setCell (p := ⟨N, c, none⟩) (Nat.le_refl _) (.bool true)
                  clear hr2 Us hr br
                  generalize wr.setCell ⟨N, c, none⟩ (.bool true) = v3 at *
                  have hUn : ∀ W, Calls Try.prog 25 #[W64 W7] W fun e w' => e = .returned (.agg #[I (unK W7), I (unD W7), I (unL W7), I (unF W7), I (unS W7)]) ∧ Below W.heap.size W w' := fun W => munpack_any W7 hW7 W
                  generalize unK W7 = zk at *
                  generalize unD W7 = zd at *
                  generalize unL W7 = zl at *
                  generalize unF W7 = zf at *
                  generalize unS W7 = zs at *
                  have HH3 : Hid _ := hr3
                  have bv3 : Below v3.heap.size v3 v3.drew := (Below.refl _ _).drew
                  go_region_held3 (fun W => True) (trivial) (first | (go_at_call 25; refine (hUn _).mono ?_; rintro e w4 ⟨rfl, b4⟩; have b4' : Below v3.heap.size v3 w4 := (by first | exact b4 | exact bv3.trans b4); have hr4 := HH3.out.later b4'; have fz4 := hr4.head.frozen; have xx := hr4.cellh c c8; obtain ⟨x0, x1, x2, x3, x4⟩ := xx))
                  all_goals
                    have Us : Upd [N] w4 _ := ((((((Upd.refl [N] w4).setCell (p := ⟨N, 8 + c * 5, none⟩) (by simp) (I zk)).setCell (p := ⟨N, 8 + c * 5 + 1, none⟩) (by simp) (I zd)).setCell (p := ⟨N, 8 + c * 5 + 2, none⟩) (by simp) (I zl)).setCell (p := ⟨N, 8 + c * 5 + 3, none⟩) (by simp) (I zf)).setCell (p := ⟨N, 8 + c * 5 + 4, none⟩) (by simp) (I zs))
                    have hr5 := hr4.lay c zk zd zl zf zs
                    have hm4 := hm3.later b4'
                    have hm5 := hm4.upd Us (fun hm => hmn (List.mem_singleton.1 hm))
                    have br5 := ((((((br3.trans (b4'.mono (by have := br3.size; rw [HN.out] at this; exact this))).setCell (p := ⟨N, 8 + c * 5, none⟩) (Nat.le_refl _) (I zk)).setCell (p := ⟨N, 8 + c * 5 + 1, none⟩) (Nat.le_refl _) (I zd)).setCell (p := ⟨N, 8 + c * 5 + 2, none⟩) (Nat.le_refl _) (I zl)).setCell (p := ⟨N, 8 + c * 5 + 3, none⟩) (Nat.le_refl _) (I zf)).setCell (p := ⟨N, 8 + c * 5 + 4, none⟩) (Nat.le_refl _) (I zs))
                    have HF : Hid (MoR _ m us hs ∧ MoR _ N _ _ ∧ Below N w _) := ⟨hm5, hr5, br5⟩
                    clear Us hr5 hm4 hm5 br5 x0 x1 x2 x3 x4 fz4 hr4 b4 b4' HH3 hUn br3 hm3 hr3 bv3
                    generalize ((((w4.setCell ⟨N, 8 + c * 5, none⟩ (I zk)).setCell ⟨N, 8 + c * 5 + 1, none⟩ (I zd)).setCell ⟨N, 8 + c * 5 + 2, none⟩ (I zl)).setCell ⟨N, 8 + c * 5 + 3, none⟩ (I zf)).setCell ⟨N, 8 + c * 5 + 4, none⟩ (I zs) = v5 at HF ⊢
                    go_wp2
                    go_roundw
                    case rel =>
                      refine ⟨k + 1, us2.set c true, hset hs2 c zk zd zl zf zs, ?_, ?_, ?_, ?_, HF.out.1, HF.out.2.1, HTN, HF.out.2.2⟩
                      · have := HA8.out; omega
                      · have := HA8.out; go_num
                      · rw [if_neg (by omega), Nat.add_sub_cancel, ← HC.out]
                      · intro i hi
                        by_cases e : i < k
                        · exact hok.out i e
                        · obtain rfl : i = k := by omega
                          exact HK.out.2 ⟨by rw [← HC.out]; exact c8, by rw [← HC.out]; exact cl⟩
                    case measure => simp [intOf]; omega
            · have cl' : (c : Int) ≤ la := by omega
              obtain ⟨hE, hM⟩ := HB.out (fun hI => by
                have := (HK.out.1 (hI.2.2 k (by have := HA8.out; omega))).2
                rw [← HC.out] at this
                omega) wr br
              rw [hE9] at hE
              subst hE
              go_wp2
              go_ret
              exact ⟨rfl, hM⟩
          · have c8' : (8 : Int) ≤ (c : Int) := by omega
            obtain ⟨hE, hM⟩ := HB.out (fun hI => by
              have := (HK.out.1 (hI.2.2 k (by have := HA8.out; omega))).1
              rw [← HC.out] at this
              omega) wr br
            rw [hE9] at hE
            subst hE
            go_wp2
            go_ret
            exact ⟨rfl, hM⟩
        · have hke : k = s.length / 8 := by omega
          have hlt' : ¬ ((8 * k : Nat) : Int) < (s.length : Int) := by omega
          obtain ⟨a8, ha8⟩ : ∃ a8, a8 = 8 * k := ⟨_, rfl⟩
          have hImg : imgOk s := ⟨by omega, h8, by rw [← hke]; exact hok.out⟩
          obtain ⟨hE, hU, hW⟩ : E = 0 ∧ U = impU s k ∧ W = impW s k := by
            rcases HR.out with ⟨-, a, b, c⟩ | ⟨a, -⟩
            · rw [hke]; exact ⟨a, b, c⟩
            · exact absurd hImg a
          subst hE
          have hT : Tells U W us2 hs2 := by rw [hU, hW]; exact htt.out.1
          have hTk := mtake_any wr m N us us2 hs hs2 hr hr2 hmn U W hT
          rw [← ha8] at hlt' ⊢
          clear ha8 hke hla hla8 hU hW hT htt
          go_wp2_with fail
          refine hTk.mono ?_
          rintro e w5 ⟨rfl, M5⟩
          have M6 := M5.since (w0 := w) (by rw [← HN.out] at br; exact br)
          go_wp2
          go_ret
          exact ⟨rfl, M6⟩
    · have h8' : ((s.length : Int).tmod 8 != 0) = true := by rw [htm]; simp; omega
      obtain ⟨hE, hM⟩ := HB.out (fun hI => h8 hI.2.1) w (Below.refl _ _)
      rw [hE9] at hE
      subst hE
      clear htm HR HB
      go_enter Try.func69, Try.ntmps69
      go_wp2
      go_ret
      exact ⟨rfl, hM⟩
end Go.Proofs.Qxb6500468a
