import Derived.Test.Qxb6500468aPk16
import Derived.BigQuiet
namespace Go.Proofs.Qxb6500468a
open Go.RowKit

set_option maxRecDepth 100000 in
set_option maxHeartbeats 4000000 in
theorem owed_7used (w : World) (g : Nat) (us : List Bool) (hs ds : List Int) (img : List UInt8) (h : GhR w g us hs ds img) (u : Nat) (ws : List Nat) (ht : Tells u ws us hs) (hu : u < 256) (i : Nat) (hi : i < 8) (B C : Int) (s t : ByteArray) (n : Nat) (hn : Hid (ws.getD i 0 = n)) (hb : u.testBit i = true) :
    Calls Try.prog 43 #[ptr g, OpV 7 (i : Int) B C s t] w fun e w' => e = .returned (AnsV 0 0 []) ∧ GhR w' g us (hset hs i (unK (bumpN n B)) (unD (bumpN n B)) (unL (bumpN n B)) (unF (bumpN n B)) (unS (bumpN n B))) ds img ∧ Upd [g] w w' := by
  obtain ⟨hf1, hf2⟩ := hiS_fin u hu
  have lg := h.head.lt
  have b0 := ((Below.refl w.heap.size w).alloc (Nat.le_refl _) (.cells #[I 7, I (i : Int), I B, I C, .string s, .string t] 38)).alloc (by simp) (.cells #[I 0, I 0, I 0, S []] 42)
  have BO : Blk ((w.alloc (.cells #[I 7, I (i : Int), I B, I C, .string s, .string t] 38)).alloc (.cells #[I 0, I 0, I 0, S []] 42)) w.heap.size #[I 7, I (i : Int), I B, I C, .string s, .string t] 38 := (Blk.new rfl).old _
  have BA : Blk ((w.alloc (.cells #[I 7, I (i : Int), I B, I C, .string s, .string t] 38)).alloc (.cells #[I 0, I 0, I 0, S []] 42)) (w.heap.size + 1) #[I 0, I 0, I 0, S []] 42 := Blk.new (by simp)
  have HF : Hid (_ ∧ _) := ⟨hf1, hf2⟩
  clear hf1 hf2
  go_enter Try.func43, Try.ntmps43
  go_wp2
  go_loopw [5, 6, 7] (fun n f ix wr => ∃ q : Nat, q ≤ 8 ∧ n = I ((hiS u q).1 : Nat) ∧ f = I (hiS u q).2 ∧ ix = I (7 - (q : Int)) ∧ GhR wr g us hs ds img ∧ Blk wr w.heap.size #[I 7, I (i : Int), I B, I C, .string s, .string t] 38 ∧ Blk wr (w.heap.size + 1) #[I 0, I 0, I 0, S []] 42 ∧ Below w.heap.size w wr) (fun _ _ ix _ => (intOf ix + 1).toNat)
  case atStart => exact ⟨0, by omega, rfl, rfl, rfl, h.later b0, BO, BA, b0⟩
  case round =>
    clear BO BA b0
    obtain ⟨q, hq, rfl, rfl, rfl, hr, BO, BA, br⟩ := hrel
    have hle := hiS_le u q
    by_cases hlt : q < 8
    · obtain ⟨i9, hi⟩ : ∃ i9, i9 = 7 - q := ⟨_, rfl⟩
      have hi8 : i9 < 8 := by omega
      have c0 := hr.used ht i9 hi8
      have e1 : (7 : Int) - (q : Int) = (i9 : Int) := by omega
      have hst : hiS u (q + 1) = if u.testBit i9 then ((hiS u q).1 + 1, (hiS u q).2) else ((hiS u q).1, ((i9 : Nat) : Int)) := by rw [hi]; rfl
      rw [e1]
      have q1 : (i9 : Int) < 8 := by omega
      have q2 : 0 ≤ (i9 : Int) := by omega
      have HI : Hid (((i9 : Int) - 1) = 7 - ((q + 1 : Nat) : Int)) := by show _ = _; omega
      have w1 := wr64 ((i9 : Int) - 1) (by omega) (by omega)
      clear e1 hi
      cases hb9 : u.testBit i9 with
      | true =>
        rw [hb9, if_pos rfl] at hst
        rw [hb9] at c0
        have HS : Hid _ := hst
        clear hst
        obtain ⟨a1, ha1⟩ : ∃ a1, a1 = (hiS u q).1 := ⟨_, rfl⟩
        have w2 := wr64 ((a1 : Int) + 1) (by omega) (by omega)
        rw [← ha1]
        have HA1 : Hid _ := ha1
        clear ha1
        go_wp2
        go_roundw
        case rel => exact ⟨q + 1, by omega, by rw [HS.out, ← HA1.out]; go_num, by rw [HS.out], congrArg (Value.int .i64) HI.out, hr, BO, BA, br⟩
        case measure => simp [intOf]
      | false =>
        rw [hb9, if_neg (by simp)] at hst
        rw [hb9] at c0
        have HS : Hid _ := hst
        clear hst
        go_wp2
        go_roundw
        case rel => exact ⟨q + 1, by omega, by rw [HS.out], by rw [HS.out], congrArg (Value.int .i64) HI.out, hr, BO, BA, br⟩
        case measure => simp [intOf]
    · obtain rfl : q = 8 := by omega
      obtain ⟨hf1, hf2⟩ := HF.out
      rw [hf1, hf2, show (7 : Int) - ((8 : Nat) : Int) = -1 from rfl]
      clear hf1 hf2 HF hle
      obtain ⟨o0, o1, o2⟩ := BO.facts
      have U : Upd [g] w wr := Upd.of_below br
      obtain ⟨r0, r1, r2⟩ := BA.facts
      have c0 := hr.used ht i hi
      rw [hb] at c0
      have q1 : (i : Int) < 8 := by omega
      have q2 : ¬ (i : Int) < 0 := by omega
      have q3 : ¬ (8 : Int) ≤ (i : Int) := by omega
      have lg2 : g < wr.heap.size := hr.head.lt
      have hn1 : g ≠ wr.heap.size := by omega
      have hn2 : g ≠ wr.heap.size + 1 := by omega
      have hn3 : g ≠ w.heap.size + 1 := by omega
      obtain ⟨y0, y1, y2, y3, y4⟩ := hr.hdr ht i hi hb
      rw [hn.out] at y0 y1 y2 y3 y4
      have fz := hr.head.frozen
      go_wp2_with fail
      go_region
      clear y0 y1 y2 y3 y4
      go_wp2_with fail
      have aB := (((Below.refl wr.heap.size wr).alloc (Nat.le_refl _) (.cells #[I 0, I 0, I 0, .string { data := #[] }] 42)).alloc (by simp) (.cells #[I 0, I 0, I 0, I 0, I 0] 27)).drew
      have BAN : Blk ((wr.alloc (.cells #[I 0, I 0, I 0, .string { data := #[] }] 42)).alloc (.cells #[I 0, I 0, I 0, I 0, I 0] 27)).drew wr.heap.size #[I 0, I 0, I 0, .string { data := #[] }] 42 := ((Blk.new rfl).old _).drew
      have hr1 := hr.later aB
      have BO1 := BO.below aB BO.lt
      have BA1 := BA.below aB BA.lt
      have U1 : Upd [g] w _ := U.trans (Upd.of_below aB)
      generalize ((wr.alloc (.cells #[I 0, I 0, I 0, .string { data := #[] }] 42)).alloc (.cells #[I 0, I 0, I 0, I 0, I 0] 27)).drew = v1 at *
      obtain ⟨y0, y1, y2, y3, y4⟩ := hr1.hdr ht i hi hb
      rw [hn.out] at y0 y1 y2 y3 y4
      have p1 : v1.cell? ⟨w.heap.size, 1, none⟩ = some (I (i : Int)) := BO1.cell 1
      have p2 : v1.cell? ⟨w.heap.size, 2, none⟩ = some (I B) := BO1.cell 2
      have zg := hr1.head.lt
      have zo := BO1.lt
      have hg1 : g ≠ w.heap.size := by omega
      have hg2 : w.heap.size ≠ g := by omega
      have hn4 : w.heap.size + 1 ≠ g := fun e => hn3 e.symm
      have hBu : ∀ W, Calls Try.prog 61 #[.agg #[I (unK n), I (unD n), I (unL n), I (unF n), I (unS n)], I B] W fun e w' => e = .returned (.agg #[I (unK (bumpN n B)), I (unD (bumpN n B)), I (unL (bumpN n B)), I (unF (bumpN n B)), I (unS (bumpN n B))]) ∧ Below W.heap.size W w' := fun W => bumped_any n B W
      obtain ⟨zk, hzk⟩ : ∃ z, z = unK (bumpN n B) := ⟨_, rfl⟩
      obtain ⟨zd, hzd⟩ : ∃ z, z = unD (bumpN n B) := ⟨_, rfl⟩
      obtain ⟨zl, hzl⟩ : ∃ z, z = unL (bumpN n B) := ⟨_, rfl⟩
      obtain ⟨zf, hzf⟩ : ∃ z, z = unF (bumpN n B) := ⟨_, rfl⟩
      obtain ⟨zs, hzs⟩ : ∃ z, z = unS (bumpN n B) := ⟨_, rfl⟩
      have HZ : Hid _ := And.intro hzk (And.intro hzd (And.intro hzl (And.intro hzf hzs)))
      rw [← hzk, ← hzd, ← hzl, ← hzf, ← hzs] at hBu
      clear hzk hzd hzl hzf hzs
      generalize wr.heap.size = AN at *
      have hanG : AN ≠ g := fun e => hn1 e.symm
      have zan := BAN.lt
      clear c0 r0 r1 o0 o1
      go_region_with (first | (go_at_call 61; refine (hBu _).mono ?_; rintro e w3 ⟨rfl, b3⟩; have b3' : Below v1.heap.size v1 w3 := ((Below.refl v1.heap.size v1).drew).trans b3; have hr3 := hr1.later b3'; have m1 := (b3'.cell (p := ⟨w.heap.size, 1, none⟩) zo).trans p1; have x0 := (b3'.cell (p := ⟨g, 8 + i * 5, none⟩) zg).trans y0; have x1 := (b3'.cell (p := ⟨g, 8 + i * 5 + 1, none⟩) zg).trans y1; have x2 := (b3'.cell (p := ⟨g, 8 + i * 5 + 2, none⟩) zg).trans y2; have x3 := (b3'.cell (p := ⟨g, 8 + i * 5 + 3, none⟩) zg).trans y3; have x4 := (b3'.cell (p := ⟨g, 8 + i * 5 + 4, none⟩) zg).trans y4; have fz3 := hr3.head.frozen))
      all_goals
        have hrF := hr3.lay i hi zk zd zl zf zs
        have BANF := ((((((BAN.below b3' zan).other (a := ⟨g, 8 + i * 5, none⟩) hanG (I zk)).other (a := ⟨g, 8 + i * 5 + 1, none⟩) hanG (I zd)).other (a := ⟨g, 8 + i * 5 + 2, none⟩) hanG (I zl)).other (a := ⟨g, 8 + i * 5 + 3, none⟩) hanG (I zf)).other (a := ⟨g, 8 + i * 5 + 4, none⟩) hanG (I zs))
        have BOF := ((((((BO1.below b3' zo).other (a := ⟨g, 8 + i * 5, none⟩) hg2 (I zk)).other (a := ⟨g, 8 + i * 5 + 1, none⟩) hg2 (I zd)).other (a := ⟨g, 8 + i * 5 + 2, none⟩) hg2 (I zl)).other (a := ⟨g, 8 + i * 5 + 3, none⟩) hg2 (I zf)).other (a := ⟨g, 8 + i * 5 + 4, none⟩) hg2 (I zs))
        have BAF := ((((((BA1.below b3' BA1.lt).other (a := ⟨g, 8 + i * 5, none⟩) hn4 (I zk)).other (a := ⟨g, 8 + i * 5 + 1, none⟩) hn4 (I zd)).other (a := ⟨g, 8 + i * 5 + 2, none⟩) hn4 (I zl)).other (a := ⟨g, 8 + i * 5 + 3, none⟩) hn4 (I zf)).other (a := ⟨g, 8 + i * 5 + 4, none⟩) hn4 (I zs))
        have UF : Upd [g] w _ := (((((U1.trans (Upd.of_below b3')).setCell (p := ⟨g, 8 + i * 5, none⟩) (.inl (by simp)) (I zk)).setCell (p := ⟨g, 8 + i * 5 + 1, none⟩) (.inl (by simp)) (I zd)).setCell (p := ⟨g, 8 + i * 5 + 2, none⟩) (.inl (by simp)) (I zl)).setCell (p := ⟨g, 8 + i * 5 + 3, none⟩) (.inl (by simp)) (I zf)).setCell (p := ⟨g, 8 + i * 5 + 4, none⟩) (.inl (by simp)) (I zs)
        have HW : Hid _ := And.intro hrF (And.intro BANF (And.intro BOF (And.intro BAF UF)))
        clear hrF BANF BOF BAF UF
        generalize (((((w3.setCell ⟨g, 8 + i * 5, none⟩ (I zk)).setCell ⟨g, 8 + i * 5 + 1, none⟩ (I zd)).setCell ⟨g, 8 + i * 5 + 2, none⟩ (I zl)).setCell ⟨g, 8 + i * 5 + 3, none⟩ (I zf)).setCell ⟨g, 8 + i * 5 + 4, none⟩ (I zs)) = vF at HW ⊢
        obtain ⟨hrF, BANF, BOF, BAF, UF⟩ := HW.out
        clear HW x0 x1 x2 x3 x4 y0 y1 y2 y3 y4 m1 p1 p2 hBu b3 b3' fz fz3
        obtain ⟨s0, s1, s2⟩ := BOF.facts
        obtain ⟨t0, t1, t2⟩ := BAF.facts
        obtain ⟨n0, n1, n2⟩ := BANF.facts
        go_wp2
        obtain ⟨e1, e2, e3, e4, e5⟩ := HZ.out
        have BA2 := (((BAF.set (i := 0) (I 0)).set (i := 1) (I 0)).set (i := 2) (I 0)).set (i := 3) (S [])
        refine ret_row Try.results43 rfl rfl BA2 Try.underlying42 rfl (by kernel_rfl) ⟨rfl, ?_, (((UF.setCell (.inr (Nat.le_succ _)) _).setCell (.inr (Nat.le_succ _)) _).setCell (.inr (Nat.le_succ _)) _).setCell (.inr (Nat.le_succ _)) _⟩
        rw [← e1, ← e2, ← e3, ← e4, ← e5]
        exact hrF.upd (bs := [w.heap.size + 1]) (((((Upd.refl _ _).setCell (by simp) _).setCell (by simp) _).setCell (by simp) _).setCell (by simp) _) (by simp; omega)
end Go.Proofs.Qxb6500468a
