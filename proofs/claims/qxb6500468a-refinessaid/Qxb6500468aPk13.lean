import Derived.Test.Qxb6500468aPk12
namespace Go.Proofs.Qxb6500468a
open Go.RowKit

set_option maxRecDepth 100000 in
set_option maxHeartbeats 1000000 in
theorem bumped_walk (w : World) (k dl l f s d D dd l' f' s' : Int) (hI1 : ∀ w, Calls Try.prog 74 #[I d, I (-32768), I 32767] w fun e w' => e = .returned (I dd) ∧ w' = w) (hI2 : ∀ w, Calls Try.prog 74 #[I (dl + dd), I (-32768), I 32767] w fun e w' => e = .returned (I D) ∧ w' = w)
    (wa : IntKind.i64.wrap (dl + dd) = dl + dd) (wl : IntKind.i64.wrap (l + 1) = l + 1) (ws : IntKind.i64.wrap (s + 1) = s + 1) (wf : IntKind.i64.wrap (f + 1) = f + 1) (wg : IntKind.i64.wrap (f - 1) = f - 1) (ft : f.tmod 2 = f % 2)
    (hl : Hid (l' = if l < 65535 then l + 1 else l)) (hf : Hid (f' = if f % 2 = 0 then f + 1 else f - 1)) (hs : Hid (s' = if 2047 < s + 1 then 0 else s + 1)) :
    Calls Try.prog 61 #[HdV k dl l f s, I d] w fun e w' => e = .returned (HdV k D l' f' s') ∧ Below w.heap.size w w' := by
  by_cases h1 : l < 65535
  · have e1 : l' = l + 1 := by rw [hl.out, if_pos h1]
    subst e1
    by_cases h2 : 2047 < s + 1
    · have e2 : s' = 0 := by rw [hs.out, if_pos h2]
      subst e2
      by_cases h3 : f % 2 = 0
      · have e3 : f' = f + 1 := by rw [hf.out, if_pos h3]
        subst e3
        have h3' : (f.tmod 2 == 0) = true := by rw [ft, h3]; rfl
        clear hl hf hs h3 ft
        go_enter Try.func61, Try.ntmps61
        go_wp2_with fail
        refine (hI1 _).mono ?_
        rintro e w1 ⟨rfl, rfl⟩
        go_wp2_with fail
        refine (hI2 _).mono ?_
        rintro e w2 ⟨rfl, rfl⟩
        go_wp2
        exact ret_row Try.results61 rfl rfl (Blk.new (by simp)) Try.underlying27 rfl (by kernel_rfl) ⟨rfl, ((Below.refl _ _).alloc (Nat.le_refl _) _).alloc (by simp) _⟩
      · have e3 : f' = f - 1 := by rw [hf.out, if_neg h3]
        subst e3
        have h3' : (f.tmod 2 == 0) = false := by rw [ft]; simpa using h3
        clear hl hf hs h3 ft
        go_enter Try.func61, Try.ntmps61
        go_wp2_with fail
        refine (hI1 _).mono ?_
        rintro e w1 ⟨rfl, rfl⟩
        go_wp2_with fail
        refine (hI2 _).mono ?_
        rintro e w2 ⟨rfl, rfl⟩
        go_wp2
        exact ret_row Try.results61 rfl rfl (Blk.new (by simp)) Try.underlying27 rfl (by kernel_rfl) ⟨rfl, ((Below.refl _ _).alloc (Nat.le_refl _) _).alloc (by simp) _⟩
    · have e2 : s' = s + 1 := by rw [hs.out, if_neg h2]
      subst e2
      by_cases h3 : f % 2 = 0
      · have e3 : f' = f + 1 := by rw [hf.out, if_pos h3]
        subst e3
        have h3' : (f.tmod 2 == 0) = true := by rw [ft, h3]; rfl
        clear hl hf hs h3 ft
        go_enter Try.func61, Try.ntmps61
        go_wp2_with fail
        refine (hI1 _).mono ?_
        rintro e w1 ⟨rfl, rfl⟩
        go_wp2_with fail
        refine (hI2 _).mono ?_
        rintro e w2 ⟨rfl, rfl⟩
        go_wp2
        exact ret_row Try.results61 rfl rfl (Blk.new (by simp)) Try.underlying27 rfl (by kernel_rfl) ⟨rfl, ((Below.refl _ _).alloc (Nat.le_refl _) _).alloc (by simp) _⟩
      · have e3 : f' = f - 1 := by rw [hf.out, if_neg h3]
        subst e3
        have h3' : (f.tmod 2 == 0) = false := by rw [ft]; simpa using h3
        clear hl hf hs h3 ft
        go_enter Try.func61, Try.ntmps61
        go_wp2_with fail
        refine (hI1 _).mono ?_
        rintro e w1 ⟨rfl, rfl⟩
        go_wp2_with fail
        refine (hI2 _).mono ?_
        rintro e w2 ⟨rfl, rfl⟩
        go_wp2
        exact ret_row Try.results61 rfl rfl (Blk.new (by simp)) Try.underlying27 rfl (by kernel_rfl) ⟨rfl, ((Below.refl _ _).alloc (Nat.le_refl _) _).alloc (by simp) _⟩
  · have e1 : l' = l := by rw [hl.out, if_neg h1]
    subst e1
    by_cases h2 : 2047 < s + 1
    · have e2 : s' = 0 := by rw [hs.out, if_pos h2]
      subst e2
      by_cases h3 : f % 2 = 0
      · have e3 : f' = f + 1 := by rw [hf.out, if_pos h3]
        subst e3
        have h3' : (f.tmod 2 == 0) = true := by rw [ft, h3]; rfl
        clear hl hf hs h3 ft
        go_enter Try.func61, Try.ntmps61
        go_wp2_with fail
        refine (hI1 _).mono ?_
        rintro e w1 ⟨rfl, rfl⟩
        go_wp2_with fail
        refine (hI2 _).mono ?_
        rintro e w2 ⟨rfl, rfl⟩
        go_wp2
        exact ret_row Try.results61 rfl rfl (Blk.new (by simp)) Try.underlying27 rfl (by kernel_rfl) ⟨rfl, ((Below.refl _ _).alloc (Nat.le_refl _) _).alloc (by simp) _⟩
      · have e3 : f' = f - 1 := by rw [hf.out, if_neg h3]
        subst e3
        have h3' : (f.tmod 2 == 0) = false := by rw [ft]; simpa using h3
        clear hl hf hs h3 ft
        go_enter Try.func61, Try.ntmps61
        go_wp2_with fail
        refine (hI1 _).mono ?_
        rintro e w1 ⟨rfl, rfl⟩
        go_wp2_with fail
        refine (hI2 _).mono ?_
        rintro e w2 ⟨rfl, rfl⟩
        go_wp2
        exact ret_row Try.results61 rfl rfl (Blk.new (by simp)) Try.underlying27 rfl (by kernel_rfl) ⟨rfl, ((Below.refl _ _).alloc (Nat.le_refl _) _).alloc (by simp) _⟩
    · have e2 : s' = s + 1 := by rw [hs.out, if_neg h2]
      subst e2
      by_cases h3 : f % 2 = 0
      · have e3 : f' = f + 1 := by rw [hf.out, if_pos h3]
        subst e3
        have h3' : (f.tmod 2 == 0) = true := by rw [ft, h3]; rfl
        clear hl hf hs h3 ft
        go_enter Try.func61, Try.ntmps61
        go_wp2_with fail
        refine (hI1 _).mono ?_
        rintro e w1 ⟨rfl, rfl⟩
        go_wp2_with fail
        refine (hI2 _).mono ?_
        rintro e w2 ⟨rfl, rfl⟩
        go_wp2
        exact ret_row Try.results61 rfl rfl (Blk.new (by simp)) Try.underlying27 rfl (by kernel_rfl) ⟨rfl, ((Below.refl _ _).alloc (Nat.le_refl _) _).alloc (by simp) _⟩
      · have e3 : f' = f - 1 := by rw [hf.out, if_neg h3]
        subst e3
        have h3' : (f.tmod 2 == 0) = false := by rw [ft]; simpa using h3
        clear hl hf hs h3 ft
        go_enter Try.func61, Try.ntmps61
        go_wp2_with fail
        refine (hI1 _).mono ?_
        rintro e w1 ⟨rfl, rfl⟩
        go_wp2_with fail
        refine (hI2 _).mono ?_
        rintro e w2 ⟨rfl, rfl⟩
        go_wp2
        exact ret_row Try.results61 rfl rfl (Blk.new (by simp)) Try.underlying27 rfl (by kernel_rfl) ⟨rfl, ((Below.refl _ _).alloc (Nat.le_refl _) _).alloc (by simp) _⟩
theorem bumped_any (n : Nat) (d : Int) (w : World) : Calls Try.prog 61 #[UnV n, I d] w fun e w' => e = .returned (UnV (bumpN n d)) ∧ Below w.heap.size w w' := by
  obtain ⟨g0, g1, g2, g3, g4, g5, g6, g7, g8, g9⟩ := un_good n
  have hw : -32768 ≤ w16 d ∧ w16 d ≤ 32767 := by unfold w16; omega
  rw [bump_un]
  exact bumped_walk w _ _ _ _ _ d _ (w16 d) _ _ _ (into16 d) (into16 _) (wr64 _ (by omega) (by omega)) (wr64 _ (by omega) (by omega)) (wr64 _ (by omega) (by omega)) (wr64 _ (by omega) (by omega)) (wr64 _ (by omega) (by omega)) (Int.tmod_eq_emod_of_nonneg g6) rfl rfl rfl

/-! ### the ghost -/
def ghC (us : List Bool) (hs ds : List Int) (img : List UInt8) : Array Value := (us.map Value.bool ++ (hs.map I ++ (ds.map I ++ [S img]))).toArray
structure GhR (w : World) (g : Nat) (us : List Bool) (hs ds : List Int) (img : List UInt8) : Prop where
  head : Blk w g (ghC us hs ds img) 56
  l1 : us.length = 8
  l2 : hs.length = 40
  l3 : ds.length = 5
theorem ghC_u (us : List Bool) (hs ds : List Int) (img : List UInt8) (i : Nat) (hi : i < us.length) : (ghC us hs ds img)[i]? = some (.bool (us.getD i false)) := by
  unfold ghC
  rw [List.getElem?_toArray, List.getElem?_append_left (by simpa using hi), List.getElem?_map, List.getElem?_eq_getElem hi, List.getD_eq_getElem?_getD, List.getElem?_eq_getElem hi]
  rfl
theorem ghC_h (us : List Bool) (hs ds : List Int) (img : List UInt8) (l1 : us.length = 8) (j : Nat) (hj : j < hs.length) : (ghC us hs ds img)[8 + j]? = some (I (hs.getD j 0)) := by
  unfold ghC
  rw [List.getElem?_toArray, List.getElem?_append_right (by simp; omega), List.length_map, l1, show 8 + j - 8 = j from by omega, List.getElem?_append_left (by simpa using hj), List.getElem?_map, List.getElem?_eq_getElem hj, List.getD_eq_getElem?_getD, List.getElem?_eq_getElem hj]
  rfl
theorem ghC_d (us : List Bool) (hs ds : List Int) (img : List UInt8) (l1 : us.length = 8) (l2 : hs.length = 40) (j : Nat) (hj : j < ds.length) : (ghC us hs ds img)[48 + j]? = some (I (ds.getD j 0)) := by
  unfold ghC
  rw [List.getElem?_toArray, List.getElem?_append_right (by simp; omega), List.length_map, l1, List.getElem?_append_right (by simp; omega), List.length_map, l2, show 48 + j - 8 - 40 = j from by omega, List.getElem?_append_left (by simpa using hj), List.getElem?_map, List.getElem?_eq_getElem hj, List.getD_eq_getElem?_getD, List.getElem?_eq_getElem hj]
  rfl
theorem ghC_i (us : List Bool) (hs ds : List Int) (img : List UInt8) (l1 : us.length = 8) (l2 : hs.length = 40) (l3 : ds.length = 5) : (ghC us hs ds img)[53]? = some (S img) := by
  unfold ghC
  rw [List.getElem?_toArray, List.getElem?_append_right (by simp; omega), List.length_map, l1, List.getElem?_append_right (by simp; omega), List.length_map, l2, List.getElem?_append_right (by simp; omega), List.length_map, l3]
  rfl
theorem GhR.upd {bs : List Nat} {w w' : World} {g : Nat} {us : List Bool} {hs ds : List Int} {img : List UInt8} (h : GhR w g us hs ds img) (u : Upd bs w w') (hg : g ∉ bs) : GhR w' g us hs ds img := ⟨h.head.upd u hg, h.l1, h.l2, h.l3⟩
theorem GhR.later {w w' : World} {g : Nat} {us : List Bool} {hs ds : List Int} {img : List UInt8} (h : GhR w g us hs ds img) (u : Below w.heap.size w w') : GhR w' g us hs ds img := h.upd (Upd.of_below (bs := []) u) (by simp)
theorem GhR.desk {w : World} {g : Nat} {us : List Bool} {hs ds : List Int} {img : List UInt8} (h : GhR w g us hs ds img) : DeskR w g 48 (ds.getD 0 0) (ds.getD 1 0) (ds.getD 2 0) (ds.getD 3 0) (ds.getD 4 0) img :=
  ⟨_, _, h.head, ghC_d _ _ _ _ h.l1 h.l2 0 (by rw [h.l3]; omega), ghC_d _ _ _ _ h.l1 h.l2 1 (by rw [h.l3]; omega), ghC_d _ _ _ _ h.l1 h.l2 2 (by rw [h.l3]; omega), ghC_d _ _ _ _ h.l1 h.l2 3 (by rw [h.l3]; omega), ghC_d _ _ _ _ h.l1 h.l2 4 (by rw [h.l3]; omega), ghC_i _ _ _ _ h.l1 h.l2 h.l3⟩
/-- The ghost tells the store: who is in use, and each header. -/
def Tells (u : Nat) (ws : List Nat) (us : List Bool) (hs : List Int) : Prop := ∀ i, i < 8 → us.getD i false = u.testBit i ∧ (u.testBit i = true → hs.getD (5 * i) 0 = unK (ws.getD i 0) ∧ hs.getD (5 * i + 1) 0 = unD (ws.getD i 0) ∧ hs.getD (5 * i + 2) 0 = unL (ws.getD i 0) ∧ hs.getD (5 * i + 3) 0 = unF (ws.getD i 0) ∧ hs.getD (5 * i + 4) 0 = unS (ws.getD i 0))
theorem GhR.used {w : World} {g : Nat} {us : List Bool} {hs ds : List Int} {img : List UInt8} (h : GhR w g us hs ds img) {u : Nat} {ws : List Nat} (ht : Tells u ws us hs) (i : Nat) (hi : i < 8) : w.cell? ⟨g, i, none⟩ = some (.bool (u.testBit i)) := by
  rw [h.head.cell, ghC_u _ _ _ _ i (by rw [h.l1]; exact hi), (ht i hi).1]
theorem GhR.hdr {w : World} {g : Nat} {us : List Bool} {hs ds : List Int} {img : List UInt8} (h : GhR w g us hs ds img) {u : Nat} {ws : List Nat} (ht : Tells u ws us hs) (i : Nat) (hi : i < 8) (hb : u.testBit i = true) :
    w.cell? ⟨g, 8 + i * 5, none⟩ = some (I (unK (ws.getD i 0))) ∧ w.cell? ⟨g, 8 + i * 5 + 1, none⟩ = some (I (unD (ws.getD i 0))) ∧ w.cell? ⟨g, 8 + i * 5 + 2, none⟩ = some (I (unL (ws.getD i 0))) ∧ w.cell? ⟨g, 8 + i * 5 + 3, none⟩ = some (I (unF (ws.getD i 0))) ∧ w.cell? ⟨g, 8 + i * 5 + 4, none⟩ = some (I (unS (ws.getD i 0))) := by
  obtain ⟨-, t⟩ := ht i hi
  obtain ⟨t0, t1, t2, t3, t4⟩ := t hb
  have l2 := h.l2
  refine ⟨?_, ?_, ?_, ?_, ?_⟩
  · rw [h.head.cell, ghC_h _ _ _ _ h.l1 (i * 5) (by omega), Nat.mul_comm, t0]
  · rw [h.head.cell, show 8 + i * 5 + 1 = 8 + (5 * i + 1) from by omega, ghC_h _ _ _ _ h.l1 _ (by omega), t1]
  · rw [h.head.cell, show 8 + i * 5 + 2 = 8 + (5 * i + 2) from by omega, ghC_h _ _ _ _ h.l1 _ (by omega), t2]
  · rw [h.head.cell, show 8 + i * 5 + 3 = 8 + (5 * i + 3) from by omega, ghC_h _ _ _ _ h.l1 _ (by omega), t3]
  · rw [h.head.cell, show 8 + i * 5 + 4 = 8 + (5 * i + 4) from by omega, ghC_h _ _ _ _ h.l1 _ (by omega), t4]

set_option maxRecDepth 100000 in
set_option maxHeartbeats 2000000 in
theorem spelt_any (w : World) (g : Nat) (us : List Bool) (hs ds : List Int) (img : List UInt8) (h : GhR w g us hs ds img) (u : Nat) (ws : List Nat) (ht : Tells u ws us hs) : Calls Try.prog 46 #[ptr g] w fun e w' => e = .returned (S (showT u ws 8)) ∧ Below w.heap.size w w' := by
  go_enter Try.func46, Try.ntmps46
  go_wp2
  go_loopw [3, 4] (fun t i wr => ∃ k : Nat, k ≤ 8 ∧ t = S (showT u ws k) ∧ i = I k ∧ GhR wr g us hs ds img ∧ Below w.heap.size w wr) (fun _ i _ => (8 - intOf i).toNat)
  case atStart => exact ⟨0, by omega, rfl, rfl, h, Below.refl _ _⟩
  case round =>
    obtain ⟨k, hk, rfl, rfl, hr, br⟩ := hrel
    have hlen := showT_len u ws k hk
    rw [← str_size] at hlen
    have hlen' : (str (showT u ws k)).size ≤ 1120 := by omega
    clear hlen
    by_cases hlt : k < 8
    · have q1 : (k : Int) < 8 := by omega
      have c0 := hr.used ht k hlt
      have hstep : showT u ws (k + 1) = if u.testBit k then showT u ws k ++ recT k (ws.getD k 0) else showT u ws k := rfl
      cases hb : u.testBit k with
      | false =>
        rw [hb] at c0 hstep
        rw [if_neg (by simp)] at hstep
        have HS : Hid _ := hstep
        clear hstep
        go_wp2
        go_roundw
        case rel => exact ⟨k + 1, by omega, by rw [HS.out], by go_num, hr, br⟩
        case measure => simp [intOf]; omega
      | true =>
        have hhd := fun (W : World) (hW : GhR W g us hs ds img) => hW.hdr ht k hlt hb
        rw [hb] at c0 hstep
        rw [if_pos rfl] at hstep
        generalize ws.getD k 0 = n at *
        obtain ⟨b1, b2, b3, b4, b5⟩ := un_in64 n
        have hsl := shH_len _ _ _ _ _ b1 b2 b3 b4 b5
        rw [← str_size] at hsl
        have hil := itoa_len (k : Nat) (by omega) (by omega)
        rw [← str_size] at hil
        have HS : Hid _ := hstep
        clear hstep
        go_wp2_with fail
        refine (itoa_any (k : Nat) (by omega) (by omega) wr).mono ?_
        rintro e w4 ⟨rfl, d4⟩
        have h4 := hr.later d4
        have b4' := br.trans (d4.mono br.size)
        obtain ⟨o0, o1, o2, o3, o4⟩ := hhd _ h4
        clear c0 d4
        go_wp2_with fail
        refine (showH_any _ _ _ _ _ b1 b2 b3 b4 b5 w4).mono ?_
        rintro e w5 ⟨rfl, d5⟩
        have h5 := h4.later d5
        have b5' := b4'.trans (d5.mono b4'.size)
        clear o0 o1 o2 o3 o4 h4 b4' d5
        go_wp2
        go_roundw
        case rel =>
          refine ⟨k + 1, by omega, ?_, by go_num, h5, b5'⟩
          show Value.string (str (showT u ws k) ++ str (itoa (k : Nat)) ++ str [61] ++ str (shH (unK n) (unD n) (unL n) (unF n) (unS n)) ++ str [59]) = _
          rw [HS.out]
          simp only [str_append, recT, List.append_assoc]
        case measure => simp [intOf]; omega
    · obtain rfl : k = 8 := by omega
      go_wp2
      go_ret
      exact ⟨rfl, br⟩
end Go.Proofs.Qxb6500468a
