import Derived.Test.Qxb6500468aPk15
namespace Go.Proofs.Qxb6500468a
open Go.RowKit

/-! ### the model's store -/
def moC (us : List Bool) (hs : List Int) : Array Value := (us.map Value.bool ++ hs.map I).toArray
structure MoR (w : World) (m : Nat) (us : List Bool) (hs : List Int) : Prop where
  head : Blk w m (moC us hs) 96
  l1 : us.length = 8
  l2 : hs.length = 40
theorem moC_u (us : List Bool) (hs : List Int) (i : Nat) (hi : i < us.length) : (moC us hs)[i]? = some (.bool (us.getD i false)) := by
  unfold moC
  rw [List.getElem?_toArray, List.getElem?_append_left (by simpa using hi), List.getElem?_map, List.getElem?_eq_getElem hi, List.getD_eq_getElem?_getD, List.getElem?_eq_getElem hi]
  rfl
theorem moC_h (us : List Bool) (hs : List Int) (l1 : us.length = 8) (j : Nat) (hj : j < hs.length) : (moC us hs)[8 + j]? = some (I (hs.getD j 0)) := by
  unfold moC
  rw [List.getElem?_toArray, List.getElem?_append_right (by simp; omega), List.length_map, l1, show 8 + j - 8 = j from by omega, List.getElem?_map, List.getElem?_eq_getElem hj, List.getD_eq_getElem?_getD, List.getElem?_eq_getElem hj]
  rfl
theorem MoR.upd {bs : List Nat} {w w' : World} {g : Nat} {us : List Bool} {hs : List Int} (h : MoR w g us hs) (u : Upd bs w w') (hg : g ∉ bs) : MoR w' g us hs := ⟨h.head.upd u hg, h.l1, h.l2⟩
theorem MoR.later {w w' : World} {g : Nat} {us : List Bool} {hs : List Int} (h : MoR w g us hs) (u : Below w.heap.size w w') : MoR w' g us hs := h.upd (Upd.of_below (bs := []) u) (by simp)
theorem MoR.used {w : World} {g : Nat} {us : List Bool} {hs : List Int} (h : MoR w g us hs) {u : Nat} {ws : List Nat} (ht : Tells u ws us hs) (i : Nat) (hi : i < 8) : w.cell? ⟨g, i, none⟩ = some (.bool (u.testBit i)) := by
  rw [h.head.cell, moC_u _ _ i (by rw [h.l1]; exact hi), (ht i hi).1]
theorem MoR.cellh {w : World} {g : Nat} {us : List Bool} {hs : List Int} (h : MoR w g us hs) (i : Nat) (hi : i < 8) :
    w.cell? ⟨g, 8 + i * 5, none⟩ = some (I (hs.getD (i * 5) 0)) ∧ w.cell? ⟨g, 8 + i * 5 + 1, none⟩ = some (I (hs.getD (i * 5 + 1) 0)) ∧ w.cell? ⟨g, 8 + i * 5 + 2, none⟩ = some (I (hs.getD (i * 5 + 2) 0)) ∧ w.cell? ⟨g, 8 + i * 5 + 3, none⟩ = some (I (hs.getD (i * 5 + 3) 0)) ∧ w.cell? ⟨g, 8 + i * 5 + 4, none⟩ = some (I (hs.getD (i * 5 + 4) 0)) := by
  have l2 := h.l2
  exact ⟨(h.head.cell _).trans (moC_h _ _ h.l1 (i * 5) (by omega)), (h.head.cell _).trans (moC_h _ _ h.l1 (i * 5 + 1) (by omega)), (h.head.cell _).trans (moC_h _ _ h.l1 (i * 5 + 2) (by omega)), (h.head.cell _).trans (moC_h _ _ h.l1 (i * 5 + 3) (by omega)), (h.head.cell _).trans (moC_h _ _ h.l1 (i * 5 + 4) (by omega))⟩
theorem MoR.hdr {w : World} {g : Nat} {us : List Bool} {hs : List Int} (h : MoR w g us hs) {u : Nat} {ws : List Nat} (ht : Tells u ws us hs) (i : Nat) (hi : i < 8) (hb : u.testBit i = true) :
    w.cell? ⟨g, 8 + i * 5, none⟩ = some (I (unK (ws.getD i 0))) ∧ w.cell? ⟨g, 8 + i * 5 + 1, none⟩ = some (I (unD (ws.getD i 0))) ∧ w.cell? ⟨g, 8 + i * 5 + 2, none⟩ = some (I (unL (ws.getD i 0))) ∧ w.cell? ⟨g, 8 + i * 5 + 3, none⟩ = some (I (unF (ws.getD i 0))) ∧ w.cell? ⟨g, 8 + i * 5 + 4, none⟩ = some (I (unS (ws.getD i 0))) := by
  obtain ⟨-, t⟩ := ht i hi
  obtain ⟨t0, t1, t2, t3, t4⟩ := t hb
  obtain ⟨c0, c1, c2, c3, c4⟩ := h.cellh i hi
  rw [Nat.mul_comm] at t0 t1 t2 t3 t4
  rw [t0] at c0
  rw [t1] at c1
  rw [t2] at c2
  rw [t3] at c3
  rw [t4] at c4
  exact ⟨c0, c1, c2, c3, c4⟩
theorem moC_setu (us : List Bool) (hs : List Int) (i : Nat) (v : Bool) (hi : i < us.length) : (moC us hs).setIfInBounds i (.bool v) = moC (us.set i v) hs := by
  unfold moC
  rw [List.setIfInBounds_toArray, List.set_append_left _ _ (by simpa using hi), List.map_set]
theorem moC_seth (us : List Bool) (hs : List Int) (l1 : us.length = 8) (j : Nat) (v : Int) : (moC us hs).setIfInBounds (8 + j) (I v) = moC us (hs.set j v) := by
  unfold moC
  rw [List.setIfInBounds_toArray, List.set_append_right _ _ (by simp; omega), List.length_map, l1, show 8 + j - 8 = j from by omega, List.map_set]
theorem MoR.setu {w : World} {g : Nat} {us : List Bool} {hs : List Int} (h : MoR w g us hs) (i : Nat) (v : Bool) (hi : i < 8) : MoR (w.setCell ⟨g, i, none⟩ (.bool v)) g (us.set i v) hs := by
  have := h.head.set (i := i) (.bool v)
  rw [moC_setu _ _ _ _ (by rw [h.l1]; exact hi)] at this
  exact ⟨this, by simp [h.l1], h.l2⟩
theorem MoR.seth {w : World} {g : Nat} {us : List Bool} {hs : List Int} (h : MoR w g us hs) (j : Nat) (v : Int) : MoR (w.setCell ⟨g, 8 + j, none⟩ (I v)) g us (hs.set j v) := by
  have := h.head.set (i := 8 + j) (I v)
  rw [moC_seth _ _ h.l1 _ _] at this
  exact ⟨this, h.l1, by simp [h.l2]⟩
theorem MoR.lay {w : World} {g : Nat} {us : List Bool} {hs : List Int} (h : MoR w g us hs) (i : Nat) (k d l f s : Int) :
    MoR (((((w.setCell ⟨g, 8 + i * 5, none⟩ (I k)).setCell ⟨g, 8 + i * 5 + 1, none⟩ (I d)).setCell ⟨g, 8 + i * 5 + 2, none⟩ (I l)).setCell ⟨g, 8 + i * 5 + 3, none⟩ (I f)).setCell ⟨g, 8 + i * 5 + 4, none⟩ (I s)) g us (hset hs i k d l f s) :=
  ((((h.seth (i * 5) k).seth (i * 5 + 1) d).seth (i * 5 + 2) l).seth (i * 5 + 3) f).seth (i * 5 + 4) s

def f8 : List Bool := [false, false, false, false, false, false, false, false]
def z40 : List Int := List.replicate 40 0
theorem tells0 (hs : List Int) : Tells 0 [0, 0, 0, 0, 0, 0, 0, 0] f8 hs := by
  intro i hi
  refine ⟨?_, fun e => by rw [Nat.zero_testBit] at e; cases e⟩
  rw [Nat.zero_testBit]
  match i, hi with
  | 0, _ => rfl
  | 1, _ => rfl
  | 2, _ => rfl
  | 3, _ => rfl
  | 4, _ => rfl
  | 5, _ => rfl
  | 6, _ => rfl
  | 7, _ => rfl
set_option maxHeartbeats 1000000 in
set_option maxRecDepth 100000 in
theorem mNew_any (w : World) : Calls Try.prog 47 #[] w fun e w' => e = .returned (ptr w.heap.size) ∧ MoR w' w.heap.size f8 z40 ∧ Below w.heap.size w w' := by
  go_enter Try.func47, Try.ntmps47
  go_wp2
  go_ret
  exact ⟨rfl, ⟨Blk.new rfl, rfl, rfl⟩, (Below.refl _ _).alloc (Nat.le_refl _) _⟩

set_option maxHeartbeats 1000000 in
theorem mat_any (w : World) (m : Nat) (us : List Bool) (hs : List Int) (h : MoR w m us hs) (u : Nat) (ws : List Nat) (ht : Tells u ws us hs) (slot : Int) : Calls Try.prog 75 #[ptr m, I slot] w fun e w' => e = .returned (I (atF u slot)) ∧ w' = w := by
  unfold atF
  by_cases h1 : slot < 0
  · rw [if_pos (.inl h1)]
    go_enter Try.func75, Try.ntmps75
    go_wp2
    go_ret
    exact ⟨rfl, rfl⟩
  · by_cases h2 : 8 ≤ slot
    · rw [if_pos (.inr h2)]
      go_enter Try.func75, Try.ntmps75
      go_wp2
      go_ret
      exact ⟨rfl, rfl⟩
    · rw [if_neg (by omega)]
      obtain ⟨i, rfl⟩ := Int.eq_ofNat_of_zero_le (show 0 ≤ slot by omega)
      rw [Int.toNat_natCast]
      have c0 := h.used ht i (by omega)
      have hi : (i : Int) < 8 := by omega
      cases hb : u.testBit i with
      | true =>
        rw [hb] at c0
        rw [if_pos rfl]
        go_enter Try.func75, Try.ntmps75
        go_wp2
        go_ret
        exact ⟨rfl, rfl⟩
      | false =>
        rw [hb] at c0
        rw [if_neg (by simp)]
        go_enter Try.func75, Try.ntmps75
        go_wp2
        go_ret
        exact ⟨rfl, rfl⟩

set_option maxHeartbeats 1000000 in
theorem mget_any (w : World) (m : Nat) (us : List Bool) (hs : List Int) (h : MoR w m us hs) (u : Nat) (ws : List Nat) (ht : Tells u ws us hs) (slot : Int) : Calls Try.prog 64 #[ptr m, I slot] w fun e w' => e = .returned (.tuple #[UnV (getE u ws slot), I (atF u slot)]) ∧ Below w.heap.size w w' := by
  unfold getE
  have b0 := (Below.refl w.heap.size w).alloc (Nat.le_refl _) (.cells #[I 0, I 0, I 0, I 0, I 0] 27)
  have B0 : Blk (w.alloc (.cells #[I 0, I 0, I 0, I 0, I 0] 27)) w.heap.size #[I 0, I 0, I 0, I 0, I 0] 27 := Blk.new rfl
  have h0 := h.later b0
  have hA := mat_any _ m us hs h0 u ws ht slot
  rcases atF_cases u slot with ⟨e0, s0, s1, hb⟩ | ⟨e0, -⟩
  · obtain ⟨i, rfl⟩ := Int.eq_ofNat_of_zero_le s0
    rw [if_pos e0, Int.toNat_natCast]
    rw [e0] at hA ⊢
    have hi : i < 8 := by omega
    rw [Int.toNat_natCast] at hb
    obtain ⟨p0, p1, p2, p3, p4⟩ := h0.hdr ht i hi hb
    clear e0 hb
    generalize ws.getD i 0 = n at *
    go_enter Try.func64, Try.ntmps64
    go_wp2_with fail
    generalize w.alloc (.cells #[I 0, I 0, I 0, I 0, I 0] 27) = v0 at *
    refine hA.mono ?_
    rintro e w1 ⟨rfl, rfl⟩
    obtain ⟨o0, o1, o2⟩ := B0.facts
    go_wp2
    have B3 := ((((B0.set (i := 0) (I (unK n))).set (i := 1) (I (unD n))).set (i := 2) (I (unL n))).set (i := 3) (I (unF n))).set (i := 4) (I (unS n))
    exact ret_row2 Try.results64 rfl rfl rfl B3 Try.underlying27 rfl (by kernel_rfl) ⟨rfl, ((((b0.setCell (Nat.le_refl _) _).setCell (Nat.le_refl _) _).setCell (Nat.le_refl _) _).setCell (Nat.le_refl _) _).setCell (Nat.le_refl _) _⟩
  · rw [if_neg e0, un_zero]
    have e1 : (atF u slot != 0) = true := by simpa using e0
    generalize atF u slot = a at *
    go_enter Try.func64, Try.ntmps64
    go_wp2_with fail
    generalize w.alloc (.cells #[I 0, I 0, I 0, I 0, I 0] 27) = v0 at *
    refine hA.mono ?_
    rintro e w1 ⟨rfl, rfl⟩
    obtain ⟨o0, o1, o2⟩ := B0.facts
    go_wp2
    have B3 := ((((B0.set (i := 0) (I 0)).set (i := 1) (I 0)).set (i := 2) (I 0)).set (i := 3) (I 0)).set (i := 4) (I 0)
    exact ret_row2 Try.results64 rfl rfl rfl B3 Try.underlying27 rfl (by kernel_rfl) ⟨rfl, ((((b0.setCell (Nat.le_refl _) _).setCell (Nat.le_refl _) _).setCell (Nat.le_refl _) _).setCell (Nat.le_refl _) _).setCell (Nat.le_refl _) _⟩

/-- How many of the first k are in use. -/
def popT (u : Nat) : Nat → Nat
  | 0 => 0
  | k + 1 => if u.testBit k then popT u k + 1 else popT u k
theorem popT_le (u : Nat) : ∀ k, popT u k ≤ k
  | 0 => Nat.le_refl _
  | k + 1 => by
    have := popT_le u k
    unfold popT
    split <;> omega
theorem popT_fin : ∀ u, u < 256 → popT u 8 = popB u := by decide +kernel
set_option maxRecDepth 100000 in
set_option maxHeartbeats 2000000 in
theorem mlen_any (w : World) (m : Nat) (us : List Bool) (hs : List Int) (h : MoR w m us hs) (u : Nat) (ws : List Nat) (ht : Tells u ws us hs) (hu : u < 256) : Calls Try.prog 67 #[ptr m] w fun e w' => e = .returned (I (popB u : Nat)) ∧ Below w.heap.size w w' := by
  have hp := popT_fin u hu
  rw [← hp]
  clear hp hu
  go_enter Try.func67, Try.ntmps67
  go_wp2
  go_loopw [3, 4] (fun t i wr => ∃ k : Nat, k ≤ 8 ∧ t = I (popT u k : Nat) ∧ i = I k ∧ wr = w) (fun _ i _ => (8 - intOf i).toNat)
  case atStart => exact ⟨0, by omega, rfl, rfl, rfl⟩
  case round =>
    obtain ⟨k, hk, rfl, rfl, rfl⟩ := hrel
    have hle := popT_le u k
    by_cases hlt : k < 8
    · have q1 : (k : Int) < 8 := by omega
      have c0 := h.used ht k hlt
      have hstep : popT u (k + 1) = if u.testBit k then popT u k + 1 else popT u k := rfl
      cases hb : u.testBit k with
      | false =>
        rw [hb] at c0 hstep
        rw [if_neg (by simp)] at hstep
        have HS : Hid _ := hstep
        clear hstep
        go_wp2
        go_roundw
        case rel => exact ⟨k + 1, by omega, by rw [HS.out], by go_num, trivial⟩
        case measure => simp [intOf]; omega
      | true =>
        rw [hb] at c0 hstep
        rw [if_pos rfl] at hstep
        have HS : Hid _ := hstep
        clear hstep
        have q2 := wr64 ((popT u k : Int) + 1) (by omega) (by omega)
        go_wp2
        go_roundw
        case rel => exact ⟨k + 1, by omega, by rw [HS.out]; go_num, by go_num, trivial⟩
        case measure => simp [intOf]; omega
    · obtain rfl : k = 8 := by omega
      go_wp2
      go_ret
      exact ⟨rfl, Below.refl _ _⟩

set_option maxRecDepth 100000 in
set_option maxHeartbeats 2000000 in
theorem mshow_any (w : World) (g : Nat) (us : List Bool) (hs : List Int) (h : MoR w g us hs) (u : Nat) (ws : List Nat) (ht : Tells u ws us hs) : Calls Try.prog 50 #[ptr g] w fun e w' => e = .returned (S (showT u ws 8)) ∧ Below w.heap.size w w' := by
  go_enter Try.func50, Try.ntmps50
  go_wp2
  go_loopw [3, 4] (fun t i wr => ∃ k : Nat, k ≤ 8 ∧ t = S (showT u ws k) ∧ i = I k ∧ MoR wr g us hs ∧ Below w.heap.size w wr) (fun _ i _ => (8 - intOf i).toNat)
  case atStart => exact ⟨0, by omega, rfl, rfl, h, Below.refl _ _⟩
  case round =>
    obtain ⟨k, hk, rfl, rfl, hr, br⟩ := hrel
    have hlen := showT_len u ws k hk
    rw [← str_size] at hlen
    have hlen' : (str (showT u ws k)).size ≤ 1120 := by omega
    clear hlen
    by_cases hlt : k < 8
    · have q1 : (k : Int) < 8 := by omega
      have c0 := hr.used ht k hlt
      have hstep : showT u ws (k + 1) = if u.testBit k then showT u ws k ++ recT k (ws.getD k 0) else showT u ws k := rfl
      cases hb : u.testBit k with
      | false =>
        rw [hb] at c0 hstep
        rw [if_neg (by simp)] at hstep
        have HS : Hid _ := hstep
        clear hstep
        go_wp2
        go_roundw
        case rel => exact ⟨k + 1, by omega, by rw [HS.out], by go_num, hr, br⟩
        case measure => simp [intOf]; omega
      | true =>
        have hhd := fun (W : World) (hW : MoR W g us hs) => hW.hdr ht k hlt hb
        rw [hb] at c0 hstep
        rw [if_pos rfl] at hstep
        generalize ws.getD k 0 = n at *
        obtain ⟨b1, b2, b3, b4, b5⟩ := un_in64 n
        have hsl := shH_len _ _ _ _ _ b1 b2 b3 b4 b5
        rw [← str_size] at hsl
        have hil := itoa_len (k : Nat) (by omega) (by omega)
        rw [← str_size] at hil
        have HS : Hid _ := hstep
        clear hstep
        go_wp2_with fail
        refine (itoa_any (k : Nat) (by omega) (by omega) wr).mono ?_
        rintro e w4 ⟨rfl, d4⟩
        have h4 := hr.later d4
        have b4' := br.trans (d4.mono br.size)
        obtain ⟨o0, o1, o2, o3, o4⟩ := hhd _ h4
        clear c0 d4
        go_wp2_with fail
        refine (showH_any _ _ _ _ _ b1 b2 b3 b4 b5 w4).mono ?_
        rintro e w5 ⟨rfl, d5⟩
        have h5 := h4.later d5
        have b5' := b4'.trans (d5.mono b4'.size)
        clear o0 o1 o2 o3 o4 h4 b4' d5
        go_wp2
        go_roundw
        case rel =>
          refine ⟨k + 1, by omega, ?_, by go_num, h5, b5'⟩
          show Value.string (str (showT u ws k) ++ str (itoa (k : Nat)) ++ str [61] ++ str (shH (unK n) (unD n) (unL n) (unF n) (unS n)) ++ str [59]) = _
          rw [HS.out]
          simp only [str_append, recT, List.append_assoc]
        case measure => simp [intOf]; omega
    · obtain rfl : k = 8 := by omega
      go_wp2
      go_ret
      exact ⟨rfl, br⟩
end Go.Proofs.Qxb6500468a
