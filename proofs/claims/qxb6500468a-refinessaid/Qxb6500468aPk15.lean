import Derived.Test.Qxb6500468aPk14
import Derived.BigRegion
namespace Go.Proofs.Qxb6500468a
open Go.RowKit

theorem ghC_setu (us : List Bool) (hs ds : List Int) (img : List UInt8) (i : Nat) (v : Bool) (hi : i < us.length) : (ghC us hs ds img).setIfInBounds i (.bool v) = ghC (us.set i v) hs ds img := by
  unfold ghC
  rw [List.setIfInBounds_toArray, List.set_append_left _ _ (by simpa using hi), List.map_set]
theorem ghC_seth (us : List Bool) (hs ds : List Int) (img : List UInt8) (l1 : us.length = 8) (j : Nat) (v : Int) (hj : j < hs.length) : (ghC us hs ds img).setIfInBounds (8 + j) (I v) = ghC us (hs.set j v) ds img := by
  unfold ghC
  rw [List.setIfInBounds_toArray, List.set_append_right _ _ (by simp; omega), List.length_map, l1, show 8 + j - 8 = j from by omega, List.set_append_left _ _ (by simpa using hj), List.map_set]
theorem ghC_setd (us : List Bool) (hs ds : List Int) (img : List UInt8) (l1 : us.length = 8) (l2 : hs.length = 40) (j : Nat) (v : Int) (hj : j < ds.length) : (ghC us hs ds img).setIfInBounds (48 + j) (I v) = ghC us hs (ds.set j v) img := by
  unfold ghC
  rw [List.setIfInBounds_toArray, List.set_append_right _ _ (by simp; omega), List.length_map, l1, List.set_append_right _ _ (by simp; omega), List.length_map, l2, show 48 + j - 8 - 40 = j from by omega, List.set_append_left _ _ (by simpa using hj), List.map_set]
theorem ghC_seti (us : List Bool) (hs ds : List Int) (img s : List UInt8) (l1 : us.length = 8) (l2 : hs.length = 40) (l3 : ds.length = 5) : (ghC us hs ds img).setIfInBounds 53 (S s) = ghC us hs ds s := by
  unfold ghC
  rw [List.setIfInBounds_toArray, List.set_append_right _ _ (by simp; omega), List.length_map, l1, List.set_append_right _ _ (by simp; omega), List.length_map, l2, List.set_append_right _ _ (by simp; omega), List.length_map, l3]
  rfl
theorem GhR.setu {w : World} {g : Nat} {us : List Bool} {hs ds : List Int} {img : List UInt8} (h : GhR w g us hs ds img) (i : Nat) (v : Bool) (hi : i < 8) : GhR (w.setCell ⟨g, i, none⟩ (.bool v)) g (us.set i v) hs ds img := by
  have := h.head.set (i := i) (.bool v)
  rw [ghC_setu _ _ _ _ _ _ (by rw [h.l1]; exact hi)] at this
  exact ⟨this, by simp [h.l1], h.l2, h.l3⟩
theorem GhR.seth {w : World} {g : Nat} {us : List Bool} {hs ds : List Int} {img : List UInt8} (h : GhR w g us hs ds img) (j : Nat) (v : Int) (hj : j < 40) : GhR (w.setCell ⟨g, 8 + j, none⟩ (I v)) g us (hs.set j v) ds img := by
  have := h.head.set (i := 8 + j) (I v)
  rw [ghC_seth _ _ _ _ h.l1 _ _ (by rw [h.l2]; exact hj)] at this
  exact ⟨this, h.l1, by simp [h.l2], h.l3⟩
theorem GhR.setd {w : World} {g : Nat} {us : List Bool} {hs ds : List Int} {img : List UInt8} (h : GhR w g us hs ds img) (j : Nat) (v : Int) (hj : j < 5) : GhR (w.setCell ⟨g, 48 + j, none⟩ (I v)) g us hs (ds.set j v) img := by
  have := h.head.set (i := 48 + j) (I v)
  rw [ghC_setd _ _ _ _ h.l1 h.l2 _ _ (by rw [h.l3]; exact hj)] at this
  exact ⟨this, h.l1, h.l2, by simp [h.l3]⟩
theorem GhR.seti {w : World} {g : Nat} {us : List Bool} {hs ds : List Int} {img : List UInt8} (h : GhR w g us hs ds img) (s : List UInt8) : GhR (w.setCell ⟨g, 53, none⟩ (S s)) g us hs ds s := by
  have := h.head.set (i := 53) (S s)
  rw [ghC_seti _ _ _ _ _ h.l1 h.l2 h.l3] at this
  exact ⟨this, h.l1, h.l2, h.l3⟩
/-- A header is laid into slot i of the ghost. -/
def hset (hs : List Int) (i : Nat) (k d l f s : Int) : List Int := ((((hs.set (i * 5) k).set (i * 5 + 1) d).set (i * 5 + 2) l).set (i * 5 + 3) f).set (i * 5 + 4) s
theorem GhR.lay {w : World} {g : Nat} {us : List Bool} {hs ds : List Int} {img : List UInt8} (h : GhR w g us hs ds img) (i : Nat) (hi : i < 8) (k d l f s : Int) :
    GhR (((((w.setCell ⟨g, 8 + i * 5, none⟩ (I k)).setCell ⟨g, 8 + i * 5 + 1, none⟩ (I d)).setCell ⟨g, 8 + i * 5 + 2, none⟩ (I l)).setCell ⟨g, 8 + i * 5 + 3, none⟩ (I f)).setCell ⟨g, 8 + i * 5 + 4, none⟩ (I s)) g us (hset hs i k d l f s) ds img :=
  ((((h.seth (i * 5) k (by omega)).seth (i * 5 + 1) d (by omega)).seth (i * 5 + 2) l (by omega)).seth (i * 5 + 3) f (by omega)).seth (i * 5 + 4) s (by omega)
theorem getI_set (l : List Int) (i : Nat) (v : Int) (j : Nat) (hi : i < l.length) : (l.set i v).getD j 0 = if i = j then v else l.getD j 0 := by
  rw [List.getD_eq_getElem?_getD, List.getElem?_set, List.getD_eq_getElem?_getD]
  by_cases e : i = j
  · rw [if_pos e, if_pos hi, if_pos e]; rfl
  · rw [if_neg e, if_neg e]
theorem hset_at (hs : List Int) (l2 : hs.length = 40) (i : Nat) (hi : i < 8) (k d l f s : Int) (j c : Nat) (hc : c < 5) : (hset hs i k d l f s).getD (5 * j + c) 0 = if i = j then (if c = 0 then k else if c = 1 then d else if c = 2 then l else if c = 3 then f else s) else hs.getD (5 * j + c) 0 := by
  unfold hset
  rw [getI_set _ _ _ _ (by simp; omega), getI_set _ _ _ _ (by simp; omega), getI_set _ _ _ _ (by simp; omega), getI_set _ _ _ _ (by simp; omega), getI_set _ _ _ _ (by omega)]
  by_cases e : i = j
  · subst e
    rw [if_pos rfl]
    have : c = 0 ∨ c = 1 ∨ c = 2 ∨ c = 3 ∨ c = 4 := by omega
    rcases this with rfl | rfl | rfl | rfl | rfl
    · rw [if_neg (by omega), if_neg (by omega), if_neg (by omega), if_neg (by omega), if_pos (by omega)]; rfl
    · rw [if_neg (by omega), if_neg (by omega), if_neg (by omega), if_pos (by omega)]; rfl
    · rw [if_neg (by omega), if_neg (by omega), if_pos (by omega)]; rfl
    · rw [if_neg (by omega), if_pos (by omega)]; rfl
    · rw [if_pos (by omega)]; rfl
  · rw [if_neg e, if_neg (by omega), if_neg (by omega), if_neg (by omega), if_neg (by omega), if_neg (by omega)]
theorem getB_set (l : List Bool) (i : Nat) (v : Bool) (j : Nat) (hi : i < l.length) : (l.set i v).getD j false = if i = j then v else l.getD j false := by
  rw [List.getD_eq_getElem?_getD, List.getElem?_set, List.getD_eq_getElem?_getD]
  by_cases e : i = j
  · rw [if_pos e, if_pos hi, if_pos e]; rfl
  · rw [if_neg e, if_neg e]
theorem Tells.put {u : Nat} {ws : List Nat} {us : List Bool} {hs : List Int} (h : Tells u ws us hs) (hu : u < 256) (lw : ws.length = 8) (l1 : us.length = 8) (l2 : hs.length = 40) (i n : Nat) (hi : i < 8) : Tells (u ||| 2 ^ i) (ws.set i n) (us.set i true) (hset hs i (unK n) (unD n) (unL n) (unF n) (unS n)) := by
  intro j hj
  obtain ⟨-, q⟩ := bit_add u hu i hi
  obtain ⟨t1, t2⟩ := h j hj
  rw [q j hj, getB_set _ _ _ _ (by omega), getD_set _ _ _ _ (by omega)]
  have H := fun c hc => hset_at hs l2 i hi (unK n) (unD n) (unL n) (unF n) (unS n) j c hc
  have H0 := H 0 (by omega)
  rw [Nat.add_zero] at H0
  rw [H0, H 1 (by omega), H 2 (by omega), H 3 (by omega), H 4 (by omega)]
  by_cases e : i = j
  · simp only [if_pos e]
    refine ⟨by simp [e], fun _ => ⟨rfl, rfl, rfl, rfl, rfl⟩⟩
  · simp only [if_neg e]
    refine ⟨by rw [t1]; simp [e], fun hb => t2 (by simpa [e] using hb)⟩
theorem Tells.drop {u : Nat} {ws : List Nat} {us : List Bool} {hs : List Int} (h : Tells u ws us hs) (hu : u < 256) (lw : ws.length = 8) (l1 : us.length = 8) (i : Nat) (hi : i < 8) : Tells (rmB u i) (ws.set i 0) (us.set i false) hs := by
  intro j hj
  obtain ⟨-, q⟩ := bit_rm u hu i hi
  obtain ⟨t1, t2⟩ := h j hj
  rw [q j hj, getB_set _ _ _ _ (by omega), getD_set _ _ _ _ (by omega)]
  by_cases e : i = j
  · rw [if_pos e]
    exact ⟨by simp [e], fun hb => by simp [e] at hb⟩
  · rw [if_neg e, if_neg e]
    exact ⟨by rw [t1]; simp [e], fun hb => t2 (by simpa [e] using hb)⟩
theorem Tells.turn {u : Nat} {ws : List Nat} {us : List Bool} {hs : List Int} (h : Tells u ws us hs) (lw : ws.length = 8) (l2 : hs.length = 40) (i n : Nat) (hi : i < 8) : Tells u (ws.set i n) us (hset hs i (unK n) (unD n) (unL n) (unF n) (unS n)) := by
  intro j hj
  obtain ⟨t1, t2⟩ := h j hj
  rw [getD_set _ _ _ _ (by omega)]
  have H := fun c hc => hset_at hs l2 i hi (unK n) (unD n) (unL n) (unF n) (unS n) j c hc
  have H0 := H 0 (by omega)
  rw [Nat.add_zero] at H0
  rw [H0, H 1 (by omega), H 2 (by omega), H 3 (by omega), H 4 (by omega)]
  by_cases e : i = j
  · simp only [if_pos e]
    exact ⟨t1, fun _ => ⟨rfl, rfl, rfl, rfl, rfl⟩⟩
  · simp only [if_neg e]
    exact ⟨t1, t2⟩

/-! ### Note -/
def noteD (K A B C : Int) (ds : List Int) : List Int := if K = 2 then ((ds.set 0 A).set 1 B).set 2 C else if K = 3 then (ds.set 3 A).set 4 B else ds
def noteI (K : Int) (T img : List UInt8) : List UInt8 := if K = 9 ∧ T.length ≤ 64 then T else img
set_option maxRecDepth 100000 in
set_option maxHeartbeats 4000000 in
theorem note_any (w : World) (g : Nat) (us : List Bool) (hs ds : List Int) (img : List UInt8) (h : GhR w g us hs ds img) (K A B C : Int) (s t : ByteArray) (E N : Int) (T : List UInt8) :
    Calls Try.prog 20 #[.pointer (some ⟨g, 48, none⟩), OpV K A B C s t, AnsV E N T] w fun e w' => e = .returned (.tuple #[]) ∧ GhR w' g us hs (noteD K A B C ds) (noteI K T img) ∧ Upd [g] w w' := by
  obtain ⟨d0, d1, d2, d3, d4, d5, ld⟩ := h.desk.cells
  have f := h.head.frozen
  have b0 := ((Below.refl w.heap.size w).alloc (Nat.le_refl _) (.cells #[I K, I A, I B, I C, .string s, .string t] 38)).alloc (by simp) (.cells #[I E, I N, I 0, S T] 42)
  have hz1 : g ≠ w.heap.size := by omega
  have hz2 : g ≠ w.heap.size + 1 := by omega
  have HH : Hid _ := h
  unfold noteD noteI
  by_cases k2 : K = 2
  · subst k2
    rw [if_pos rfl, if_neg (by simp)]
    clear h
    go_enter Try.func20, Try.ntmps20
    go_wp2_with fail
    go_region
    go_wp2
    go_end0
    exact ⟨rfl, (((HH.out.setd 0 A (by omega)).setd 1 B (by omega)).setd 2 C (by omega)).later (((Below.refl _ _).alloc (Nat.le_refl _) _).alloc (by simp) _).drew, ((((((Upd.refl _ _).setCell (by simp) _).setCell (by simp) _).setCell (by simp) _).alloc _).alloc _).drew⟩
  · have e2 : (K == 2) = false := by simpa using k2
    rw [if_neg k2]
    by_cases k3 : K = 3
    · subst k3
      rw [if_pos rfl, if_neg (by simp)]
      clear h k2 e2
      go_enter Try.func20, Try.ntmps20
      go_wp2_with fail
      go_region
      go_wp2
      go_end0
      exact ⟨rfl, ((HH.out.setd 3 A (by omega)).setd 4 B (by omega)).later (((Below.refl _ _).alloc (Nat.le_refl _) _).alloc (by simp) _).drew, (((((Upd.refl _ _).setCell (by simp) _).setCell (by simp) _).alloc _).alloc _).drew⟩
    · have e3 : (K == 3) = false := by simpa using k3
      rw [if_neg k3]
      by_cases k9 : K = 9
      · subst k9
        by_cases hl : T.length ≤ 64
        · rw [if_pos ⟨rfl, hl⟩]
          have hl' : ((str T).size : Int) ≤ 64 := by rw [str_size]; omega
          have hl2 : (T.length : Int) ≤ 64 := by omega
          have hz := str_size T
          clear h k2 k3 e2 e3
          go_enter Try.func20, Try.ntmps20
          go_wp2
          go_end0
          exact ⟨rfl, (HH.out.seti T).later (((Below.refl _ _).alloc (Nat.le_refl _) _).alloc (by simp) _), (((Upd.refl _ _).setCell (by simp) _).alloc _).alloc _⟩
        · rw [if_neg (fun e => hl e.2)]
          have hl' : ¬ ((str T).size : Int) ≤ 64 := by rw [str_size]; omega
          have hl2 : ¬ (T.length : Int) ≤ 64 := by omega
          have hz := str_size T
          clear h k2 k3 e2 e3
          go_enter Try.func20, Try.ntmps20
          go_wp2
          go_end0
          exact ⟨rfl, HH.out.later (((Below.refl _ _).alloc (Nat.le_refl _) _).alloc (by simp) _), ((Upd.refl _ _).alloc _).alloc _⟩
      · have e9 : (K == 9) = false := by simpa using k9
        rw [if_neg (fun e => k9 e.1)]
        clear h k2 k3 k9
        go_enter Try.func20, Try.ntmps20
        go_wp2
        go_end0
        exact ⟨rfl, HH.out.later (((Below.refl _ _).alloc (Nat.le_refl _) _).alloc (by simp) _), ((Upd.refl _ _).alloc _).alloc _⟩
end Go.Proofs.Qxb6500468a
