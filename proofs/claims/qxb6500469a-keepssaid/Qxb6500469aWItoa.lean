import Derived.Test.Qxb6500469aWd1
import Derived.Deep.AppendLies
namespace Go.Proofs.Qxb6500469a
open Go.RowKit

abbrev B8 (n : Nat) : Value := .int .u8 n
def byC (xs : List UInt8) : List Value := xs.map fun c => B8 c.toNat
/-- The block of a slice's address. -/
def blk? : Option Addr → Option Nat
  | some a => some a.block
  | none => none
theorem own_slice (a : Option Addr) (n c : Nat) : (Value.slice a n c).ownBlock = blk? a := by cases a <;> rfl
theorem bInfo : (Try.prog.info? 5).map (fun i => (i.zero, i.size, i.bytes)) = some (some (B8 0), 1, 1) := by kernel_rfl
theorem info_parts {o : Option TypeInfo} {z : Option Value} {s b : Nat} (h : o.map (fun i => (i.zero, i.size, i.bytes)) = some (z, s, b)) : ∃ i, o = some i ∧ i.zero = z ∧ i.size = s ∧ i.bytes = b := by
  cases o with
  | none => cases h
  | some i => simp only [Option.map_some, Option.some.injEq, Prod.mk.injEq] at h; exact ⟨i, rfl, h.1, h.2.1, h.2.2⟩
/-- The slice (a, cap) owns the bytes xs in a row of its own from block N on. -/
structure OwnB (N : Nat) (w : World) (a : Option Addr) (cap : Nat) (xs : List UInt8) : Prop where
  own : w.ownsRow 0 5 1 (.slice a xs.length cap) xs.length (byC xs)
  fresh : ∀ g, blk? a = some g → N ≤ g
theorem OwnB.nil (N : Nat) (w : World) : OwnB N w none 0 [] := ⟨World.ownsRow_nil _ _ _ _, fun g hg => by cases hg⟩
theorem OwnB.more {N : Nat} {w w1 : World} {a : Option Addr} {cap g cap' : Nat} {xs ys : List UInt8} {o : Obj} (h : OwnB N w a cap xs) (hN : N ≤ w.heap.size)
    (hown : w1.ownsRow 0 5 1 (.slice (some ⟨g, 0, none⟩) (xs.length + ys.length) cap') (xs.length + ys.length) (byC xs ++ byC ys)) (hgrow : (w.alloc o).grownBy w1 (blk? a)) (hat : blk? a = some g ∨ g = w.heap.size + 1) :
    OwnB N w1 (some ⟨g, 0, none⟩) cap' (xs ++ ys) ∧ Below N w w1 := by
  refine ⟨⟨?_, fun g' e => ?_⟩, ?_⟩
  · rw [List.length_append]
    unfold byC at *
    rw [List.map_append]
    exact hown
  · obtain rfl : g = g' := by simpa [blk?] using e
    rcases hat with e | e
    · exact h.fresh _ e
    · omega
  · have hs : w.heap.size < w1.heap.size := Nat.lt_of_lt_of_le (by show w.heap.size < (w.alloc _).heap.size; rw [World.size_alloc]; omega) hgrow.size
    refine ⟨hgrow.os, hgrow.tape, hgrow.output, by omega, fun j hj => ?_⟩
    exact (hgrow.block j (by show j < (w.alloc _).heap.size; rw [World.size_alloc]; omega) (fun e => by have := h.fresh j e.symm; omega)).trans (Below.heap_alloc _ _ _ (by omega))
theorem OwnB.form {N : Nat} {w : World} {a : Option Addr} {cap : Nat} {xs : List UInt8} (h : OwnB N w a cap xs) (hn : 0 < xs.length) :
    ∃ g cur, a = some ⟨g, 0, none⟩ ∧ Blk w g cur 5 ∧ xs.length ≤ cap ∧ cur.size = cap ∧ cur.toList.take xs.length = byC xs ∧ N ≤ g ∧ cap ≤ maxLen := by
  rcases h.own.2 with ⟨_, h0⟩ | ⟨g, c, cur, hv, -, hg, hle, hm, hs, ht⟩
  · omega
  · simp only [Value.slice.injEq, true_and] at hv
    obtain ⟨rfl, rfl⟩ := hv
    exact ⟨g, cur, rfl, hg, hle, by omega, by rw [← ht, Nat.mul_one], h.fresh g rfl, hm⟩

/-- 'string(b)' of an owned row. -/
theorem run_bytes_own {P : Program} (w : World) (src dst e : TypeId) (b : Nat) (t : TypeId) (cur : Array Value) (ds : List UInt8) (n c : Nat) (hn : n = ds.length) (hB : Blk w b cur t) (ht : cur.toList.take ds.length = byC ds)
    (hs : P.underlying src = some (.slice e)) (he : P.underlying e = some (.int .u8)) (hd : P.underlying dst = some .string) :
    (convert src dst (.slice (some ⟨b, 0, none⟩) n c)).run P w = .ok (S ds) w := by
  subst hn
  rw [run_convert_bytes_string w src dst e _ _ _ hs he hd]
  have hl : (loadCells ⟨b, 0, none⟩ ds.length).run P w = .ok ((ds.map fun c => (c.toNat : Int)).map (Value.int .u8)).toArray w := by
    have h1 := run_loadCells_list (P := P) w ⟨b, 0, none⟩ (ds.map fun c => B8 c.toNat) (by
      intro j v hj
      have ea : (⟨b, 0, none⟩ : Addr).add j = ⟨b, j, none⟩ := by unfold Addr.add; split <;> simp_all
      rw [ea, hB.cell, ← Array.getElem?_toList]
      have hjl : j < ds.length := by
        have := (List.getElem?_eq_some_iff.1 hj).1
        simpa using this
      have : (cur.toList.take ds.length)[j]? = (byC ds)[j]? := by rw [ht]
      rw [List.getElem?_take, if_pos hjl] at this
      rw [this]
      exact hj)
    rw [List.length_map] at h1
    rw [h1, List.map_map]
    rfl
  rw [run_bytesToString w _ _ _ _ hl]
  have hf : ∀ (l : List UInt8) (r : List UInt8), (l.map fun c => (c.toNat : Int)).foldl (fun r n => r.push (UInt8.ofNat n.toNat)) (str r) = str (r ++ l) := by
    intro l
    induction l with
    | nil => intro r; simp
    | cons c l ih =>
      intro r
      simp only [List.map_cons, List.foldl_cons]
      have e : (str r).push (UInt8.ofNat ((c.toNat : Int)).toNat) = str (r ++ [c]) := by
        apply ByteArray.ext
        simp [str, ByteArray.push]
      rw [e, ih]
      simp
  have := hf ds []
  simp only [List.nil_append] at this
  rw [show ByteArray.empty = str [] from rfl, this]
/-- The row's cells: the first are the bytes xs. -/
structure RowB (w : World) (g : Nat) (cap : Nat) (xs : List UInt8) : Prop where
  ex : ∃ cur, Blk w g cur 5 ∧ cur.size = cap ∧ cur.toList.take xs.length = byC xs
  le : xs.length ≤ cap
theorem RowB.cell {w : World} {g cap : Nat} {xs : List UInt8} (h : RowB w g cap xs) (i : Nat) (hi : i < xs.length) : w.cell? ⟨g, i, none⟩ = some (B8 (xs.getD i 0).toNat) ∧ w.frozen? ⟨g, i, none⟩ = false := by
  obtain ⟨cur, hB, hs, ht⟩ := h.ex
  refine ⟨?_, hB.frozen i⟩
  rw [hB.cell, ← Array.getElem?_toList]
  have : (cur.toList.take xs.length)[i]? = (byC xs)[i]? := by rw [ht]
  rw [List.getElem?_take, if_pos hi] at this
  rw [this]
  unfold byC
  rw [List.getElem?_map, List.getElem?_eq_getElem hi, List.getD_eq_getElem?_getD, List.getElem?_eq_getElem hi]
  rfl
theorem RowB.set {w : World} {g cap : Nat} {xs : List UInt8} (h : RowB w g cap xs) (i : Nat) (c : UInt8) : RowB (w.setCell ⟨g, i, none⟩ (B8 c.toNat)) g cap (xs.set i c) := by
  obtain ⟨cur, hB, hs, ht⟩ := h.ex
  refine ⟨⟨_, hB.set (i := i) (B8 c.toNat), by simp [hs], ?_⟩, by rw [List.length_set]; exact h.le⟩
  rw [List.length_set, Array.toList_setIfInBounds, List.take_set, ht]
  unfold byC
  rw [List.map_set]
theorem RowB.drewN {w : World} {g cap : Nat} {xs : List UInt8} (h : RowB w g cap xs) (n : Nat) : RowB (w.drewN n) g cap xs := ⟨h.ex, h.le⟩
/-- The outer part reversed. -/
def revAt (ys : List UInt8) (i : Nat) (zs : List UInt8) : Prop := zs.length = ys.length ∧ ∀ k, k < ys.length → zs.getD k 0 = if k < i ∨ ys.length - 1 - i < k then ys.getD (ys.length - 1 - k) 0 else ys.getD k 0
theorem revAt_start (ys : List UInt8) (h : 0 < ys.length) : revAt ys 0 ys := ⟨rfl, fun k hk => by rw [if_neg (by omega)]⟩
theorem revAt_step (ys : List UInt8) (i : Nat) (zs : List UInt8) (h : revAt ys i zs) (hi : i < ys.length - 1 - i) : revAt ys (i + 1) ((zs.set i (zs.getD (ys.length - 1 - i) 0)).set (ys.length - 1 - i) (zs.getD i 0)) := by
  refine ⟨by simp [h.1], fun k hk => ?_⟩
  have h1 := h.1
  rw [List.getD_eq_getElem?_getD, List.getElem?_set, List.getElem?_set]
  by_cases e1 : ys.length - 1 - i = k
  · rw [if_pos e1, if_pos (by simp; omega), if_pos (by omega), Option.getD_some, h.2 i (by omega), if_neg (by omega)]
    congr 1; omega
  · rw [if_neg e1]
    by_cases e2 : i = k
    · rw [if_pos e2, if_pos (by omega), if_pos (by omega), Option.getD_some, h.2 _ (by omega), if_neg (by omega)]
      congr 1; omega
    · rw [if_neg e2, ← List.getD_eq_getElem?_getD, h.2 k hk]
      by_cases e3 : k < i ∨ ys.length - 1 - i < k
      · rw [if_pos e3, if_pos (by omega)]
      · rw [if_neg e3, if_neg (by omega)]
theorem revAt_end (ys : List UInt8) (i : Nat) (zs : List UInt8) (h : revAt ys i zs) (hi : ys.length - 1 - i ≤ i) : zs = ys.reverse := by
  apply List.ext_getElem?
  intro k
  by_cases hk : k < ys.length
  · have := h.2 k hk
    rw [List.getElem?_reverse hk, List.getElem?_eq_getElem (by rw [h.1]; exact hk), List.getElem?_eq_getElem (by omega)]
    rw [List.getD_eq_getElem?_getD, List.getElem?_eq_getElem (by rw [h.1]; exact hk), Option.getD_some] at this
    rw [this]
    by_cases e : k < i ∨ ys.length - 1 - i < k
    · rw [if_pos e, List.getD_eq_getElem?_getD, List.getElem?_eq_getElem (by omega), Option.getD_some]
    · rw [if_neg e, List.getD_eq_getElem?_getD, List.getElem?_eq_getElem hk, Option.getD_some]
      congr 2; omega
  · rw [List.getElem?_eq_none (by rw [h.1]; omega), List.getElem?_eq_none (by simp; omega)]

set_option maxRecDepth 100000 in
set_option maxHeartbeats 2000000 in
theorem itoa_pos (n : Int) (h1 : -9223372036854775808 ≤ n) (h2 : n ≤ 9223372036854775807) (hn : n ≠ 0) (w : World) : Calls Try.prog 11 #[I n] w fun e w' => e = .returned (S (itoa n)) ∧ Below w.heap.size w w' := by
  have hn0 : (n == 0) = false := by simpa using hn
  obtain ⟨i0, hi, hz0, hz1, hz2⟩ := info_parts bInfo
  go_enter Try.func11, Try.ntmps11
  go_wp2
  go_loopw [0, 4] (fun k b wr => ∃ (q : Int) (a : Option Addr) (cap : Nat) (xs : List UInt8), k = I q ∧ b = .slice a xs.length cap ∧ xs.length ≤ 20 ∧ q.natAbs < 10 ^ (20 - xs.length) ∧ Hid (dg n.natAbs = dg q.natAbs ++ xs.reverse) ∧ -9223372036854775808 ≤ q ∧ q ≤ 9223372036854775807 ∧ OwnB w.heap.size wr a cap xs ∧ Below w.heap.size w wr) (fun k _ _ => (intOf k).natAbs)
  case atStart =>
    have p20 : (10 : Nat) ^ (20 - ([] : List UInt8).length) = 100000000000000000000 := rfl
    exact ⟨n, none, 0, [], rfl, rfl, by simp, by omega, by simp [Hid], h1, h2, OwnB.nil _ _, Below.refl _ _⟩
  case round =>
    obtain ⟨q, a, cap, xs, rfl, rfl, hlen, hq10, hdg, q1, q2, hO, hb⟩ := hrel
    by_cases hq : q = 0
    · subst hq
      have hds : dg n.natAbs = xs.reverse := by have := hdg.out; rw [this]; simp [dg_zero]
      have hd1 := dg_ne n.natAbs (by omega)
      rw [hds, List.length_reverse] at hd1
      have hpos : 0 < xs.length := by omega
      have HDS : Hid _ := hds
      clear hds hdg hq10
      by_cases hneg : n < 0
      · have hnd : decide (n < 0) = true := decide_eq_true hneg
        have HOwn := hO.own
        go_wp2_with (at_builtin; go_loud (refine wpList_append_lies _ rfl (.tmp 29) (.tmp 30) 47 rfl 0 5 i0 (B8 0) 1 1 Try.underlying47 hi hz0 hz1 hz2 rfl (by decide) (.slice a xs.length cap) _ _ rfl (World.ownsRow.alloc HOwn _) ⟨wr.heap.size, 0, none⟩ 1 1 (byC [45]) rfl rfl (cell_one_new _ _ _) (by intro u hu; simp [byC] at hu; subst hu; rfl) (by decide) (by unfold maxLen; omega) (by omega) (Nat.zero_le _) (wr.heap.size + 1) (World.size_alloc _ _) ?_); intro g cap' w1 hown hgrow hat hlt; go_loud (rw [own_slice] at hgrow hat))
        obtain ⟨O2, B2⟩ := hO.more hb.size (ys := [45]) hown hgrow hat
        have HL : Hid ((xs ++ [45]).length = xs.length + 1) := by show _ = _; simp
        obtain ⟨g', cur, hge, hB, hle, hsz, ht, hNg, hmx⟩ := O2.form (by have := HL.out; omega)
        obtain rfl : g = g' := by simpa using hge
        have R0 : RowB w1 g cap' (xs ++ [45]) := ⟨⟨cur, hB, hsz, ht⟩, hle⟩
        have B0 := hb.trans B2
        clear hB hO O2 B2 hown hgrow hat hge
        go_loopw [6, 7] (fun i j wr' => ∃ (k : Nat) (zs : List UInt8), i = I k ∧ j = I ((xs.length : Int) - k) ∧ 2 * k ≤ xs.length + 1 ∧ Hid (revAt (xs ++ [45]) k zs) ∧ RowB wr' g cap' zs ∧ Below w.heap.size w wr') (fun i j _ => (intOf j - intOf i + 1).toNat)
        case atStart => exact ⟨0, (xs ++ [45]), rfl, by simp, by omega, revAt_start _ (by have := HL.out; omega), R0, B0⟩
        case round =>
          obtain ⟨k, zs, rfl, rfl, hk, hrev, R, hb2⟩ := hrel
          have hzl : zs.length = xs.length + 1 := hrev.out.1.trans HL.out
          by_cases hlt2 : (k : Int) < (xs.length : Int) - k
          · have hj : ((xs.length : Int) - k : Int) = ((xs.length + 1 - 1 - k : Nat) : Int) := by omega
            have hjl : ((xs.length + 1 - 1 - k : Nat) : Int) < ((xs.length + 1 : Nat) : Int) := by omega
            have hkl : (k : Int) < ((xs.length + 1 : Nat) : Int) := by omega
            have hkj : (k : Int) < ((xs.length + 1 - 1 - k : Nat) : Int) := by omega
            obtain ⟨p1, p2⟩ := R.cell k (by omega)
            obtain ⟨p3, p4⟩ := R.cell (xs.length + 1 - 1 - k) (by omega)
            have hst := revAt_step (xs ++ [45]) k zs hrev.out (by have := HL.out; omega)
            rw [HL.out] at hst
            have R2 := (R.set k (zs.getD (xs.length + 1 - 1 - k) 0)).set (xs.length + 1 - 1 - k) (zs.getD k 0)
            have hne : k ≠ xs.length + 1 - 1 - k := by omega
            have w1' := wr64 ((k : Int) + 1) (by omega) (by omega)
            have w2' := wr64 (((xs.length + 1 - 1 - k : Nat) : Int) - 1) (by omega) (by omega)
            rw [hj]
            have HST : Hid _ := hst
            have HR2 : Hid _ := R2
            have HJ : Hid ((xs.length + 1 - 1 - k : Nat) - 1 = (xs.length : Int) - ((k + 1 : Nat) : Int)) := by show _ = _; omega
            have hk2 : 2 * (k + 1) ≤ xs.length + 1 := by omega
            clear hst R2 hj
            generalize ((zs.getD (xs.length + 1 - 1 - k) 0)) = cb at *
            generalize ((zs.getD k 0)) = ca at *
            generalize xs.length + 1 - 1 - k = jn at *
            go_wp2_with fail
            go_region
            go_wp2
            go_roundw
            case rel => exact ⟨k + 1, _, by go_num, congrArg (Value.int .i64) HJ.out, hk2, HST.out, HR2.out.drewN 1, ((hb2.setCell hNg _).setCell hNg _).drew⟩
            case measure => simp [intOf]; omega
          · have hze := revAt_end (xs ++ [45]) k zs hrev.out (by have := HL.out; omega)
            obtain ⟨cur2, q5, q6, q7⟩ := R.ex
            have hcv := run_bytes_own (P := Try.prog) wr 47 9 5 g _ cur2 zs (xs.length + 1) cap' hzl.symm q5 q7 Try.underlying47 Try.underlying5 Try.underlying9
            have HZ : Hid _ := hze
            clear hze hrev R hzl
            go_wp2
            go_ret
            refine ⟨?_, hb2⟩
            show Ending.returned (.string (str zs)) = _
            rw [HZ.out, itoa, if_neg hn, if_pos (by omega), HDS.out]; simp
      · have hnd : decide (n < 0) = false := decide_eq_false hneg
        obtain ⟨g, cur, rfl, hB, hle, hsz, ht, hNg, hmx⟩ := hO.form hpos
        have R0 : RowB wr g cap xs := ⟨⟨cur, hB, hsz, ht⟩, hle⟩
        have B0 := hb
        clear hB hO
        go_wp2
        go_loopw [6, 7] (fun i j wr' => ∃ (k : Nat) (zs : List UInt8), i = I k ∧ j = I ((xs.length : Int) - 1 - k) ∧ 2 * k ≤ xs.length ∧ Hid (revAt xs k zs) ∧ RowB wr' g cap zs ∧ Below w.heap.size w wr') (fun i j _ => (intOf j - intOf i + 1).toNat)
        case atStart => exact ⟨0, xs, rfl, by simp, by omega, revAt_start _ (by omega), R0, B0⟩
        case round =>
          obtain ⟨k, zs, rfl, rfl, hk, hrev, R, hb2⟩ := hrel
          have hzl : zs.length = xs.length := hrev.out.1
          by_cases hlt2 : (k : Int) < (xs.length : Int) - 1 - k
          · have hj : ((xs.length : Int) - 1 - k : Int) = ((xs.length - 1 - k : Nat) : Int) := by omega
            have hjl : ((xs.length - 1 - k : Nat) : Int) < ((xs.length : Nat) : Int) := by omega
            have hkl : (k : Int) < ((xs.length : Nat) : Int) := by omega
            have hkj : (k : Int) < ((xs.length - 1 - k : Nat) : Int) := by omega
            obtain ⟨p1, p2⟩ := R.cell k (by omega)
            obtain ⟨p3, p4⟩ := R.cell (xs.length - 1 - k) (by omega)
            have hst := revAt_step xs k zs hrev.out (by omega)
            have R2 := (R.set k (zs.getD (xs.length - 1 - k) 0)).set (xs.length - 1 - k) (zs.getD k 0)
            have hne : k ≠ xs.length - 1 - k := by omega
            have w1' := wr64 ((k : Int) + 1) (by omega) (by omega)
            have w2' := wr64 (((xs.length - 1 - k : Nat) : Int) - 1) (by omega) (by omega)
            rw [hj]
            have HST : Hid _ := hst
            have HR2 : Hid _ := R2
            have HJ : Hid ((xs.length - 1 - k : Nat) - 1 = (xs.length : Int) - 1 - ((k + 1 : Nat) : Int)) := by show _ = _; omega
            have hk2 : 2 * (k + 1) ≤ xs.length := by omega
            clear hst R2 hj
            generalize ((zs.getD (xs.length - 1 - k) 0)) = cb at *
            generalize ((zs.getD k 0)) = ca at *
            generalize xs.length - 1 - k = jn at *
            go_wp2_with fail
            go_region
            go_wp2
            go_roundw
            case rel => exact ⟨k + 1, _, by go_num, congrArg (Value.int .i64) HJ.out, hk2, HST.out, HR2.out.drewN 1, ((hb2.setCell hNg _).setCell hNg _).drew⟩
            case measure => simp [intOf]; omega
          · have hze := revAt_end xs k zs hrev.out (by omega)
            obtain ⟨cur2, q5, q6, q7⟩ := R.ex
            have hcv := run_bytes_own (P := Try.prog) wr 47 9 5 g _ cur2 zs (xs.length) cap hzl.symm q5 q7 Try.underlying47 Try.underlying5 Try.underlying9
            have HZ : Hid _ := hze
            clear hze hrev R hzl
            go_wp2
            go_ret
            refine ⟨?_, hb2⟩
            show Ending.returned (.string (str zs)) = _
            rw [HZ.out, itoa, if_neg hn, if_neg (by omega), HDS.out]
    · have hq0 : (q == 0) = false := by simpa using hq
      have hstep : dg q.natAbs = dg (q.tdiv 10).natAbs ++ [UInt8.ofNat (48 + q.natAbs % 10)] := by
        rw [Int.natAbs_tdiv]; exact dg_pos _ (by omega)
      have hmod : (q.tmod 10).natAbs = q.natAbs % 10 := by rw [Int.natAbs_tmod]; rfl
      have hdiv : (q.tdiv 10).natAbs = q.natAbs / 10 := by rw [Int.natAbs_tdiv]; rfl
      have hl19 : xs.length ≤ 19 := by
        by_cases e : xs.length = 20
        · rw [e] at hq10; simp at hq10; omega
        · omega
      have hq11 : (q.tdiv 10).natAbs < 10 ^ (20 - (xs.length + 1)) := by
        rw [hdiv, Nat.div_lt_iff_lt_mul (by decide), ← Nat.pow_succ, show (20 - (xs.length + 1)).succ = 20 - xs.length from by omega]; exact hq10
      have hc : (UInt8.ofNat (48 + q.natAbs % 10)).toNat = 48 + q.natAbs % 10 := by rw [UInt8.toNat_ofNat']; omega
      have hdg2 : dg n.natAbs = dg (q.tdiv 10).natAbs ++ (xs ++ [UInt8.ofNat (48 + q.natAbs % 10)]).reverse := by rw [hdg.out, hstep]; simp
      have tm1 : -9 ≤ q.tmod 10 := by omega
      have tm2 : q.tmod 10 ≤ 9 := by omega
      have HOwn := hO.own
      have hfin : ∀ (x : Int) (g cap' : Nat) (w1 : World) (o : Obj), x = 48 + ((q.natAbs % 10 : Nat) : Int) → w1.ownsRow 0 5 1 (.slice (some ⟨g, 0, none⟩) (xs.length + 1) cap') (xs.length + 1) (byC xs ++ [.int .u8 x]) → (wr.alloc o).grownBy w1 (blk? a) → (blk? a = some g ∨ g = wr.heap.size + 1) →
          ∃ (q' : Int) (a' : Option Addr) (cap2 : Nat) (xs' : List UInt8), I (q.tdiv 10) = I q' ∧ Value.slice (some ⟨g, 0, none⟩) (xs.length + 1) cap' = .slice a' xs'.length cap2 ∧ xs'.length ≤ 20 ∧ q'.natAbs < 10 ^ (20 - xs'.length) ∧ Hid (dg n.natAbs = dg q'.natAbs ++ xs'.reverse) ∧ -9223372036854775808 ≤ q' ∧ q' ≤ 9223372036854775807 ∧ OwnB w.heap.size w1 a' cap2 xs' ∧ Below w.heap.size w w1 := by
        intro x g cap' w1 o hx hown hgrow hat
        have ex : [Value.int .u8 x] = byC [UInt8.ofNat (48 + q.natAbs % 10)] := by
          unfold byC; simp only [List.map_cons, List.map_nil, hc, hx]; rfl
        rw [ex] at hown
        obtain ⟨O2, B2⟩ := hO.more hb.size hown hgrow hat
        have hl2 : (xs ++ [UInt8.ofNat (48 + q.natAbs % 10)]).length = xs.length + 1 := by simp
        exact ⟨_, _, _, _, rfl, by rw [hl2], by rw [hl2]; omega, by rw [hl2]; exact hq11, hdg2, by omega, by omega, O2, hb.trans B2⟩
      have Hfin : Hid _ := hfin
      have Hmod : Hid _ := hmod
      have Hdiv : Hid _ := hdiv
      clear hfin hdg2 hq11 hq10 hdg hstep hc hmod hdiv
      by_cases hneg : q.tmod 10 < 0
      · go_wp2_with (at_builtin; go_loud (refine wpList_append_lies _ rfl (.tmp 20) (.tmp 24) 47 rfl 0 5 i0 (B8 0) 1 1 Try.underlying47 hi hz0 hz1 hz2 rfl (by decide) (.slice a xs.length cap) _ _ rfl (World.ownsRow.alloc HOwn _) ⟨wr.heap.size, 0, none⟩ 1 1 [.int .u8 _] rfl rfl (cell_one_new _ _ _) (by intro u hu; simp at hu; subst hu; rfl) (by decide) (by unfold maxLen; omega) (by omega) (Nat.zero_le _) (wr.heap.size + 1) (World.size_alloc _ _) ?_); intro g cap' w1 hown hgrow hat hlt; go_loud (rw [own_slice] at hgrow hat))
        go_roundw
        case rel => exact Hfin.out _ _ _ _ _ (by have := Hmod.out; omega) hown hgrow hat
        case measure =>
          show (q.tdiv 10).natAbs < q.natAbs
          rw [Hdiv.out]; omega
      · go_wp2_with (at_builtin; go_loud (refine wpList_append_lies _ rfl (.tmp 20) (.tmp 24) 47 rfl 0 5 i0 (B8 0) 1 1 Try.underlying47 hi hz0 hz1 hz2 rfl (by decide) (.slice a xs.length cap) _ _ rfl (World.ownsRow.alloc HOwn _) ⟨wr.heap.size, 0, none⟩ 1 1 [.int .u8 _] rfl rfl (cell_one_new _ _ _) (by intro u hu; simp at hu; subst hu; rfl) (by decide) (by unfold maxLen; omega) (by omega) (Nat.zero_le _) (wr.heap.size + 1) (World.size_alloc _ _) ?_); intro g cap' w1 hown hgrow hat hlt; go_loud (rw [own_slice] at hgrow hat))
        go_roundw
        case rel => exact Hfin.out _ _ _ _ _ (by have := Hmod.out; omega) hown hgrow hat
        case measure =>
          show (q.tdiv 10).natAbs < q.natAbs
          rw [Hdiv.out]; omega
set_option maxHeartbeats 400000 in
theorem itoa_zero (w : World) : Calls Try.prog 11 #[I 0] w fun e w' => e = .returned (S (itoa 0)) ∧ Below w.heap.size w w' := by
  go_enter Try.func11, Try.ntmps11
  go_wp2
  go_ret
  exact ⟨rfl, Below.refl _ _⟩
theorem itoa_any (n : Int) (h1 : -9223372036854775808 ≤ n) (h2 : n ≤ 9223372036854775807) (w : World) : Calls Try.prog 11 #[I n] w fun e w' => e = .returned (S (itoa n)) ∧ Below w.heap.size w w' := by
  by_cases h : n = 0
  · subst h; exact itoa_zero w
  · exact itoa_pos n h1 h2 h w
end Go.Proofs.Qxb6500469a
