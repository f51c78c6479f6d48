import Derived.Test.Qxb6500470aRows
import Derived.Test.Qxb6500470aStr
namespace Go.Proofs.Qxb6500470a
open Go.RowKit

abbrev B8 (n : Nat) : Value := .int .u8 n
/-- The buffer of which the last bytes are ds. -/
def buf (z : List Nat) (ds : List UInt8) : Array Value := ((z.map fun v => B8 v) ++ (ds.map fun c => B8 c.toNat)).toArray

/-- 'string(d[at:])': the bytes behind 'at'. -/
theorem run_bytes_str {P : Program} (w : World) (src dst e : TypeId) (b : Nat) (t : TypeId) (z : List Nat) (ds : List UInt8) (c : Nat) (hB : Blk w b (buf z ds) t)
    (hs : P.underlying src = some (.slice e)) (he : P.underlying e = some (.int .u8)) (hd : P.underlying dst = some .string) :
    (convert src dst (.slice (some ⟨b, z.length, none⟩) ds.length c)).run P w = .ok (S ds) w := by
  rw [run_convert_bytes_string w src dst e _ _ _ hs he hd]
  have hl : (loadCells ⟨b, z.length, none⟩ ds.length).run P w = .ok ((ds.map fun c => (c.toNat : Int)).map (Value.int .u8)).toArray w := by
    have h1 := run_loadCells_list (P := P) w ⟨b, z.length, none⟩ (ds.map fun c => B8 c.toNat) (by
      intro j v hj
      have ea : (⟨b, z.length, none⟩ : Addr).add j = ⟨b, z.length + j, none⟩ := by unfold Addr.add; split <;> simp_all
      rw [ea, hB.cell]
      unfold buf
      rw [List.getElem?_toArray, List.getElem?_append_right (by simp)]
      simp only [List.length_map, Nat.add_sub_cancel_left]
      exact hj)
    rw [List.length_map] at h1
    rw [h1, List.map_map]
    rfl
  rw [run_bytesToString w _ _ _ _ hl]
  have hf : ∀ (l : List UInt8) (r : List UInt8), (l.map fun c => (c.toNat : Int)).foldl (fun r n => r.push (UInt8.ofNat n.toNat)) (str r) = str (r ++ l) := by
    intro l
    induction l with
    | nil => intro r; simp
    | cons c l ih =>
      intro r
      simp only [List.map_cons, List.foldl_cons]
      have e : (str r).push (UInt8.ofNat ((c.toNat : Int)).toNat) = str (r ++ [c]) := by
        apply ByteArray.ext
        simp [str, ByteArray.push]
      rw [e, ih]
      simp
  have := hf ds []
  simp only [List.nil_append] at this
  rw [show ByteArray.empty = str [] from rfl, this]

set_option maxHeartbeats 1000000 in
theorem itoa_zero (w : World) : Calls Try.prog 46 #[I 0] w fun e w' => e = .returned (S (itoa 0)) ∧ Below w.heap.size w w' := by
  go_enter Try.func46, Try.ntmps46
  go_wp2
  go_ret
  exact ⟨rfl, Below.refl _ _⟩

set_option maxRecDepth 100000 in
set_option maxHeartbeats 4000000 in
theorem itoa_pos (n : Int) (h1 : -9223372036854775808 ≤ n) (h2 : n ≤ 9223372036854775807) (hn : n ≠ 0) (w : World) : Calls Try.prog 46 #[I n] w fun e w' => e = .returned (S (itoa n)) ∧ Below w.heap.size w w' := by
  have hn0 : (n == 0) = false := by simpa using hn
  go_enter Try.func46, Try.ntmps46
  go_wp2
  go_loopw [0, 4] (fun k a wr => ∃ (z : List Nat) (ds : List UInt8) (q : Int), a = I (z.length : Nat) ∧ k = I q ∧ z.length + ds.length = 24 ∧ q.natAbs < 10 ^ z.length ∧ Hid (dg n.natAbs = dg q.natAbs ++ ds) ∧ -9223372036854775808 ≤ q ∧ q ≤ 9223372036854775807 ∧ Blk wr w.heap.size (buf z ds) 95 ∧ Below w.heap.size w wr) (fun k a _ => (intOf a).toNat)
  case atStart =>
    have p20 : (10 : Nat) ^ (List.replicate 24 0).length = 1000000000000000000000000 := rfl
    exact ⟨List.replicate 24 0, [], n, rfl, rfl, rfl, by omega, by simp [Hid], h1, h2, Blk.new rfl, (Below.refl _ _).alloc (Nat.le_refl _) _⟩
  case round =>
    obtain ⟨z, ds, q, rfl, rfl, hlen, hq10, hdg, q1, q2, hB, hb⟩ := hrel
    by_cases hq : q = 0
    · subst hq
      have hds : dg n.natAbs = ds := by have := hdg.out; rw [this]; simp [dg_zero]
      have hd1 := dg_ne n.natAbs (by omega)
      rw [hds] at hd1
      have hdl := dg_len 19 n.natAbs (by have : (10 : Nat) ^ 19 = 10000000000000000000 := rfl
                                         omega)
      rw [hds] at hdl
      have Hds : Hid _ := hds
      clear hds hdg
      by_cases hneg : n < 0
      · obtain ⟨z0, v, rfl⟩ : ∃ z0 v, z = z0 ++ [v] := by
          rcases List.eq_nil_or_concat z with rfl | ⟨z0, v, e⟩
          · simp at hlen; omega
          · exact ⟨z0, v, by rw [e, List.concat_eq_append]⟩
        simp only [List.length_append, List.length_cons, List.length_nil, Nat.zero_add] at hlen ⊢
        have hz20 : (z0.length : Int) + 1 ≤ 24 := by omega
        have hz21 : (z0.length : Int) ≤ 24 := by omega
        obtain ⟨c0, f0, l0⟩ := hB.facts
        have hc : ∃ u, wr.cell? ⟨w.heap.size, z0.length, none⟩ = some u := by
          rw [c0]; unfold buf; exact ⟨B8 v, by simp⟩
        obtain ⟨u, hu⟩ := hc
        clear c0
        have hB2 : Blk (wr.setCell ⟨w.heap.size, z0.length, none⟩ (.int .u8 45)) w.heap.size (buf z0 (45 :: ds)) 95 := by
          have e := hB.set (i := z0.length) (.int .u8 45)
          have e2 : (buf (z0 ++ [v]) ds).setIfInBounds z0.length (.int .u8 45) = buf z0 (45 :: ds) := by
            unfold buf
            rw [List.setIfInBounds_toArray]
            congr 1
            have hl : z0.length = (z0.map fun v => B8 v).length := by simp
            simp only [List.map_append, List.map_cons, List.map_nil, List.append_assoc, List.cons_append, List.nil_append]
            rw [hl, List.set_append_right _ _ (Nat.le_refl _), Nat.sub_self, List.set_cons_zero]
            rfl
          rw [e2] at e
          exact e
        have hcv := run_bytes_str (P := Try.prog) _ 96 9 5 w.heap.size _ z0 (45 :: ds) (24 - z0.length) hB2 Try.underlying96 Try.underlying5 Try.underlying9
        rw [show (45 :: ds).length = 24 - z0.length from by simp; omega] at hcv
        have hz18 : ¬ (24 = z0.length) := by omega
        have hnd : decide (n < 0) = true := decide_eq_true hneg
        clear hlen hd1 hdl hB2
        go_wp2
        go_ret
        refine ⟨?_, hb.setCell (by simp) _⟩
        show Ending.returned (.string (str (45 :: ds))) = _
        rw [← Hds.out, itoa, if_neg hn, if_pos hneg]
      · have hneg' : ¬ n < 0 := hneg
        have hnd : decide (n < 0) = false := decide_eq_false hneg
        have hz20 : (z.length : Int) ≤ 24 := by omega
        have hz19 : ¬ (24 = z.length) := by omega
        have hcv := run_bytes_str (P := Try.prog) wr 96 9 5 w.heap.size _ z ds (24 - z.length) hB Try.underlying96 Try.underlying5 Try.underlying9
        rw [show ds.length = 24 - z.length from by omega] at hcv
        clear hlen hd1 hdl
        go_wp2
        go_ret
        refine ⟨?_, hb⟩
        show Ending.returned (.string (str ds)) = _
        rw [← Hds.out, itoa, if_neg hn, if_neg (by omega)]
    · have hq0 : (q == 0) = false := by simpa using hq
      obtain ⟨z0, v, rfl⟩ : ∃ z0 v, z = z0 ++ [v] := by
        rcases List.eq_nil_or_concat z with rfl | ⟨z0, v, e⟩
        · simp at hq10; omega
        · exact ⟨z0, v, by rw [e, List.concat_eq_append]⟩
      obtain ⟨c0, f0, l0⟩ := hB.facts
      have hc : ∃ u, wr.cell? ⟨w.heap.size, z0.length, none⟩ = some u := by
        rw [c0]; unfold buf; exact ⟨B8 v, by simp⟩
      obtain ⟨u, hu⟩ := hc
      clear c0
      simp only [List.length_append, List.length_cons, List.length_nil, Nat.zero_add] at hlen hq10 ⊢
      have hstep : dg q.natAbs = dg (q.tdiv 10).natAbs ++ [UInt8.ofNat (48 + q.natAbs % 10)] := by
        rw [Int.natAbs_tdiv]; exact dg_pos _ (by omega)
      have hmod : (q.tmod 10).natAbs = q.natAbs % 10 := by rw [Int.natAbs_tmod]; rfl
      have hdiv : (q.tdiv 10).natAbs = q.natAbs / 10 := by rw [Int.natAbs_tdiv]; rfl
      have hfin : ∀ x : Int, x = 48 + ((q.natAbs % 10 : Nat) : Int) → ∃ (z : List Nat) (ds' : List UInt8) (q' : Int), I (z0.length : Nat) = I (z.length : Nat) ∧ I (q.tdiv 10) = I q' ∧ z.length + ds'.length = 24 ∧ q'.natAbs < 10 ^ z.length ∧ Hid (dg n.natAbs = dg q'.natAbs ++ ds') ∧ -9223372036854775808 ≤ q' ∧ q' ≤ 9223372036854775807 ∧ Blk (wr.setCell ⟨w.heap.size, z0.length, none⟩ (.int .u8 x)) w.heap.size (buf z ds') 95 ∧ Below w.heap.size w (wr.setCell ⟨w.heap.size, z0.length, none⟩ (.int .u8 x)) := by
        intro x hx
        refine ⟨z0, UInt8.ofNat (48 + q.natAbs % 10) :: ds, q.tdiv 10, rfl, rfl, by simp; omega, ?_, ?_, by omega, by omega, ?_, hb.setCell (by simp) _⟩
        · rw [hdiv, Nat.div_lt_iff_lt_mul (by decide), ← Nat.pow_succ]; exact hq10
        · show dg n.natAbs = _
          rw [hdg.out, hstep]; simp
        · have e := hB.set (i := z0.length) (.int .u8 x)
          have e2 : (buf (z0 ++ [v]) ds).setIfInBounds z0.length (.int .u8 x) = buf z0 (UInt8.ofNat (48 + q.natAbs % 10) :: ds) := by
            unfold buf
            rw [List.setIfInBounds_toArray]
            congr 1
            have hl : z0.length = (z0.map fun v => B8 v).length := by simp
            have hx' : x = (((UInt8.ofNat (48 + q.natAbs % 10)).toNat : Nat) : Int) := by
              have : (UInt8.ofNat (48 + q.natAbs % 10)).toNat = 48 + q.natAbs % 10 := by
                rw [UInt8.toNat_ofNat']; omega
              rw [this, hx]; omega
            simp only [List.map_append, List.map_cons, List.map_nil, List.append_assoc, List.cons_append, List.nil_append]
            rw [hl, List.set_append_right _ _ (Nat.le_refl _), Nat.sub_self, List.set_cons_zero, hx']
          rw [e2] at e
          exact e
      have tm1 : -9 ≤ q.tmod 10 := by omega
      have tm2 : q.tmod 10 ≤ 9 := by omega
      have Hfin : Hid _ := hfin
      have Hmod : Hid _ := hmod
      clear hfin hstep hdiv hmod
      by_cases hneg : q.tmod 10 < 0
      · go_wp2
        go_roundw
        case rel => exact Hfin.out _ (by have := Hmod.out; omega)
        case measure => simp [intOf]
      · go_wp2
        go_roundw
        case rel => exact Hfin.out _ (by have := Hmod.out; omega)
        case measure => simp [intOf]
theorem itoa_any (n : Int) (h1 : -9223372036854775808 ≤ n) (h2 : n ≤ 9223372036854775807) (w : World) : Calls Try.prog 46 #[I n] w fun e w' => e = .returned (S (itoa n)) ∧ Below w.heap.size w w' := by
  by_cases h : n = 0
  · subst h; exact itoa_zero w
  · exact itoa_pos n h1 h2 h w
end Go.Proofs.Qxb6500470a
