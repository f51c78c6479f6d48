import Derived.Test.Qxb6500468aPk8
namespace Go.Proofs.Qxb6500468a
open Go.RowKit

def recB (i n : Nat) : List UInt8 := [UInt8.ofNat i, UInt8.ofNat (n / 281474976710656 % 256), UInt8.ofNat (n / 1099511627776 % 256), UInt8.ofNat (n / 4294967296 % 256), UInt8.ofNat (n / 16777216 % 256), UInt8.ofNat (n / 65536 % 256), UInt8.ofNat (n / 256 % 256), UInt8.ofNat (n % 256)]
def expB (u : Nat) (ws : List Nat) : Nat → List UInt8
  | 0 => []
  | k + 1 => if u.testBit k then expB u ws k ++ recB k (ws.getD k 0) else expB u ws k
theorem expB_len (u : Nat) (ws : List Nat) : ∀ k, (expB u ws k).length ≤ 8 * k
  | 0 => by simp [expB]
  | k + 1 => by
    have a := expB_len u ws k
    unfold expB
    split
    · rw [List.length_append]; simp [recB]; omega
    · omega
theorem mk_cap (p : Nat) (hp : p ≤ 8) : ∃ cur : Array Value, cur.size = p * 8 ∧ ∀ W : World, (Instr.makeSlice 61 (.int .i64 0) (.int .i64 ((p : Int) * 8))).run Try.prog W = .ok (.slice (some ⟨W.heap.size, 0, none⟩) 0 (p * 8)) (W.alloc (.cells cur 5)) := by
  obtain ⟨i0, hi, hz0, hz1, hz2⟩ := info_parts bInfo
  refine ⟨madeCells (B8 0).cells (p * 8), size_madeCells _ _, fun W => ?_⟩
  have := run_makeSlice (P := Try.prog) W 61 5 i0 (B8 0) Try.underlying61 hi hz0 .i64 .i64 0 ((p : Int) * 8) (by omega) (by omega) (by rw [hz1]; omega) (by rw [hz2]; omega) (by omega)
  rw [hz1, show ((p : Int) * 8).toNat = p * 8 from by omega, Nat.mul_one] at this
  exact this
theorem cells8_new (W : World) (t : TypeId) (a0 a1 a2 a3 a4 a5 a6 a7 : Value) : ∀ j u, [a0, a1, a2, a3, a4, a5, a6, a7][j]? = some u → (W.alloc (.cells #[a0, a1, a2, a3, a4, a5, a6, a7] t)).cell? ((⟨W.heap.size, 0, none⟩ : Addr).add j) = some u := by
  intro j u hj
  have ea : (⟨W.heap.size, 0, none⟩ : Addr).add j = ⟨W.heap.size, j, none⟩ := by unfold Addr.add; split <;> simp_all
  rw [ea, (Blk.new (w := W) (c := #[a0, a1, a2, a3, a4, a5, a6, a7]) (t := t) rfl).cell]
  simpa using hj

set_option maxRecDepth 100000 in
set_option maxHeartbeats 4000000 in
theorem export_any (w : World) (x bw ub u : Nat) (ws : List Nat) (h : StoR w x bw ub u ws) : Calls Try.prog 39 #[ptr x] w fun e w' => e = .returned (S (expB u ws 8)) ∧ Below w.heap.size w w' := by
  obtain ⟨c0, c1, lx, -, -⟩ := h.at0
  obtain ⟨i0, hi, hz0, hz1, hz2⟩ := info_parts bInfo
  have hp8 := pop_le u h.hu
  obtain ⟨cu0, hcu0, hmk⟩ := mk_cap (popB u) hp8
  have hmul := wr64 ((popB u : Int) * 8) (by omega) (by omega)
  have hcnt := count_any w ub u h.hu h.brd
  generalize popB u = P at *
  go_enter Try.func39, Try.ntmps39
  go_wp2_with fail
  refine hcnt.mono ?_
  rintro e w1 ⟨rfl, rfl⟩
  go_wp2
  go_loopw [4, 20] (fun b i wr => ∃ (k : Nat) (a : Option Addr) (cap : Nat), k ≤ 8 ∧ b = .slice a (expB u ws k).length cap ∧ i = I k ∧ OwnB w1.heap.size wr a cap (expB u ws k) ∧ StoR wr x bw ub u ws ∧ Below w1.heap.size w1 wr) (fun _ i _ => (8 - intOf i).toNat)
  case atStart =>
    have b0 := (Below.refl w1.heap.size w1).alloc (Nat.le_refl _) (.cells cu0 5)
    refine ⟨0, some ⟨w1.heap.size, 0, none⟩, P * 8, by omega, rfl, rfl, ⟨⟨rfl, .inr ⟨_, _, _, rfl, Nat.zero_le _, Blk.new rfl, Nat.zero_le _, by unfold maxLen; omega, by rw [hcu0, Nat.mul_one], by simp [expB, byC]⟩⟩, fun g hg => ?_⟩, h.later b0, b0⟩
    have : w1.heap.size = g := by simpa [blk?] using hg
    omega
  case round =>
    clear c0 c1 lx hcnt
    obtain ⟨k, a, cap, hk, rfl, rfl, hO, hr, br⟩ := hrel
    have hlen := expB_len u ws k
    by_cases hlt : k < 8
    · have q1 : (k : Int) < 8 := by omega
      obtain ⟨c0, c1, -, -, -⟩ := hr.at0
      obtain ⟨p1, -⟩ := hr.word k hlt
      have hH := has_any wr ub u k (by omega) (by have := h.hu; omega) hr.brd
      have hl := hr.lt k
      have hstep : expB u ws (k + 1) = if u.testBit k then expB u ws k ++ recB k (ws.getD k 0) else expB u ws k := rfl
      generalize ws.getD k 0 = n at *
      generalize hxs : expB u ws k = xs at *
      cases hb : u.testBit k with
      | false =>
        rw [hb, if_neg (by simp)] at hstep
        rw [hb] at hH
        have HS : Hid _ := hstep
        clear hstep
        go_wp2_with fail
        refine hH.mono ?_
        rintro e w2 ⟨rfl, rfl⟩
        go_wp2
        go_roundw
        case rel => exact ⟨k + 1, a, cap, by omega, by rw [HS.out], by go_num, by rw [HS.out]; exact hO, hr, br⟩
        case measure => simp [intOf]; omega
      | true =>
        rw [hb, if_pos rfl] at hstep
        rw [hb] at hH
        have HS : Hid _ := hstep
        clear hstep
        have HOwn := hO.own
        go_wp2_with fail
        refine hH.mono ?_
        rintro e w2 ⟨rfl, rfl⟩
        have hfin : ∀ (x0 x1 x2 x3 x4 x5 x6 x7 : Int) (g cap' : Nat) (w3 : World) (o : Obj), x0 = ((k : Nat) : Int) → x1 = ((n / 281474976710656 % 256 : Nat) : Int) → x2 = ((n / 1099511627776 % 256 : Nat) : Int) → x3 = ((n / 4294967296 % 256 : Nat) : Int) → x4 = ((n / 16777216 % 256 : Nat) : Int) → x5 = ((n / 65536 % 256 : Nat) : Int) → x6 = ((n / 256 % 256 : Nat) : Int) → x7 = ((n % 256 : Nat) : Int) → w3.ownsRow 0 5 1 (.slice (some ⟨g, 0, none⟩) (xs.length + 8) cap') (xs.length + 8) (byC xs ++ [.int .u8 x0, .int .u8 x1, .int .u8 x2, .int .u8 x3, .int .u8 x4, .int .u8 x5, .int .u8 x6, .int .u8 x7]) → (w2.alloc o).grownBy w3 (blk? a) → (blk? a = some g ∨ g = w2.heap.size + 1) →
            ∃ (k' : Nat) (a' : Option Addr) (cap2 : Nat), k' ≤ 8 ∧ Value.slice (some ⟨g, 0, none⟩) (xs.length + 8) cap' = .slice a' (expB u ws k').length cap2 ∧ I ((k : Int) + 1) = I (k' : Int) ∧ OwnB w1.heap.size w3 a' cap2 (expB u ws k') ∧ StoR w3 x bw ub u ws ∧ Below w1.heap.size w1 w3 := by
          intro x0 x1 x2 x3 x4 x5 x6 x7 g cap' w3 o y0 y1 y2 y3 y4 y5 y6 y7 hown hgrow hat
          have tb : ∀ m, m < 256 → (UInt8.ofNat m).toNat = m := fun m hm => by rw [UInt8.toNat_ofNat']; omega
          have ex : [Value.int .u8 x0, Value.int .u8 x1, Value.int .u8 x2, Value.int .u8 x3, Value.int .u8 x4, Value.int .u8 x5, Value.int .u8 x6, Value.int .u8 x7] = byC (recB k n) := by
            unfold byC recB
            simp only [List.map_cons, List.map_nil]
            rw [tb k (by omega), tb (n / 281474976710656 % 256) (by omega), tb (n / 1099511627776 % 256) (by omega), tb (n / 4294967296 % 256) (by omega), tb (n / 16777216 % 256) (by omega), tb (n / 65536 % 256) (by omega), tb (n / 256 % 256) (by omega), tb (n % 256) (by omega), y0, y1, y2, y3, y4, y5, y6, y7]
          rw [ex] at hown
          have hB8 : (recB k n).length = 8 := rfl
          obtain ⟨O2, B2⟩ := hO.more (ys := recB k n) br.size hown hgrow hat
          have hs1 : w2.heap.size < w3.heap.size := Nat.lt_of_lt_of_le (by show w2.heap.size < (w2.alloc _).heap.size; rw [World.size_alloc]; omega) hgrow.size
          have hkeep : Upd ((blk? a).toList) w2 w3 := ⟨hgrow.os, hgrow.tape, hgrow.output, by omega, fun j hj hjn => (hgrow.block j (by show j < (w2.alloc _).heap.size; rw [World.size_alloc]; omega) (fun e => hjn (by rw [← e]; simp))).trans (Below.heap_alloc _ _ _ hj)⟩
          obtain ⟨-, -, l1, l2, l3⟩ := h.at0
          have hno : ∀ z, z < w1.heap.size → z ∉ (blk? a).toList := by
            intro z hz hm
            simp only [Option.mem_toList] at hm
            have := hO.fresh z hm
            omega
          refine ⟨k + 1, some ⟨g, 0, none⟩, cap', by omega, ?_, by go_num, ?_, hr.upd hkeep (hno x l1) (hno bw l2) (hno ub l3), br.trans B2⟩
          · rw [HS.out, List.length_append, hB8]
          · rw [HS.out]; exact O2
        have HF : Hid _ := hfin
        clear hfin
        go_wp2_with (at_builtin; go_loud (refine wpList_append_lies _ rfl (.tmp 31) (.tmp 54) 61 rfl 0 5 i0 (B8 0) 1 1 Try.underlying61 hi hz0 hz1 hz2 rfl (by decide) (.slice a xs.length cap) _ _ rfl (World.ownsRow.alloc HOwn _) ⟨w2.heap.size, 0, none⟩ 8 8 [.int .u8 _, .int .u8 _, .int .u8 _, .int .u8 _, .int .u8 _, .int .u8 _, .int .u8 _, .int .u8 _] rfl rfl (cells8_new _ _ _ _ _ _ _ _ _ _) (by intro u hu; simp only [List.mem_cons, List.not_mem_nil, or_false] at hu; rcases hu with rfl | rfl | rfl | rfl | rfl | rfl | rfl | rfl <;> rfl) (by decide) (by unfold maxLen; omega) (by omega) (Nat.zero_le _) (w2.heap.size + 1) (World.size_alloc _ _) ?_); intro g cap' w3 hown hgrow hat hlt3; go_loud (rw [own_slice] at hgrow hat))
        go_roundw
        case rel => exact HF.out _ _ _ _ _ _ _ _ _ _ _ _ rfl (by omega) rfl rfl rfl rfl rfl rfl hown hgrow hat
        case measure => simp [intOf]; omega
    · obtain rfl : k = 8 := by omega
      rcases Nat.eq_zero_or_pos (expB u ws 8).length with hz | hpos
      · have hnil : expB u ws 8 = [] := List.length_eq_zero_iff.1 hz
        rw [hnil] at hO ⊢
        have hcv : ∀ W : World, (convert 61 9 (.slice a 0 cap)).run Try.prog W = .ok (S []) W := by
          intro W
          rw [run_convert_bytes_string W 61 9 5 _ _ _ Try.underlying61 Try.underlying5 Try.underlying9]
          cases a with
          | none => rfl
          | some ad => exact run_bytesToString W ad 0 cap [] (by first | rfl | simp [loadCells])
        have HN : Hid _ := hnil
        clear hnil hz
        go_wp2
        go_ret
        refine ⟨?_, br⟩
        rw [HN.out]
        rfl
      · obtain ⟨g, cur, rfl, hB, hle, hsz, ht, hNg, hmx⟩ := hO.form hpos
        have hcv := run_bytes_own (P := Try.prog) wr 61 9 5 g _ cur (expB u ws 8) (expB u ws 8).length cap rfl hB ht Try.underlying61 Try.underlying5 Try.underlying9
        go_wp2
        go_ret
        exact ⟨rfl, br⟩
end Go.Proofs.Qxb6500468a
