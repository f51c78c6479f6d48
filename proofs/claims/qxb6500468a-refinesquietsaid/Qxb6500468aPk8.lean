import Derived.Test.Qxb6500468aPk7
import Derived.Laws.ResultCell
import Derived.Laws.Rows
namespace Go.Proofs.Qxb6500468a
open Go.RowKit

/-- The header that a word holds. -/
abbrev UnV (n : Nat) : Value := HdV (unK n) (unD n) (unL n) (unF n) (unS n)
theorem un_in64 (n : Nat) : in64 (unK n) ∧ in64 (unD n) ∧ in64 (unL n) ∧ in64 (unF n) ∧ in64 (unS n) := by unfold in64 unK unD unL unF unS; omega
theorem un_zero : UnV 0 = HdV 0 0 0 0 0 := rfl
theorem ret_row2 {P : Program} {fn : Func} {R : Ending → World → Prop} {a : Act} {w : World} {p q : Tmp} {ty t : TypeId} {g : Nat} {cs : Array Value} {d : TypeDesc} {v : Value} (h : fn.results = #[.cell p ty, .tmp q]) (hdf : a.defers = []) (hp : a.tmps.getD p undef = .pointer (some ⟨g, 0, none⟩)) (hq : a.tmps.getD q undef = v) (hg : Blk w g cs t)
    (hu : P.underlying ty = some d) (hd : (match d with | .struct _ | .array _ _ => true | _ => false) = true) (hi : (P.info? ty).map (·.size) = some cs.size) (hR : R (.returned (.tuple #[.agg cs, v])) w) : bodyPost P fn R .ret a w := by
  refine bodyPost_ret (v := .tuple #[.agg cs, v]) ?_ hdf hR
  have hg' : w.heap[g]? = some (.cells cs t (0, 0)) := hg
  rw [results_cell_tmp h, hp, hq]
  simp [asAddr, Result.andThen, run_loadVar_row w g t ty cs (0, 0) d hg' hu hd hi]
set_option maxRecDepth 100000 in
set_option maxHeartbeats 2000000 in
theorem get_any (w : World) (x bw ub u : Nat) (ws : List Nat) (h : StoR w x bw ub u ws) (slot : Int) : Calls Try.prog 35 #[ptr x, I slot] w fun e w' => e = .returned (.tuple #[UnV (getE u ws slot), I (atF u slot)]) ∧ Below w.heap.size w w' := by
  unfold getE
  rcases atF_cases u slot with ⟨e0, s0, s1, hb⟩ | ⟨e0, -⟩
  · obtain ⟨i, rfl⟩ := Int.eq_ofNat_of_zero_le s0
    rw [if_pos e0, Int.toNat_natCast]
    have b0 := (Below.refl w.heap.size w).alloc (Nat.le_refl _) (.cells #[I 0, I 0, I 0, I 0, I 0] 27)
    have B0 : Blk (w.alloc (.cells #[I 0, I 0, I 0, I 0, I 0] 27)) w.heap.size #[I 0, I 0, I 0, I 0, I 0] 27 := Blk.new rfl
    have h0 := h.later b0
    have hA := at_any _ x bw ub u ws h0 i
    rw [e0] at hA ⊢
    have hi : i < 8 := by omega
    have hwd := fun (W : World) (hW : StoR W x bw ub u ws) => hW.word i hi
    have hlt := h.lt i
    clear hb e0
    generalize ws.getD i 0 = n at *
    go_enter Try.func35, Try.ntmps35
    go_wp2_with fail
    generalize w.alloc (.cells #[I 0, I 0, I 0, I 0, I 0] 27) = v0 at *
    refine hA.mono ?_
    rintro e w1 ⟨rfl, rfl⟩
    obtain ⟨c0, c1, -, -, -⟩ := h0.at0
    obtain ⟨p1, p2⟩ := hwd _ h0
    go_wp2_with fail
    refine (unpack_any w1 n (by omega)).mono ?_
    rintro e w2 ⟨rfl, b2⟩
    have B2 := B0.below b2 B0.lt
    obtain ⟨o0, o1, o2⟩ := B2.facts
    go_wp2
    have B3 := ((((B2.set (i := 0) (I (unK n))).set (i := 1) (I (unD n))).set (i := 2) (I (unL n))).set (i := 3) (I (unF n))).set (i := 4) (I (unS n))
    have bb := b0.trans (b2.mono b0.size)
    exact ret_row2 Try.results35 rfl rfl rfl B3 Try.underlying27 rfl (by kernel_rfl) ⟨rfl, ((((bb.setCell (Nat.le_refl _) _).setCell (Nat.le_refl _) _).setCell (Nat.le_refl _) _).setCell (Nat.le_refl _) _).setCell (Nat.le_refl _) _⟩
  · rw [if_neg e0, un_zero]
    have e1 : (atF u slot != 0) = true := by simpa using e0
    have b0 := (Below.refl w.heap.size w).alloc (Nat.le_refl _) (.cells #[I 0, I 0, I 0, I 0, I 0] 27)
    have B0 : Blk (w.alloc (.cells #[I 0, I 0, I 0, I 0, I 0] 27)) w.heap.size #[I 0, I 0, I 0, I 0, I 0] 27 := Blk.new rfl
    have h0 := h.later b0
    have hA := at_any _ x bw ub u ws h0 slot
    generalize atF u slot = a at *
    go_enter Try.func35, Try.ntmps35
    go_wp2_with fail
    generalize w.alloc (.cells #[I 0, I 0, I 0, I 0, I 0] 27) = v0 at *
    refine hA.mono ?_
    rintro e w1 ⟨rfl, rfl⟩
    obtain ⟨o0, o1, o2⟩ := B0.facts
    go_wp2
    have B3 := ((((B0.set (i := 0) (I 0)).set (i := 1) (I 0)).set (i := 2) (I 0)).set (i := 3) (I 0)).set (i := 4) (I 0)
    exact ret_row2 Try.results35 rfl rfl rfl B3 Try.underlying27 rfl (by kernel_rfl) ⟨rfl, ((((b0.setCell (Nat.le_refl _) _).setCell (Nat.le_refl _) _).setCell (Nat.le_refl _) _).setCell (Nat.le_refl _) _).setCell (Nat.le_refl _) _⟩

/-! ### Check, Show -/
theorem body_bits (n : Nat) (hn : n < 72057594037927936) : bits .andNot .u64 (n : Int) 72057594037927935 = 0 := by
  rw [show (72057594037927935 : Int) = ((72057594037927935 : Nat) : Int) from rfl, u64_andNot_nat _ _ (by omega) (by decide)]
  have : n &&& (18446744073709551615 - 72057594037927935) = 0 := by
    have h := field_clear n 0 56 (by decide) (by omega)
    rw [show (2 ^ 64 - 1 - (2 ^ 56 - 1) * 2 ^ 0 : Nat) = 18446744073709551615 - 72057594037927935 from rfl] at h
    rw [h, Nat.pow_zero, Nat.mod_one, show n / 2 ^ (0 + 56) = 0 from Nat.div_eq_of_lt (by simpa using hn)]
  rw [this]
  rfl
set_option maxRecDepth 100000 in
set_option maxHeartbeats 2000000 in
theorem check_any (w : World) (x bw ub u : Nat) (ws : List Nat) (h : StoR w x bw ub u ws) : Calls Try.prog 42 #[ptr x] w fun e w' => e = .returned (.bool true) ∧ Below w.heap.size w w' := by
  obtain ⟨c0, c1, -, -, -⟩ := h.at0
  go_enter Try.func42, Try.ntmps42
  go_wp2
  go_loopw [25] (fun i wr => ∃ k : Nat, k ≤ 8 ∧ i = I k ∧ wr = w) (fun i _ => (8 - intOf i).toNat)
  case atStart => exact ⟨0, by omega, rfl, rfl⟩
  case round =>
    obtain ⟨k, hk, rfl, rfl⟩ := hrel
    by_cases hlt : k < 8
    · have q1 : (k : Int) < 8 := by omega
      obtain ⟨p1, -⟩ := h.word k hlt
      have hb := body_bits _ (h.lt k)
      have hf := h.free k hlt
      have hH := has_any wr ub u k (by omega) (by have := h.hu; omega) h.brd
      generalize ws.getD k 0 = n at *
      by_cases hn : n = 0
      · subst hn
        clear hf
        go_wp2
        go_roundw
        case rel => exact ⟨k + 1, by omega, by go_num, trivial⟩
        case measure => simp [intOf]; omega
      · have hn' : ((n : Int) != 0) = true := by simpa using hn
        have hbit : u.testBit k = true := by
          cases e : u.testBit k with
          | true => rfl
          | false => exact absurd (hf e) hn
        rw [hbit] at hH
        clear hf hn
        go_wp2_with fail
        refine hH.mono ?_
        rintro e w1 ⟨rfl, rfl⟩
        go_wp2
        go_roundw
        case rel => exact ⟨k + 1, by omega, by go_num, trivial⟩
        case measure => simp [intOf]; omega
    · obtain rfl : k = 8 := by omega
      go_wp2_with fail
      refine (highest_any wr ub u h.hu h.brd).mono ?_
      rintro e w1 ⟨⟨n, f, rfl, hn⟩, m, e2⟩
      have hn' : (n : Int) < 8 := by omega
      have bb : Below wr.heap.size wr w1 := by rw [e2]; exact ⟨rfl, rfl, rfl, Nat.le_refl _, fun _ _ => rfl⟩
      clear e2
      cases f with
      | true =>
        go_wp2
        go_ret
        exact ⟨rfl, bb⟩
      | false =>
        go_wp2
        go_ret
        exact ⟨rfl, bb⟩

def recT (i n : Nat) : List UInt8 := itoa i ++ [61] ++ shH (unK n) (unD n) (unL n) (unF n) (unS n) ++ [59]
def showT (u : Nat) (ws : List Nat) : Nat → List UInt8
  | 0 => []
  | k + 1 => if u.testBit k then showT u ws k ++ recT k (ws.getD k 0) else showT u ws k
theorem recT_len (i n : Nat) (hi : i < 8) : (recT i n).length ≤ 140 := by
  have a := itoa_len (i : Nat) (by omega) (by omega)
  obtain ⟨b1, b2, b3, b4, b5⟩ := un_in64 n
  have b := shH_len _ _ _ _ _ b1 b2 b3 b4 b5
  unfold recT
  simp only [List.length_append, List.length_singleton]
  omega
theorem showT_len (u : Nat) (ws : List Nat) : ∀ k, k ≤ 8 → (showT u ws k).length ≤ 140 * k
  | 0, _ => by simp [showT]
  | k + 1, h => by
    have a := showT_len u ws k (by omega)
    have b := recT_len k (ws.getD k 0) (by omega)
    unfold showT
    split
    · rw [List.length_append]; omega
    · omega

set_option maxRecDepth 100000 in
set_option maxHeartbeats 2000000 in
theorem show_any (w : World) (x bw ub u : Nat) (ws : List Nat) (h : StoR w x bw ub u ws) : Calls Try.prog 41 #[ptr x] w fun e w' => e = .returned (S (showT u ws 8)) ∧ Below w.heap.size w w' := by
  obtain ⟨c0, c1, -, -, -⟩ := h.at0
  go_enter Try.func41, Try.ntmps41
  go_wp2
  go_loopw [3, 13] (fun t i wr => ∃ k : Nat, k ≤ 8 ∧ t = S (showT u ws k) ∧ i = I k ∧ StoR wr x bw ub u ws ∧ Below w.heap.size w wr) (fun _ i _ => (8 - intOf i).toNat)
  case atStart => exact ⟨0, by omega, rfl, rfl, h, Below.refl _ _⟩
  case round =>
    clear c0 c1
    obtain ⟨k, hk, rfl, rfl, hr, br⟩ := hrel
    have hlen := showT_len u ws k hk
    rw [← str_size] at hlen
    have hlen' : (str (showT u ws k)).size ≤ 1120 := by omega
    clear hlen
    by_cases hlt : k < 8
    · have q1 : (k : Int) < 8 := by omega
      obtain ⟨c0, c1, -, -, -⟩ := hr.at0
      obtain ⟨p1, -⟩ := hr.word k hlt
      have hH := has_any wr ub u k (by omega) (by have := h.hu; omega) hr.brd
      have hl := hr.lt k
      have hstep : showT u ws (k + 1) = if u.testBit k then showT u ws k ++ recT k (ws.getD k 0) else showT u ws k := rfl
      generalize ws.getD k 0 = n at *
      obtain ⟨b1, b2, b3, b4, b5⟩ := un_in64 n
      have hsl := shH_len _ _ _ _ _ b1 b2 b3 b4 b5
      rw [← str_size] at hsl
      have hil := itoa_len (k : Nat) (by omega) (by omega)
      rw [← str_size] at hil
      cases hb : u.testBit k with
      | false =>
        rw [hb] at hH hstep
        rw [if_neg (by simp)] at hstep
        have HS : Hid _ := hstep
        clear hstep
        go_wp2_with fail
        refine hH.mono ?_
        rintro e w1 ⟨rfl, rfl⟩
        go_wp2
        go_roundw
        case rel => exact ⟨k + 1, by omega, by rw [HS.out], by go_num, hr, br⟩
        case measure => simp [intOf]; omega
      | true =>
        rw [hb] at hH hstep
        rw [if_pos rfl] at hstep
        have HS : Hid _ := hstep
        clear hstep
        go_wp2_with fail
        refine hH.mono ?_
        rintro e w1 ⟨rfl, rfl⟩
        go_wp2_with fail
        refine (unpack_any w1 n (by omega)).mono ?_
        rintro e w2 ⟨rfl, d2⟩
        have b2' := br.trans (d2.mono br.size)
        have h2 := hr.later d2
        clear c0 c1 p1 hH
        have aB := (Below.refl w2.heap.size w2).alloc (Nat.le_refl _) (.cells #[I (unK n), I (unD n), I (unL n), I (unF n), I (unS n)] 27)
        have B2 : Blk (w2.alloc (.cells #[I (unK n), I (unD n), I (unL n), I (unF n), I (unS n)] 27)) w2.heap.size #[I (unK n), I (unD n), I (unL n), I (unF n), I (unS n)] 27 := Blk.new rfl
        have h3 := h2.later aB
        have b3' := b2'.trans (aB.mono b2'.size)
        clear h2 b2' aB d2
        go_wp2_with fail
        generalize w2.alloc (.cells #[I (unK n), I (unD n), I (unL n), I (unF n), I (unS n)] 27) = v3 at *
        generalize w2.heap.size = G at *
        refine (itoa_any (k : Nat) (by omega) (by omega) v3).mono ?_
        rintro e w4 ⟨rfl, d4⟩
        have B4 := B2.below d4 B2.lt
        have h4 := h3.later d4
        have b4' := b3'.trans (d4.mono b3'.size)
        obtain ⟨o0, o1, o2⟩ := B4.facts
        clear B2 h3 b3' d4
        go_wp2_with fail
        refine (showH_any _ _ _ _ _ b1 b2 b3 b4 b5 w4).mono ?_
        rintro e w5 ⟨rfl, d5⟩
        have h5 := h4.later d5
        have b5' := b4'.trans (d5.mono b4'.size)
        clear o0 o1 o2 B4 h4 b4' d5
        go_wp2
        go_roundw
        case rel =>
          refine ⟨k + 1, by omega, ?_, by go_num, h5, b5'⟩
          show Value.string (str (showT u ws k) ++ str (itoa (k : Nat)) ++ str [61] ++ str (shH (unK n) (unD n) (unL n) (unF n) (unS n)) ++ str [59]) = _
          rw [HS.out]
          simp only [str_append, recT, List.append_assoc]
        case measure => simp [intOf]; omega
    · obtain rfl : k = 8 := by omega
      go_wp2
      go_ret
      exact ⟨rfl, br⟩
end Go.Proofs.Qxb6500468a
