import Derived.Test.Qxb6500468aPk9
namespace Go.Proofs.Qxb6500468a
open Go.RowKit

def wAt (s : List UInt8) (a : Nat) : Nat → Nat
  | 0 => 0
  | j + 1 => wAt s a j * 256 + (s.getD (a + (j + 1)) 0).toNat
theorem wAt_lt (s : List UInt8) (a : Nat) : ∀ j, wAt s a j < 256 ^ j
  | 0 => by simp [wAt]
  | j + 1 => by
    have h := wAt_lt s a j
    have hb := (s.getD (a + (j + 1)) 0).toNat_lt
    unfold wAt
    rw [Nat.pow_succ]
    omega
theorem wAt7 (s : List UInt8) (a : Nat) : wAt s a 7 < 72057594037927936 := wAt_lt s a 7
def z8 : List Nat := [0, 0, 0, 0, 0, 0, 0, 0]
def impU (s : List UInt8) : Nat → Nat
  | 0 => 0
  | m + 1 => impU s m ||| 2 ^ slotAt s m
def impW (s : List UInt8) : Nat → List Nat
  | 0 => z8
  | m + 1 => (impW s m).set (slotAt s m) (wAt s (8 * m) 7)
theorem StoR.of_parts {w : World} {x bw ub : Nat} {u : Nat} {ws : List Nat} {w0 : World} {u0 : Nat} {ws0 : List Nat} (h : StoR w0 x bw ub u0 ws0) (H : Blk w x #[.slice (some ⟨bw, 0, none⟩) 8 8, ptr ub] 70) (R : Blk w bw (wsC ws) 28) (B : Blk w ub (brdC u) 88) (l : ws.length = 8) (hu : u < 256) (lt : ∀ i, ws.getD i 0 < 72057594037927936) (fr : ∀ i, i < 8 → u.testBit i = false → ws.getD i 0 = 0) : StoR w x bw ub u ws :=
  ⟨H, R, B, l, hu, lt, fr, h.d1, h.d2, h.d3⟩
theorem z8_at (i : Nat) : z8.getD i 0 = 0 := by
  rw [List.getD_eq_getElem?_getD]
  by_cases hi : i < 8
  · have : i = 0 ∨ i = 1 ∨ i = 2 ∨ i = 3 ∨ i = 4 ∨ i = 5 ∨ i = 6 ∨ i = 7 := by omega
    rcases this with rfl | rfl | rfl | rfl | rfl | rfl | rfl | rfl <;> rfl
  · rw [List.getElem?_eq_none (by simp [z8]; omega)]; rfl
/-- All cells of ws are zero. -/
theorem ws_zero (ws : List Nat) (hl : ws.length = 8) (h : ∀ i, i < 8 → ws.getD i 0 = 0) : ws = z8 := by
  apply List.ext_getElem?
  intro i
  by_cases hi : i < 8
  · rw [List.getElem?_eq_getElem (by omega), List.getElem?_eq_getElem (by simp [z8]; omega)]
    have a := h i hi
    have b := z8_at i
    rw [List.getD_eq_getElem?_getD, List.getElem?_eq_getElem (by omega), Option.getD_some] at a
    rw [List.getD_eq_getElem?_getD, List.getElem?_eq_getElem (by simp [z8]; omega), Option.getD_some] at b
    rw [a, b]
  · rw [List.getElem?_eq_none (by omega), List.getElem?_eq_none (by simp [z8]; omega)]
theorem or_byte (n : Nat) (b : Nat) (hn : n < 281474976710656) (hb : b < 256) : bits .or .u64 ((n : Int) * 256) (b : Int) = ((n * 256 + b : Nat) : Int) := by
  rw [show ((n : Int) * 256) = ((n * 256 : Nat) : Int) from by omega, u64_or_nat _ _ (by omega) (by omega), Nat.mul_comm, show (256 : Nat) = 2 ^ 8 from rfl, ← Nat.two_pow_add_eq_or_of_lt (by omega)]

def badE (s : List UInt8) : Int := if 64 < s.length then 1 else 9
set_option maxRecDepth 100000 in
set_option maxHeartbeats 4000000 in
theorem import_bad (w : World) (x bw ub u : Nat) (ws : List Nat) (h : StoR w x bw ub u ws) (s : List UInt8) (hn : ¬ imgOk s) : Calls Try.prog 40 #[ptr x, S s] w fun e w' => e = .returned (I (badE s)) ∧ w' = w := by
  go_enter Try.func40, Try.ntmps40
  go_wp2_with fail
  refine (judge_any s w).mono ?_
  rintro e w1 ⟨j, rfl, rfl, hj⟩
  have hj0 : (j != 0) = true ∧ Hid (j = badE s) := by
    rcases hj with ⟨-, h0⟩ | ⟨rfl, h1⟩ | ⟨rfl, h1, -⟩
    · exact absurd h0 hn
    · exact ⟨rfl, by show _ = badE s; unfold badE; rw [if_pos h1]⟩
    · exact ⟨rfl, by show _ = badE s; unfold badE; rw [if_neg (by omega)]⟩
  obtain ⟨hj1, hj2⟩ := hj0
  go_wp2
  go_ret
  refine ⟨?_, rfl⟩
  rw [← hj2.out]
  rfl

set_option maxRecDepth 100000 in
set_option maxHeartbeats 4000000 in
theorem import_ok (w : World) (x bw ub u : Nat) (ws : List Nat) (h : StoR w x bw ub u ws) (s : List UInt8) (hn : imgOk s) : Calls Try.prog 40 #[ptr x, S s] w fun e w' => e = .returned (I 0) ∧ StoR w' x bw ub (impU s (s.length / 8)) (impW s (s.length / 8)) ∧ Upd [bw, ub] w w' := by
  have hz := str_size s
  have h64 := hn.1
  obtain ⟨c0, c1, lx, lb, lu⟩ := h.at0
  have d2' : ub ≠ x := fun e => h.d2 e.symm
  have d1' : bw ≠ x := fun e => h.d1 e.symm
  have d3' := h.d3
  go_enter Try.func40, Try.ntmps40
  go_wp2_with fail
  refine (judge_any s w).mono ?_
  rintro e w1 ⟨j, rfl, rfl, hj⟩
  obtain rfl : j = 0 := by
    rcases hj with ⟨h0, -⟩ | ⟨-, h1⟩ | ⟨-, -, h1⟩
    · exact h0
    · omega
    · exact absurd hn h1
  clear hj
  go_wp2_with fail
  refine (reset_any w1 ub u h.brd).mono ?_
  rintro e w2 ⟨rfl, B2, k2⟩
  have H2 := h.head.upd k2 (by simp; exact h.d2)
  have R2 := h.rows.upd k2 (by simp; exact h.d3)
  have K2 : Upd [bw, ub] w1 w2 := k2.mono (by simp)
  have e0 : w2.cell? ⟨x, 0, none⟩ = some (.slice (some ⟨bw, 0, none⟩) 8 8) := H2.cell 0
  clear c0 c1 k2
  go_wp2
  go_loopw [26] (fun i wr => ∃ (k : Nat) (ws' : List Nat), k ≤ 8 ∧ i = I k ∧ ws'.length = 8 ∧ Hid (∀ j, j < k → ws'.getD j 0 = 0) ∧ Blk wr x #[.slice (some ⟨bw, 0, none⟩) 8 8, ptr ub] 70 ∧ Blk wr bw (wsC ws') 28 ∧ Blk wr ub (brdC 0) 88 ∧ Upd [bw, ub] w1 wr) (fun i _ => (8 - intOf i).toNat)
  case atStart => exact ⟨0, ws, by omega, rfl, h.len, fun j hj => by omega, H2, R2, B2, K2⟩
  case round =>
    clear e0 H2 R2 K2 B2
    obtain ⟨k, ws', hk, rfl, hl8, hz0, H3, R3, B3, K3⟩ := hrel
    have e0 : wr.cell? ⟨x, 0, none⟩ = some (.slice (some ⟨bw, 0, none⟩) 8 8) := H3.cell 0
    by_cases hlt : k < 8
    · have q1 : (k : Int) < 8 := by omega
      have p1 := (R3.cell k).trans (wsC_at ws' k (by omega))
      have p2 := R3.frozen k
      have R4 := R3.set (i := k) (W64 0)
      rw [wsC_set] at R4
      have H4 : Blk (wr.setCell ⟨bw, k, none⟩ (W64 0)) x #[.slice (some ⟨bw, 0, none⟩) 8 8, ptr ub] 70 := H3.other (fun e => d1' e.symm) _
      have B4 : Blk (wr.setCell ⟨bw, k, none⟩ (W64 0)) ub (brdC 0) 88 := B3.other (fun e => d3' e.symm) _
      have K4 := K3.setCell (p := ⟨bw, k, none⟩) (by simp) (W64 0)
      generalize ws'.getD k 0 = old at *
      go_wp2
      go_roundw
      case rel =>
        refine ⟨k + 1, ws'.set k 0, by omega, by go_num, by rw [List.length_set]; exact hl8, ?_, H4, R4, B4, K4⟩
        intro j hj
        rw [getD_set _ _ _ _ (by omega)]
        split
        · rfl
        · exact hz0.out j (by omega)
      case measure => simp [intOf]; omega
    · have hke : k = 8 := by omega
      have q1 : ¬ (k : Int) < 8 := by omega
      obtain rfl := ws_zero ws' hl8 (fun j hj => hz0.out j (by omega))
      clear hke hk hlt
      have S0 : StoR wr x bw ub (impU s 0) (impW s 0) := StoR.of_parts h H3 R3 B3 rfl (by show (0 : Nat) < 256; decide) (fun i => by rw [show impW s 0 = z8 from rfl, z8_at]; decide) (fun i _ _ => z8_at i)
      clear H3 R3 B3 e0 hz0 hl8
      go_wp2
      go_loopw [7] (fun a wr' => ∃ m : Nat, 8 * m ≤ s.length ∧ a = I ((8 * m : Nat) : Int) ∧ StoR wr' x bw ub (impU s m) (impW s m) ∧ Upd [bw, ub] w1 wr') (fun a _ => (s.length - intOf a).toNat)
      case atStart => exact ⟨0, by omega, rfl, S0, K3⟩
      case round =>
        clear S0 K3
        obtain ⟨m, hm, rfl, Sm, Km⟩ := hrel
        by_cases hlt2 : 8 * m < s.length
        · have hrec := hn.2.2 m (by have := hn.2.1; omega)
          have h8m : 8 * m + 8 ≤ s.length := by have := hn.2.1; omega
          have g0 := str_get s (8 * m) hlt2
          have hsl : (s.getD (8 * m) 0).toNat = slotAt s m := rfl
          rw [hsl] at g0
          have hσ : slotAt s m < 8 := hrec.1
          have hput := fun (w3 w4 : World) R k1 B k2 => Sm.put (w1 := w3) (w2 := w4) (slotAt s m) (wAt s (8 * m) 7) hσ (wAt7 s _) R k1 B k2
          have hpU : impU s (m + 1) = impU s m ||| 2 ^ slotAt s m := rfl
          have hpW : impW s (m + 1) = (impW s m).set (slotAt s m) (wAt s (8 * m) 7) := rfl
          rw [← hpU, ← hpW] at hput
          have HP : Hid _ := hput
          clear hput hrec hsl
          have HC : Hid (slotAt s m = slotAt s m) := rfl
          obtain ⟨W7, hW7⟩ : ∃ W7, W7 = wAt s (8 * m) 7 := ⟨_, rfl⟩
          have hlt' : ((8 * m : Nat) : Int) < (s.length : Int) := by omega
          obtain ⟨a8, ha8⟩ : ∃ a8, a8 = 8 * m := ⟨_, rfl⟩
          have hm64 : a8 + 8 ≤ 64 := by omega
          have gk : ∀ j, j < 7 → ∀ hh, ((str s)[a8 + (j + 1)]'hh).toNat = (s.getD (a8 + (j + 1)) 0).toNat := fun j hj => str_get s _ (by omega)
          rw [← ha8] at g0 hlt' hW7 ⊢
          have HA8 : Hid _ := ha8
          have hal : a8 + 8 ≤ s.length := by omega
          clear ha8
          have HGK : Hid _ := gk
          have HW7 : Hid _ := hW7
          clear gk hW7 hpU hpW hlt2 hm h8m HC
          go_wp2
          go_loopw [8, 9] (fun ww kk wr' => ∃ j : Nat, j ≤ 7 ∧ ww = W64 (wAt s a8 j) ∧ kk = I ((j : Int) + 1) ∧ wr' = wr) (fun _ kk _ => (8 - intOf kk).toNat)
          case atStart => exact ⟨0, by omega, rfl, rfl, rfl⟩
          case round =>
            obtain ⟨j, hj, rfl, rfl, rfl⟩ := hrel
            have hwl := wAt_lt s a8 j
            by_cases hj7 : j < 7
            · have gj := HGK.out j hj7
              have hb := (s.getD (a8 + (j + 1)) 0).toNat_lt
              have hst : wAt s a8 (j + 1) = wAt s a8 j * 256 + (s.getD (a8 + (j + 1)) 0).toNat := rfl
              have hw48 : wAt s a8 j < 281474976710656 := by
                have : 256 ^ j ≤ 256 ^ 6 := Nat.pow_le_pow_right (by decide) (by omega)
                have e6 : (256 : Nat) ^ 6 = 281474976710656 := by decide
                omega
              generalize (s.getD (a8 + (j + 1)) 0).toNat = b at *
              generalize wAt s a8 j = n at *
              have eb := or_byte n b hw48 hb
              have HEB : Hid _ := eb
              have HST : Hid _ := hst
              clear eb hst hwl
              have q2 : (j : Int) + 1 < 8 := by omega
              have q3 : 0 ≤ (a8 : Int) + ((j : Int) + 1) := by omega
              have q4 : (a8 : Int) + ((j : Int) + 1) < (s.length : Int) := by omega
              have q5 := wr64 ((a8 : Int) + ((j : Int) + 1)) (by omega) (by omega)
              have q6 := wr64 ((j : Int) + 1 + 1) (by omega) (by omega)
              go_wp2
              go_roundw
              case rel => exact ⟨j + 1, by omega, by rw [HEB.out, HST.out], by go_num, trivial⟩
              case measure => simp [intOf]; omega
            · obtain rfl : j = 7 := by omega
              rw [← HW7.out]
              have hW := wAt7 s a8
              rw [← HW7.out] at hW
              clear hwl
              obtain ⟨c0, c1, -, -, -⟩ := Sm.at0
              obtain ⟨p1, p2⟩ := Sm.word (slotAt s m) hσ
              have R4 := Sm.rows.set (i := slotAt s m) (W64 W7)
              rw [wsC_set] at R4
              have k4 : Upd [bw] wr (wr.setCell ⟨bw, slotAt s m, none⟩ (W64 W7)) := (Upd.refl _ _).setCell (by simp) _
              have BR := Sm.brd.upd k4 (by simp; exact fun e => d3' e.symm)
              have HX := Sm.head.upd k4 (by simp; exact fun e => d1' e.symm)
              have r8 : (wr.setCell ⟨bw, slotAt s m, none⟩ (W64 W7)).cell? ⟨x, 1, none⟩ = some (ptr ub) := HX.cell 1
              have hAdd := add_any _ ub (impU s m) (slotAt s m) (by omega) (by have := Sm.hu; omega) BR
              have hs8 : (slotAt s m : Int) < 8 := by omega
              have HR4 : Hid _ := R4
              have w8 := wr64 ((a8 : Int) + 8) (by omega) (by omega)
              generalize (impW s m).getD (slotAt s m) 0 = old at *
              generalize hσe : slotAt s m = σ at *
              clear BR HX R4
              go_wp2_with fail
              refine hAdd.mono ?_
              rintro e w6 ⟨rfl, B6, k6⟩
              have S6 := HP.out _ _ (by rw [show impW s (m + 1) = (impW s m).set σ W7 from by rw [← hσe, HW7.out, HA8.out]; rfl]; exact HR4.out) k4 (by rw [show impU s (m + 1) = impU s m ||| 2 ^ σ from by rw [← hσe]; rfl]; exact B6) k6
              have K6 := Km.trans ((k4.mono (by simp)).trans (k6.mono (by simp)))
              go_wp2
              go_roundw
              case rel => exact ⟨m + 1, by have := HA8.out; omega, by have := HA8.out; go_num, S6, K6⟩
              case measure => simp [intOf]; omega
        · have hme : m = s.length / 8 := by have := hn.2.1; omega
          have hlt' : ¬ ((8 * m : Nat) : Int) < (s.length : Int) := by omega
          obtain ⟨a8, ha8⟩ : ∃ a8, a8 = 8 * m := ⟨_, rfl⟩
          rw [← ha8] at hlt' ⊢
          rw [hme] at Sm
          clear ha8 hme hlt2 hm
          go_wp2
          go_ret
          exact ⟨rfl, Sm, Km⟩
end Go.Proofs.Qxb6500468a
