import Derived.Test.Qxb6500472aSer7
namespace Go.Proofs.Qxb6500472a
open Go.RowKit
attribute [local go_sem] run_store_float drewN_alloc drewN_setCell

set_option maxRecDepth 100000 in
set_option maxHeartbeats 8000000 in
theorem check_any (w : World) (p bl : Nat) (A : List Nat) (h : SerA w p bl A) :
    Calls Try.prog 94 #[ptr p] w fun e w' => e = .returned (.bool true) ∧ Below w.heap.size w w' := by
  obtain ⟨-, -, -, h8⟩ := h.lt
  obtain ⟨lv, s, l⟩ := h
  have L : Hid _ := l
  clear l
  obtain ⟨c0, c1, f0, f1⟩ := s.at0
  have g0 : ¬ (A.length : Int) < 0 := by omega
  have g1 : ¬ (8 : Int) < (A.length : Int) := by omega
  go_enter Try.func94, Try.ntmps94
  go_wp2
  go_loopw [3] (fun i wr => ∃ k : Nat, k ≤ A.length ∧ i = I (k : Int) ∧ SerR wr p bl lv A.length ∧ Below w.heap.size w wr) (fun i _ => (A.length - intOf i).toNat)
  case atStart => exact ⟨0, by omega, rfl, s, Below.refl _ _⟩
  case round =>
    clear c0 c1 f0 f1
    obtain ⟨k, hk, rfl, sr, br⟩ := hrel
    obtain ⟨c0, c1, f0, f1⟩ := sr.at0
    by_cases hlt : k < A.length
    · have hkd : decide ((k : Int) < (A.length : Int)) = true := by simp; omega
      obtain ⟨r0, r1, r2, r3⟩ := sr.row k (by omega)
      have hk8 : (k : Int) < 8 := by omega
      obtain ⟨x1, x2, x3, x4⟩ := fld (L.out k hlt)
      go_wp2_with fail
      refine (first_any _ _).mono ?_
      rintro e w1 ⟨sf, rfl, csf, b1⟩
      have s1 := sr.later b1
      have br1 := br.trans (b1.mono br.size)
      clear c0 c1 f0 f1 r0 r1 r2 r3 b1
      obtain ⟨c0, c1, f0, f1⟩ := s1.at0
      obtain ⟨r0, r1, r2, r3⟩ := s1.row k (by omega)
      have hne1 : w1.heap.size ≠ p := by have := s1.head.lt; omega
      have hne2 : w1.heap.size ≠ bl := by have := s1.rows.lt; omega
      have lp := s1.head.lt
      have lb := s1.rows.lt
      by_cases hk0 : k = 0
      · have Hk0 : Hid _ := hk0
        have hkz : ¬ (0 : Int) < (k : Int) := by omega
        clear hk0
        go_wp2_with fail
        obtain ⟨V, hV⟩ : ∃ V, w1.alloc (.cells #[D64 (lvAt lv k).x, D64 sf, D64 (lvAt lv k).x, D64 (lvAt lv k).x] 100) = V := ⟨_, rfl⟩
        have TQ : Blk V w1.heap.size #[D64 (lvAt lv k).x, D64 sf, D64 (lvAt lv k).x, D64 (lvAt lv k).x] 100 := by rw [← hV]; exact Blk.new rfl
        have sV : SerR V p bl lv A.length := by rw [← hV]; exact ⟨s1.head.old _, s1.rows.old _, s1.len, s1.le, s1.ne⟩
        have brV : Below w.heap.size w V := by rw [← hV]; exact br1.alloc br1.size _
        have hq : (⟨(lvAt lv k).x, sf, (lvAt lv k).x, (lvAt lv k).x⟩ : Lvl).can = levOf A k := by
          rw [Hk0.out] at csf x1 ⊢
          simp only [Lvl.can, csf, x1]
          rfl
        obtain ⟨q, hqq⟩ : ∃ q : Lvl, q = ⟨(lvAt lv k).x, sf, (lvAt lv k).x, (lvAt lv k).x⟩ := ⟨_, rfl⟩
        rw [← hqq] at hq
        replace TQ : Blk V w1.heap.size #[D64 q.x, D64 q.s, D64 q.l, D64 q.h] 100 := by rw [hqq]; exact TQ
        rw [hV]
        clear hV hqq c0 c1 f0 f1 r0 r1 r2 r3 csf lp lb
        generalize w1.heap.size = g at *
        obtain ⟨c0, c1, f0, f1⟩ := sV.at0
        obtain ⟨r0, r1, r2, r3⟩ := sV.row k (by omega)
        obtain ⟨y0, y1, y2⟩ := TQ.facts
        have z1 : V.cell? ⟨g, 1, none⟩ = some (D64 q.s) := y0 1
        have z2 : V.cell? ⟨g, 2, none⟩ = some (D64 q.l) := y0 2
        have z3 : V.cell? ⟨g, 3, none⟩ = some (D64 q.h) := y0 3
        have e1 : can64 (lvAt lv k).s = can64 q.s := by rw [x2, ← hq]; rfl
        have e2 : can64 (lvAt lv k).l = can64 q.l := by rw [x3, ← hq]; rfl
        have e3 : can64 (lvAt lv k).h = can64 q.h := by rw [x4, ← hq]; rfl
        have E1 : Hid _ := e1
        have E2 : Hid _ := e2
        have E3 : Hid _ := e3
        clear e1 e2 e3 y0 y1 hq x1 x2 x3 x4
        go_region_held3 (fun W => W.cell? ⟨p, 0, none⟩ = some (.slice (some ⟨bl, 0, none⟩) 8 8) ∧ W.cell? ⟨bl, k * 4 + 1, none⟩ = some (D64 (lvAt lv k).s) ∧ W.cell? ⟨g, 1, none⟩ = some (D64 q.s)) (go_keep) (first | (go_at_call 95; refine (same_true _ _ E1.out _).mono ?_; rintro e ws ⟨rfl, rfl⟩))
        all_goals
          go_wp2_with fail
          go_region_held3 (fun W => W.cell? ⟨p, 0, none⟩ = some (.slice (some ⟨bl, 0, none⟩) 8 8) ∧ W.cell? ⟨bl, k * 4 + 2, none⟩ = some (D64 (lvAt lv k).l) ∧ W.cell? ⟨g, 2, none⟩ = some (D64 q.l)) (go_keep) (first | (go_at_call 95; refine (same_true _ _ E2.out _).mono ?_; rintro e ws ⟨rfl, rfl⟩))
          all_goals
            go_wp2_with fail
            go_region_held3 (fun W => W.cell? ⟨p, 0, none⟩ = some (.slice (some ⟨bl, 0, none⟩) 8 8) ∧ W.cell? ⟨bl, k * 4 + 3, none⟩ = some (D64 (lvAt lv k).h) ∧ W.cell? ⟨g, 3, none⟩ = some (D64 q.h)) (go_keep) (first | (go_at_call 95; refine (same_true _ _ E3.out _).mono ?_; rintro e ws ⟨rfl, rfl⟩))
            all_goals
              go_wp2
              go_roundw
              case rel => exact ⟨k + 1, by omega, by go_num, ⟨sV.head, sV.rows, sV.len, sV.le, sV.ne⟩, (by first | exact brV.drew.drew.drew | exact Below.drewN brV _)⟩
              case measure => simp [intOf]; omega
      · obtain ⟨k', rfl⟩ : ∃ k', k = k' + 1 := ⟨k - 1, by omega⟩
        clear hk0
        have X1 := s1.head.old (.cells #[D64 (lvAt lv (k' + 1)).x, D64 sf, D64 (lvAt lv (k' + 1)).x, D64 (lvAt lv (k' + 1)).x] 100)
        have X2 := s1.rows.old (.cells #[D64 (lvAt lv (k' + 1)).x, D64 sf, D64 (lvAt lv (k' + 1)).x, D64 (lvAt lv (k' + 1)).x] 100)
        have X3 : Blk (w1.alloc (.cells #[D64 (lvAt lv (k' + 1)).x, D64 sf, D64 (lvAt lv (k' + 1)).x, D64 (lvAt lv (k' + 1)).x] 100)) w1.heap.size _ 100 := Blk.new rfl
        have sW : SerR (w1.alloc (.cells #[D64 (lvAt lv (k' + 1)).x, D64 sf, D64 (lvAt lv (k' + 1)).x, D64 (lvAt lv (k' + 1)).x] 100)) p bl lv A.length := ⟨X1, X2, s1.len, s1.le, s1.ne⟩
        have brW := br1.alloc br1.size (.cells #[D64 (lvAt lv (k' + 1)).x, D64 sf, D64 (lvAt lv (k' + 1)).x, D64 (lvAt lv (k' + 1)).x] 100)
        clear X1 X2
        obtain ⟨v0, v1, v2, v3⟩ := s1.row k' (by omega)
        have hwr := wr64 (k' : Int) (by omega) (by omega)
        have hk8' : (k' : Int) < 8 := by omega
        have hk80 : (0 : Int) ≤ (k' : Int) + 1 := by omega
        have hk81 : (k' : Int) + 1 < 8 := by omega
        have hkz : (0 : Int) < (k' : Int) + 1 := by omega
        go_wp2_with fail
        go_region_held3 (fun W => W.cell? ⟨p, 0, none⟩ = some (.slice (some ⟨bl, 0, none⟩) 8 8) ∧ W.cell? ⟨bl, k' * 4, none⟩ = some (D64 (lvAt lv k').x) ∧ W.cell? ⟨bl, k' * 4 + 1, none⟩ = some (D64 (lvAt lv k').s) ∧ W.cell? ⟨bl, k' * 4 + 2, none⟩ = some (D64 (lvAt lv k').l) ∧ W.cell? ⟨bl, k' * 4 + 3, none⟩ = some (D64 (lvAt lv k').h) ∧ W.cell? ⟨bl, (k' + 1) * 4, none⟩ = some (D64 (lvAt lv (k' + 1)).x)) (go_keep) (first | (go_at_call 65; refine (step_any _ _ _ _ _ _).mono ?_; rintro e w2 ⟨s', rfl, cs', b2⟩; have s2 := SerR.later (w := (w1.alloc (.cells #[D64 (lvAt lv (k' + 1)).x, D64 sf, D64 (lvAt lv (k' + 1)).x, D64 (lvAt lv (k' + 1)).x] 100)).drew) ⟨sW.head, sW.rows, sW.len, sW.le, sW.ne⟩ b2; obtain ⟨a0, a1, a2, a3⟩ := s2.at0; obtain ⟨a4, a5, a6, a7⟩ := s2.row k' (by omega); obtain ⟨a8, a9, a10, a11⟩ := s2.row (k' + 1) (by omega); have T2 := Blk.below (w := (w1.alloc (.cells #[D64 (lvAt lv (k' + 1)).x, D64 sf, D64 (lvAt lv (k' + 1)).x, D64 (lvAt lv (k' + 1)).x] 100)).drew) X3 b2 X3.lt; obtain ⟨a12, a13, a14⟩ := T2.facts))
        all_goals
          obtain ⟨V, hV⟩ : ∃ V, (((w2.setCell ⟨w1.heap.size, 0, none⟩ (D64 (lvAt lv (k' + 1)).x)).setCell ⟨w1.heap.size, 1, none⟩ (D64 s')).setCell ⟨w1.heap.size, 2, none⟩ (D64 (loF (lvAt lv k').l (lvAt lv (k' + 1)).x))).setCell ⟨w1.heap.size, 3, none⟩ (D64 (hiF (lvAt lv k').h (lvAt lv (k' + 1)).x)) = V := ⟨_, rfl⟩
          have TQ : Blk V w1.heap.size #[D64 (lvAt lv (k' + 1)).x, D64 s', D64 (loF (lvAt lv k').l (lvAt lv (k' + 1)).x), D64 (hiF (lvAt lv k').h (lvAt lv (k' + 1)).x)] 100 := by rw [← hV]; exact (((T2.set _).set _).set _).set _
          have uV : Upd [w1.heap.size] w2 V := by rw [← hV]; exact ((((Upd.refl _ _).setCell (by simp) _).setCell (by simp) _).setCell (by simp) _).setCell (by simp) _
          have sV : SerR V p bl lv A.length := s2.upd uV (by simp; exact fun e => hne1 e.symm) (by simp; exact fun e => hne2 e.symm)
          have brV : Below w.heap.size w V := ((brW.drew).trans (b2.mono brW.size)).trans (uV.below (by have := brW.size; have := b2.size; exact Nat.le_trans brW.size b2.size) (by simp; exact br1.size))
          have hq : (⟨(lvAt lv (k' + 1)).x, s', loF (lvAt lv k').l (lvAt lv (k' + 1)).x, hiF (lvAt lv k').h (lvAt lv (k' + 1)).x⟩ : Lvl).can = levOf A (k' + 1) := by
            obtain ⟨p1, p2, p3, p4⟩ := fld (L.out k' (by omega))
            simp only [Lvl.can, cs', loF_can, hiF_can, x1, p2, p3, p4]
            rfl
          obtain ⟨q, hqq⟩ : ∃ q : Lvl, q = ⟨(lvAt lv (k' + 1)).x, s', loF (lvAt lv k').l (lvAt lv (k' + 1)).x, hiF (lvAt lv k').h (lvAt lv (k' + 1)).x⟩ := ⟨_, rfl⟩
          rw [← hqq] at hq
          replace TQ : Blk V w1.heap.size #[D64 q.x, D64 q.s, D64 q.l, D64 q.h] 100 := by rw [hqq]; exact TQ
          rw [hV]
          clear hV hqq c0 c1 f0 f1 r0 r1 r2 r3 csf lp lb v0 v1 v2 v3 a0 a1 a2 a3 a4 a5 a6 a7 a8 a9 a10 a11 a12 a13 a14 T2 b2 s2 cs' uV X3 sW brW
          generalize w1.heap.size = g at *
          go_wp2_with fail
          obtain ⟨c0, c1, f0, f1⟩ := sV.at0
          obtain ⟨r0, r1, r2, r3⟩ := sV.row (k' + 1) (by omega)
          obtain ⟨y0, y1, y2⟩ := TQ.facts
          have z1 : V.cell? ⟨g, 1, none⟩ = some (D64 q.s) := y0 1
          have z2 : V.cell? ⟨g, 2, none⟩ = some (D64 q.l) := y0 2
          have z3 : V.cell? ⟨g, 3, none⟩ = some (D64 q.h) := y0 3
          have e1 : can64 (lvAt lv (k' + 1)).s = can64 q.s := by rw [x2, ← hq]; rfl
          have e2 : can64 (lvAt lv (k' + 1)).l = can64 q.l := by rw [x3, ← hq]; rfl
          have e3 : can64 (lvAt lv (k' + 1)).h = can64 q.h := by rw [x4, ← hq]; rfl
          have E1 : Hid _ := e1
          have E2 : Hid _ := e2
          have E3 : Hid _ := e3
          clear e1 e2 e3 y0 y1 hq x1 x2 x3 x4
          go_region_held3 (fun W => W.cell? ⟨p, 0, none⟩ = some (.slice (some ⟨bl, 0, none⟩) 8 8) ∧ W.cell? ⟨bl, (k' + 1) * 4 + 1, none⟩ = some (D64 (lvAt lv (k' + 1)).s) ∧ W.cell? ⟨g, 1, none⟩ = some (D64 q.s)) (go_keep) (first | (go_at_call 95; refine (same_true _ _ E1.out _).mono ?_; rintro e ws ⟨rfl, rfl⟩))
          all_goals
            go_wp2_with fail
            go_region_held3 (fun W => W.cell? ⟨p, 0, none⟩ = some (.slice (some ⟨bl, 0, none⟩) 8 8) ∧ W.cell? ⟨bl, (k' + 1) * 4 + 2, none⟩ = some (D64 (lvAt lv (k' + 1)).l) ∧ W.cell? ⟨g, 2, none⟩ = some (D64 q.l)) (go_keep) (first | (go_at_call 95; refine (same_true _ _ E2.out _).mono ?_; rintro e ws ⟨rfl, rfl⟩))
            all_goals
              go_wp2_with fail
              go_region_held3 (fun W => W.cell? ⟨p, 0, none⟩ = some (.slice (some ⟨bl, 0, none⟩) 8 8) ∧ W.cell? ⟨bl, (k' + 1) * 4 + 3, none⟩ = some (D64 (lvAt lv (k' + 1)).h) ∧ W.cell? ⟨g, 3, none⟩ = some (D64 q.h)) (go_keep) (first | (go_at_call 95; refine (same_true _ _ E3.out _).mono ?_; rintro e ws ⟨rfl, rfl⟩))
              all_goals
                go_wp2
                go_roundw
                case rel => exact ⟨k' + 1 + 1, by omega, by go_num, ⟨sV.head, sV.rows, sV.len, sV.le, sV.ne⟩, (by first | exact brV.drew.drew.drew | exact Below.drewN brV _)⟩
                case measure => simp [intOf]; omega
    · go_wp2
      go_ret
      exact ⟨rfl, br⟩
end Go.Proofs.Qxb6500472a
