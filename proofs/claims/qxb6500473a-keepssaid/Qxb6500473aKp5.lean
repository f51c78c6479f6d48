import Derived.Test.Qxb6500473aKp3
namespace Go.Proofs.Qxb6500473a
open Go.RowKit
attribute [local go_sem] run_store_float drewN_alloc drewN_setCell run_neg_float

theorem text_same0 (a : Nat) (h : can64 a = 0) : text64 a = text64 0 := by
  rw [← text_can a, ← text_can 0, show can .f64 a = 0 from h, show can .f64 0 = 0 from by decide +kernel]

set_option maxHeartbeats 8000000 in
set_option maxRecDepth 100000 in
theorem holds_none (w : World) (p bl q : Nat) (nu de : List Int) (h : SerA w p bl []) (g : GhR w q nu de 0) :
    Calls Try.prog 14 #[ptr p, ptr q] w fun e w' => e = .returned (.bool true) ∧ Below w.heap.size w w' := by
  have c16 : w.cell? ⟨q, 16, none⟩ = some (I 0) := g.cnt
  go_enter Try.func14, Try.ntmps14
  go_wp2_with fail
  go_region_held3 (fun W => W.cell? ⟨q, 16, none⟩ = some (I 0)) (go_keep) (first | (go_at_call 21; refine (len_all _ p bl [] (by first | exact h | exact h.drewN 1)).mono ?_; rintro e w1 ⟨rfl, rfl⟩))
  clear c16
  have h1 : SerA w.drew p bl [] := h.drewN 1
  have g1 : GhR w.drew q nu de 0 := g.drewN 1
  have b1 : Below w.heap.size w w.drew := Below.drewN (Below.refl _ _) 1
  generalize w.drew = v1 at *
  have c16 : v1.cell? ⟨q, 16, none⟩ = some (I 0) := g1.cnt
  go_wp2_with fail
  refine (min_all v1 p bl [] h1).mono ?_
  rintro e w2 ⟨lo, m2, rfl, clo, rfl⟩
  rw [if_pos rfl]
  have h2 := h1.drewN m2
  have g2 := g1.drewN m2
  have b2 := Below.drewN b1 m2
  generalize v1.drewN m2 = v2 at *
  clear h1 g1 b1 c16
  go_wp2_with fail
  refine (max_all v2 p bl [] h2).mono ?_
  rintro e w3 ⟨hi, m3, rfl, chi, rfl⟩
  rw [if_pos rfl]
  have h3 := h2.drewN m3
  have g3 := g2.drewN m3
  have b3 := Below.drewN b2 m3
  generalize v2.drewN m3 = v3 at *
  clear h2 g2 b2
  have c16 : v3.cell? ⟨q, 16, none⟩ = some (I 0) := g3.cnt
  have elo : text64 lo = text64 0 := text_same0 lo clo
  have ehi : text64 hi = text64 0 := text_same0 hi chi
  go_wp2_with fail
  refine (itoa_any 0 (by omega) (by omega) _).mono ?_
  rintro e w4 ⟨rfl, d4⟩
  have h4 := h3.later d4
  have g4 := g3.later d4
  have b4 := b3.trans (d4.mono b3.size)
  clear h3 g3 b3 d4 c16
  have hl := itoa_len 0 (by omega) (by omega)
  rw [← str_size] at hl
  go_wp2_with fail
  refine (text_any _ _).mono ?_
  rintro e w5 ⟨rfl, d5⟩
  rw [elo]
  have h5 := h4.later d5
  have g5 := g4.later d5
  have b5 := b4.trans (d5.mono b4.size)
  clear h4 g4 b4 d5
  go_wp2_with fail
  refine (text_any _ _).mono ?_
  rintro e w6 ⟨rfl, d6⟩
  rw [ehi]
  have h6 := h5.later d6
  have g6 := g5.later d6
  have b6 := b5.trans (d6.mono b5.size)
  clear h5 g5 b5 d6 elo ehi clo chi
  go_wp2
  go_loopw [10, 13, 14, 15, 16, 17, 18] (fun o sm z t l u i wr => o = S ([110, 61] ++ itoa 0) ∧ sm = .bool true ∧ z = I 0 ∧ t = D64 0 ∧ l = D64 0 ∧ u = D64 0 ∧ i = I 0 ∧ SerA wr p bl [] ∧ GhR wr q nu de 0 ∧ Below w.heap.size w wr) (fun _ _ _ _ _ _ _ _ => 0)
  case atStart =>
    refine ⟨?_, rfl, rfl, rfl, rfl, rfl, rfl, h6, g6, b6⟩
    show Value.string (str [110, 61] ++ str (itoa 0)) = _
    rw [str_append]
  case round =>
    clear h6 g6 b6
    obtain ⟨rfl, rfl, rfl, rfl, rfl, rfl, rfl, sr, gr, br⟩ := hrel
    have c16 : wr.cell? ⟨q, 16, none⟩ = some (I 0) := gr.cnt
    have tl := text_len 0
    rw [← str_size] at tl
    have hpl : (str ([110, 61] ++ itoa 0)).size ≤ 430 := by rw [str_size]; decide +kernel
    have tz : S (text64 0) = .string ⟨#[43, 48]⟩ := congrArg Value.string tx_zero
    generalize hpre : [110, 61] ++ itoa 0 = pre at *
    have HP : Hid _ := hpre
    clear hpre
    go_wp2_with fail
    refine (text_any _ _).mono ?_
    rintro e w1 ⟨rfl, d1⟩
    have s1 := sr.later d1
    have g1 := gr.later d1
    have b1 := br.trans (d1.mono br.size)
    clear sr gr br d1 c16
    go_wp2_with fail
    refine (text_any _ _).mono ?_
    rintro e w2 ⟨rfl, d2⟩
    have s2 := s1.later d2
    have g2 := g1.later d2
    have b2 := b1.trans (d2.mono b1.size)
    clear s1 g1 b1 d2
    go_wp2_with fail
    refine (sum_all w2 p bl [] s2).mono ?_
    rintro e w3 ⟨al, m3, rfl, cal, rfl⟩
    have s3 := s2.drewN m3
    have g3 := g2.drewN m3
    have b3 := Below.drewN b2 m3
    generalize w2.drewN m3 = v3 at *
    clear s2 g2 b2
    have e3 : text64 al = text64 0 := text_same0 al cal
    go_wp2_with fail
    refine (text_any _ _).mono ?_
    rintro e w4 ⟨rfl, d4⟩
    have s4 := s3.later d4
    have g4 := g3.later d4
    have b4 := b3.trans (d4.mono b3.size)
    clear s3 g3 b3 d4
    go_wp2_with fail
    refine (text_any _ _).mono ?_
    rintro e w5 ⟨rfl, d5⟩
    rw [e3]
    have s5 := s4.later d5
    have g5 := g4.later d5
    have b5 := b4.trans (d5.mono b4.size)
    clear s4 g4 b4 d5 e3
    go_wp2_with fail
    refine (mean_all w5 p bl [] s5).mono ?_
    rintro e w6 ⟨me, m6, rfl, cme, rfl⟩
    rw [if_pos rfl]
    have s6 := s5.drewN m6
    have g6 := g5.drewN m6
    have b6 := Below.drewN b5 m6
    generalize w5.drewN m6 = v6 at *
    clear s5 g5 b5
    have c16 : v6.cell? ⟨q, 16, none⟩ = some (I 0) := g6.cnt
    have e4 : text64 me = text64 0 := text_same0 me cme
    go_wp2_with fail
    refine (text_any _ _).mono ?_
    rintro e w9 ⟨rfl, d9⟩
    rw [e4, tz]
    have s9 := s6.later d9
    have g9 := g6.later d9
    have b9 := b6.trans (d9.mono b6.size)
    clear s6 g6 b6 d9 e4 c16
    have hsh : S (showF []) = .string (str pre ++ ⟨#[32, 115, 61]⟩ ++ ⟨#[43, 48]⟩) := by
      rw [show (⟨#[43, 48]⟩ : ByteArray) = str (text64 0) from tx_zero.symm]
      show _ = Value.string (str pre ++ str [32, 115, 61] ++ str (text64 0))
      rw [str_append, str_append, ← HP.out]
      unfold showF
      rw [if_pos rfl, List.append_nil]
      rfl
    go_wp2_with fail
    refine (show_any _ p bl [] s9).mono ?_
    rintro e wA ⟨rfl, dA⟩
    rw [hsh]
    have sA := s9.later dA
    have gA := g9.later dA
    have bA := b9.trans (dA.mono b9.size)
    clear s9 g9 b9 dA hsh
    go_wp2_with fail
    refine (beyond_any _ p bl [] sA (-1) (.inl (by omega))).mono ?_
    rintro e wB ⟨rfl, dB⟩
    have sB := sA.later dB
    have gB := gA.later dB
    have bB := bA.trans (dB.mono bA.size)
    clear sA gA bA dB
    have c16 : wB.cell? ⟨q, 16, none⟩ = some (I 0) := gB.cnt
    go_wp2_with fail
    refine (beyond_any _ p bl [] sB 0 (.inr (by simp))).mono ?_
    rintro e wC ⟨rfl, dC⟩
    have bC := bB.trans (dC.mono bB.size)
    clear sB gB bB dC c16
    have k : (FloatKind.f64.format.order al (floatOfInt .f64 0) == some .eq) = true := by
      have e := order_can .f64 al (floatOfInt .f64 0)
      rw [can_ofInt, show can .f64 al = _ from cal] at e
      rw [e]
      decide +kernel
    go_wp2
    go_ret
    exact ⟨rfl, bC⟩
end Go.Proofs.Qxb6500473a
