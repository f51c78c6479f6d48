import Derived.Test.Qxb6500472aMod3
namespace Go.Proofs.Qxb6500472a
open Go.RowKit
attribute [local go_sem] run_store_float drewN_alloc drewN_setCell

set_option maxHeartbeats 4000000 in
theorem mShow_any (w : World) (p : Nat) (a : Option Addr) (cap : Nat) (k : Int) (ys : List Nat) (h : SerM w p a cap k ys) :
    Calls Try.prog 46 #[ptr p] w fun e w' => e = .returned (S (showF (ys.map can64))) ∧ SerM w' p a cap k ys ∧ Upd [p] w w' := by
  have h8 := h.le
  obtain ⟨c0, c1, f0, f1, lp⟩ := h.at0
  obtain ⟨A, hA⟩ : ∃ A, A = ys.map can64 := ⟨_, rfl⟩
  have hAl : A.length = ys.length := by rw [hA, List.length_map]
  rw [← hA]
  have HA : Hid _ := hA
  have HAl : Hid _ := hAl
  clear hA hAl
  go_enter Try.func46, Try.ntmps46
  go_wp2_with fail
  refine (itoa_any _ (by omega) (by omega) _).mono ?_
  rintro e w1 ⟨rfl, b1⟩
  have s1 := h.later b1
  clear c0 c1 f0 f1 lp
  have hl := itoa_len (ys.length : Nat) (by omega) (by omega)
  rw [← str_size] at hl
  go_wp2
  go_loopw [3, 4] (fun o i wr => ∃ j : Nat, j ≤ ys.length ∧ o = S (showPre A j) ∧ i = I (j : Int) ∧ SerM wr p a cap k ys ∧ Below w.heap.size w wr) (fun _ i _ => (ys.length - intOf i).toNat)
  case atStart =>
    refine ⟨0, by omega, ?_, rfl, s1, b1⟩
    show Value.string (str [110, 61] ++ str (itoa (ys.length : Nat))) = _
    rw [str_append]
    simp [showPre, HAl.out]
  case round =>
    obtain ⟨j, hj, rfl, rfl, sr, br⟩ := hrel
    obtain ⟨c0, c1, f0, f1, lp⟩ := sr.at0
    have hpl := showPre_len A j (by rw [HAl.out]; exact h8) (by rw [HAl.out]; exact hj)
    by_cases hlt : j < ys.length
    · obtain ⟨g, hg, hc, hcap, hgp, hgl⟩ := sr.form (by omega)
      subst hg
      have hci := hc j hlt
      have hjl : (j : Int) < (ys.length : Int) := by omega
      clear hc
      generalize hx : ys.getD j 0 = x at *
      have hxx := getD_can ys j hlt
      rw [hx] at hxx
      have Hxx : Hid _ := hxx
      clear hx hxx
      have htl := text_len x
      rw [← str_size] at htl
      go_wp2_with fail
      refine (text_any _ _).mono ?_
      rintro e w2 ⟨rfl, b2⟩
      go_wp2
      go_roundw
      case rel =>
        refine ⟨j + 1, by omega, ?_, by go_num, sr.later b2, br.trans (b2.mono br.size)⟩
        show Value.string (str (showPre A j) ++ str [32] ++ str (text64 x)) = _
        rw [str_append, str_append, showPre_succ A j (by rw [HAl.out]; exact hlt), HA.out, Hxx.out, ← text_can x]
      case measure => simp [intOf]; omega
    · have hje : j = ys.length := by omega
      subst hje
      clear hj hlt
      have sAl := HAl.out
      go_wp2_with fail
      refine (mSum_any wr p a cap k ys sr).mono ?_
      rintro e w2 ⟨v, rfl, cv, s2, b2⟩
      have br2 := br.trans (b2.mono br.size)
      clear c0 c1 f0 f1 lp b2 sr br
      have htl := text_len v
      rw [← str_size] at htl
      go_wp2_with fail
      refine (text_any _ _).mono ?_
      rintro e w3 ⟨rfl, b3⟩
      have s3 := s2.later b3
      have br3 := br2.trans (b3.mono br2.size)
      clear b3 s2 br2
      obtain ⟨c0, c1, f0, f1, lp⟩ := s3.at0
      by_cases hE : ys = []
      · have hz : ((ys.length : Int) == 0) = true := by simp; exact hE
        have HE : Hid _ := hE
        have S3 : Hid _ := s3
        clear hE s3
        go_wp2
        go_ret
        refine ⟨?_, S3.out, Upd.of_below br3⟩
        show Ending.returned (.string (str (showPre A ys.length) ++ str [32, 115, 61] ++ str (text64 v))) = _
        rw [str_append, str_append]
        unfold showF
        rw [← text_can v, show can .f64 v = sumF (ys.map can64) from cv, ← HA.out, HAl.out, if_pos (by rw [HA.out, HE.out]; rfl), List.append_nil]
      · have hz : ((ys.length : Int) == 0) = false := by simp; exact hE
        go_wp2_with fail
        refine (mMean_any w3 p a cap k ys s3).mono ?_
        rintro e w4 ⟨mv, rfl, cm, s4, b4⟩
        rw [if_neg hE]
        have u4 : Upd [p] w w4 := Upd.of_below (br3.trans (b4.mono br3.size))
        clear c0 c1 f0 f1 lp b4 s3 br3
        go_wp2_with fail
        refine (mMin_any w4 p a cap k ys s4).mono ?_
        rintro e w5 ⟨lv, rfl, cl, ⟨k5, s5⟩, b5⟩
        rw [if_neg hE]
        have u5 := u4.trans b5
        clear u4 b5 s4
        go_wp2_with fail
        refine (mMax_any w5 p a cap k5 ys s5).mono ?_
        rintro e w6 ⟨hv, rfl, ch, ⟨k6, s6⟩, b6⟩
        rw [if_neg hE]
        have u6 := u5.trans b6
        clear u5 b6 s5
        obtain ⟨c0, c1, f0, f1, lp⟩ := s6.at0
        have s7 := s6.asks k
        have u7 := u6.setCell (p := ⟨p, 1, none⟩) (by simp) (I k)
        have HE : Hid _ := hE
        clear hE
        have l1 := text_len mv
        have l2 := text_len lv
        have l3 := text_len hv
        rw [← str_size] at l1 l2 l3
        go_wp2_with fail
        clear c0 c1 f0 f1 lp
        generalize w6.setCell ⟨p, 1, none⟩ (I k) = W at *
        refine (text_any _ _).mono ?_
        rintro e w8 ⟨rfl, b8⟩
        have s8 := s7.later b8
        have u8 := u7.trans (Upd.of_below b8)
        clear s7 u7 b8
        go_wp2_with fail
        refine (text_any _ _).mono ?_
        rintro e w9 ⟨rfl, b9⟩
        have s9 := s8.later b9
        have u9 := u8.trans (Upd.of_below b9)
        clear s8 u8 b9
        go_wp2_with fail
        refine (text_any _ _).mono ?_
        rintro e wA ⟨rfl, bA⟩
        have sA := s9.later bA
        have uA := u9.trans (Upd.of_below bA)
        clear s9 u9 bA
        have SA : Hid _ := sA
        clear sA s6 h s1
        go_wp2
        go_ret
        refine ⟨?_, SA.out, uA⟩
        show Ending.returned (.string (str (showPre A ys.length) ++ str [32, 115, 61] ++ str (text64 v) ++ str [32, 109, 61] ++ str (text64 mv) ++ str [32, 108, 61] ++ str (text64 lv) ++ str [32, 104, 61] ++ str (text64 hv))) = _
        simp only [str_append]
        unfold showF
        rw [← text_can v, ← text_can mv, ← text_can lv, ← text_can hv, show can .f64 v = _ from cv, show can .f64 mv = _ from cm, show can .f64 lv = _ from cl, show can .f64 hv = _ from ch, ← HA.out, HAl.out, if_neg (by rw [HA.out]; simpa using HE.out)]
        simp only [List.append_assoc]
end Go.Proofs.Qxb6500472a
