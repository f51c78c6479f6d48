import Derived.Test.Qxb6500470aKzc
namespace Go.Proofs.Qxb6500470a
open Go.RowKit
set_option maxRecDepth 100000 in
set_option maxHeartbeats 16000000 in
theorem kept_et {L : Nat → Prop} {w : World} {m1 p1 m2 p2 p3 : Nat} {acc : Int} {st : List TV} (h : XYZ L w m1 p1 m2 p2 p3 acc st acc st st) (p : List UInt8) (hp : p.length ≤ 24) (n : Nat) (A : Int) (ST : List TV) (E : Int) (hE : E ≠ 0) (hn : n < p.length) (hR0 : runAllT p acc st = (n, E, A, ST)) :
    Calls Try.prog 49 #[ptr m1, ptr m2, yv p2, yv p3, I acc, S p, .bool true] w (KP L w m1 p1 m2 p2 p3 A ST) := by
  obtain ⟨L', H⟩ := HX.start h
  have hz := str_size p
  have HR : Hid (runT 30 p 0 acc st = (n, E, A, ST)) := by
    unfold runAllT at hR0
    rw [if_neg (by omega)] at hR0
    exact hR0
  have hrun : ∀ W, HX L L' w W w.heap.size (w.heap.size + 1) m1 p1 m2 p2 p3 acc st acc st st → Calls Try.prog 30 #[ptr m1, S p] W fun e w' => e = .returned (.tuple #[I n, I E]) ∧ HX L L' w w' w.heap.size (w.heap.size + 1) m1 p1 m2 p2 p3 A ST acc st st := fun W hW => hx_run hW p (by omega) _ hR0
  have q1 : ¬ (24 : Int) < (p.length : Int) := by omega
  have q2 : ¬ (n : Int) < 0 := by omega
  have q3 : ¬ (p.length : Int) < (n : Int) := by omega
  have d1 : decide ((24 : Int) < (p.length : Int)) = false := decide_eq_false q1
  have d2 : decide ((n : Int) < 0) = false := decide_eq_false q2
  have d3 : decide (p.length < n) = false := decide_eq_false (by omega)
  have d4 : decide ((p.length : Int) < (n : Int)) = false := decide_eq_false q3
  have hp24 : ((str p).size : Int) ≤ 24 := by omega
  have hn24 : n ≤ 24 := by omega
  have HP24 : Hid (p.length ≤ 24) := hp
  have e1 : (E == 0) = false := by simpa using hE
  have e2 : (E != 0) = true := by simpa using hE
  have e3 : ((n : Int) == (p.length : Int)) = false := by simp; omega
  have HE : Hid (E ≠ 0) := hE
  have HN : Hid (n < p.length) := hn
  clear hE
  clear hR0 hn
  unfold yv at *
  go_enter Try.func49, Try.ntmps49
  go_wp2_with fail
  refine (hrun _ H).mono ?_
  rintro e w1 ⟨rfl, H1⟩
  go_wp2
  go_loopw [4, 20, 21, 22, 23] (fun a i f o _ wr => ∃ (k : Nat) (ak : Int) (sk : List TV) (fl : Nat), a = I ak ∧ i = I k ∧ f = I 0 ∧ o = .bool true ∧ k ≤ n ∧ Hid (runT fl p k ak sk = (n, E, A, ST)) ∧ Hid (p.length < k + fl) ∧ HX L L' w wr w.heap.size (w.heap.size + 1) m1 p1 m2 p2 p3 A ST ak sk sk) (fun _ i _ _ _ _ => (n - intOf i).toNat)
  case atStart => exact ⟨0, acc, st, 30, rfl, rfl, rfl, rfl, by omega, HR.out, by have := HP24.out; show p.length < 0 + 30; omega, H1⟩
  case round =>
    clear H1 H hrun HR
    obtain ⟨k, ak, sk, fl, rfl, rfl, rfl, rfl, hk, HR, HF, H2⟩ := hrel
    obtain ⟨c1, c2⟩ := H2.cells
    by_cases hlt : k < n
    · have q4 : (k : Int) < (n : Int) := by omega
      obtain ⟨c, r, fl', hd, hw0, hrr, hff, hle⟩ := runT_loop fl p k ak sk _ HR.out HF.out (by show n ≤ p.length; have := HN.out; omega) hlt
      have HW := word_w p k HP24.out c r hd
      have HC := str_cut p k c r hd
      have hwp := wdT_pos c r
      have htl := tl_len c r
      have hle' : k + wdT c r ≤ n := hle
      have HH : ∀ W, HX L L' w W w.heap.size (w.heap.size + 1) m1 p1 m2 p2 p3 A ST ak sk sk → Calls Try.prog 67 #[ptr m2, .agg #[ptr p2], .agg #[ptr p3], I ak, S (c :: tlT c r)] W fun e w' => e = .returned (.tuple #[I 0, I (wordT c (tlT c r) ak sk).2.2.1, .bool true]) ∧ HX L L' w w' w.heap.size (w.heap.size + 1) m1 p1 m2 p2 p3 A ST (wordT c (tlT c r) ak sk).2.2.1 (wordT c (tlT c r) ak sk).2.2.2 (wordT c (tlT c r) ak sk).2.2.2 :=
        fun W hW => hx_held hW c (tlT c r) (by have := HP24.out; omega) (tl_isW c r) _ _ _ (by rw [← hw0])
      have HRR : Hid _ := hrr
      have HFF : Hid _ := hff
      clear hrr hff htl hle hd hw0 HR HF
      generalize (wordT c (tlT c r) ak sk).2.2.1 = ak' at *
      generalize (wordT c (tlT c r) ak sk).2.2.2 = sk' at *
      generalize (c :: tlT c r) = t at *
      generalize wdT c r = wd at *
      have r1 := wr64 ((k : Int) + (wd : Int)) (by omega) (by omega)
      go_wp2_with fail
      refine (HW _).mono ?_
      rintro e w3 ⟨rfl, rfl⟩
      go_wp2_with fail
      go_region_held3 (fun W => W.cell? ⟨w.heap.size, 0, none⟩ = some (ptr p2) ∧ W.cell? ⟨w.heap.size + 1, 0, none⟩ = some (ptr p3)) (go_keep) (first | (go_at_call 67; refine (HH _ (by first | exact H2 | exact H2.drewN 1)).mono ?_; rintro e w4 ⟨rfl, H4⟩; clear H2 c1 c2; obtain ⟨c1, c2⟩ := H4.cells))
      go_wp2
      go_roundw
      case rel => exact ⟨k + wd, ak', sk', fl', rfl, by go_num, rfl, rfl, by omega, HRR.out, HFF.out, H4⟩
      case measure => simp [intOf]; omega
    · obtain rfl : k = n := by omega
      have q4 : ¬ (k : Int) < (k : Int) := by omega
      obtain ⟨c, r, hd, hwE, hst, -⟩ := runT_last fl p ak sk (k, E, A, ST) HR.out HF.out HN.out
      have hst' : (A, ST) = (ak, sk) := hst
      have hwE' : (wordT c (tlT c r) ak sk).2.1 = E := hwE
      have hbad := wordT_bad c (tlT c r) ak sk (by rw [hwE']; exact HE.out)
      have hd' : p.drop k = c :: r := hd
      obtain ⟨rfl, rfl⟩ : A = ak ∧ ST = sk := by simpa using hst'
      obtain ⟨-, -, h3⟩ := dropG hd'
      have HW := word_w p k HP24.out c r hd'
      have HC := str_cut p k c r hd'
      have hwl := wdT_le c r
      have htl := tl_len c r
      have HH : ∀ W, HX L L' w W w.heap.size (w.heap.size + 1) m1 p1 m2 p2 p3 A ST A ST ST → Calls Try.prog 67 #[ptr m2, .agg #[ptr p2], .agg #[ptr p3], I A, S (c :: tlT c r)] W fun e w' => e = .returned (.tuple #[I E, I A, .bool true]) ∧ HX L L' w w' w.heap.size (w.heap.size + 1) m1 p1 m2 p2 p3 A ST A ST ST :=
        fun W hW => hx_held hW c (tlT c r) (by have := HP24.out; omega) (tl_isW c r) _ _ _ (by rw [hbad, hwE'])
      have hk63 : (k : Int) + (wdT c r : Int) ≤ 9223372036854775807 := by omega
      clear hst hst' hwE hwE' hbad hd hd' h3 hwl htl HR HF
      generalize (c :: tlT c r) = t at *
      generalize wdT c r = wd at *
      have r1 := wr64 ((k : Int) + (wd : Int)) (by omega) hk63
      go_wp2_with fail
      refine (HW _).mono ?_
      rintro e w3 ⟨rfl, rfl⟩
      go_wp2_with fail
      go_region_held3 (fun W => W.cell? ⟨w.heap.size, 0, none⟩ = some (ptr p2) ∧ W.cell? ⟨w.heap.size + 1, 0, none⟩ = some (ptr p3)) (go_keep) (first | (go_at_call 67; refine (HH _ (by first | exact H2 | exact H2.drewN 1)).mono ?_; rintro e w4 ⟨rfl, H5⟩; clear H2 c1 c2; obtain ⟨c1, c2⟩ := H5.cells))
      go_wp2
      go_ret2
      exact ⟨rfl, H5.done.1, H5.done.2⟩
end Go.Proofs.Qxb6500470a
