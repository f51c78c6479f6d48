import Derived.Test.Qxb6500472aSer6
namespace Go.Proofs.Qxb6500472a
open Go.RowKit
attribute [local go_sem] run_store_float drewN_alloc drewN_setCell

/-- The head of Show: "n=", the number, the first i samples. -/
def showPre (A : List Nat) (i : Nat) : List UInt8 := [110, 61] ++ itoa (A.length : Nat) ++ (A.take i).flatMap fun x => 32 :: text64 x
def showF (A : List Nat) : List UInt8 := showPre A A.length ++ [32, 115, 61] ++ text64 (sumF A) ++
  (if A = [] then [] else [32, 109, 61] ++ text64 (meanF A) ++ [32, 108, 61] ++ text64 (minF A) ++ [32, 104, 61] ++ text64 (maxF A))
theorem showPre_succ (A : List Nat) (i : Nat) (h : i < A.length) : showPre A (i + 1) = showPre A i ++ [32] ++ text64 (A.getD i 0) := by
  unfold showPre
  rw [List.take_succ_eq_append_getElem h, List.flatMap_append]
  have e : A.getD i 0 = A[i] := by rw [List.getD_eq_getElem?_getD, List.getElem?_eq_getElem h]; rfl
  rw [e]
  simp
theorem flat_len (l : List Nat) : (l.flatMap fun x => 32 :: text64 x).length ≤ 51 * l.length := by
  induction l with
  | nil => simp
  | cons a l ih =>
    have := text_len a
    simp only [List.flatMap_cons, List.length_append, List.length_cons]
    omega
theorem showPre_len (A : List Nat) (i : Nat) (h : A.length ≤ 8) (hi : i ≤ A.length) : (str (showPre A i)).size ≤ 430 := by
  rw [str_size]
  unfold showPre
  have h1 := itoa_len (A.length : Nat) (by omega) (by omega)
  have h2 := flat_len (A.take i)
  rw [List.length_take] at h2
  simp only [List.length_append, List.length_cons, List.length_nil]
  omega

set_option maxHeartbeats 4000000 in
theorem show_any (w : World) (p bl : Nat) (A : List Nat) (h : SerA w p bl A) :
    Calls Try.prog 45 #[ptr p] w fun e w' => e = .returned (S (showF A)) ∧ Below w.heap.size w w' := by
  obtain ⟨-, -, -, h8⟩ := h.lt
  obtain ⟨lv, s, l⟩ := h
  have L : Hid _ := l
  clear l
  obtain ⟨c0, c1, f0, f1⟩ := s.at0
  go_enter Try.func45, Try.ntmps45
  go_wp2_with fail
  refine (itoa_any _ (by omega) (by omega) _).mono ?_
  rintro e w1 ⟨rfl, b1⟩
  have s1 := s.later b1
  clear c0 c1 f0 f1
  have hl := itoa_len (A.length : Nat) (by omega) (by omega)
  rw [← str_size] at hl
  go_wp2
  go_loopw [3, 4] (fun o i wr => ∃ k : Nat, k ≤ A.length ∧ o = S (showPre A k) ∧ i = I (k : Int) ∧ SerR wr p bl lv A.length ∧ Below w.heap.size w wr) (fun _ i _ => (A.length - intOf i).toNat)
  case atStart =>
    refine ⟨0, by omega, ?_, rfl, s1, b1⟩
    show Value.string (str [110, 61] ++ str (itoa (A.length : Nat))) = _
    rw [str_append]
    simp [showPre]
  case round =>
    obtain ⟨k, hk, rfl, rfl, sr, br⟩ := hrel
    obtain ⟨c0, c1, f0, f1⟩ := sr.at0
    have hpl := showPre_len A k h8 hk
    by_cases hlt : k < A.length
    · have hkd : decide ((k : Int) < (A.length : Int)) = true := by simp; omega
      obtain ⟨r0, r1, r2, r3⟩ := sr.row k (by omega)
      have hk8 : (k : Int) < 8 := by omega
      have htl := text_len (lvAt lv k).x
      rw [← str_size] at htl
      go_wp2_with fail
      refine (text_any _ _).mono ?_
      rintro e w2 ⟨rfl, b2⟩
      go_wp2
      go_roundw
      case rel =>
        refine ⟨k + 1, by omega, ?_, by go_num, sr.later b2, br.trans (b2.mono br.size)⟩
        show Value.string (str (showPre A k) ++ str [32] ++ str (text64 (lvAt lv k).x)) = _
        rw [str_append, str_append, showPre_succ A k hlt, ← text_can, show can .f64 (lvAt lv k).x = A.getD k 0 from (fld (L.out k hlt)).1]
      case measure => simp [intOf]; omega
    · have hkA : k = A.length := by omega
      subst hkA
      clear hk hlt
      have sA : SerA wr p bl A := ⟨lv, sr, L.out⟩
      go_wp2_with fail
      refine (sum_all wr p bl A sA).mono ?_
      rintro e w2 ⟨v, m, rfl, cv, rfl⟩
      have htl := text_len v
      rw [← str_size] at htl
      go_wp2_with fail
      refine (text_any _ _).mono ?_
      rintro e w3 ⟨rfl, b3⟩
      have sA3 : SerA w3 p bl A := (sA.drewN m).later b3
      have br3 : Below w.heap.size w w3 := (Below.drewN br m).trans (b3.mono br.size)
      have s3 : SerR w3 p bl lv A.length := SerR.later (w := wr.drewN m) ⟨sr.head, sr.rows, sr.len, sr.le, sr.ne⟩ b3
      clear c0 c1 f0 f1 b3
      obtain ⟨c0, c1, f0, f1⟩ := s3.at0
      by_cases hA : A = []
      · have hz : ((A.length : Int) == 0) = true := by simp; exact hA
        have HA : Hid _ := hA
        clear hA
        go_wp2
        go_ret
        refine ⟨?_, br3⟩
        show Ending.returned (.string (str (showPre A A.length) ++ str [32, 115, 61] ++ str (text64 v))) = _
        rw [str_append, str_append]
        unfold showF
        rw [← text_can v, show can .f64 v = sumF A from cv, if_pos HA.out, List.append_nil]
      · obtain ⟨n, hn⟩ : ∃ n, A.length = n + 1 := ⟨A.length - 1, by have := List.length_pos_iff.2 hA; omega⟩
        have Hn : Hid _ := hn
        have hz : ((A.length : Int) == 0) = false := by simp; exact hA
        clear hn
        go_wp2_with fail
        refine (mean_all w3 p bl A sA3).mono ?_
        rintro e w4 ⟨mv, m4, rfl, cm, rfl⟩
        rw [if_neg hA]
        have hn := Hn.out
        obtain ⟨r0, r1, r2, r3⟩ := s3.row n (by omega)
        have hwr := wr64 (n : Int) (by omega) (by omega)
        have hlt8 : (n : Int) < 8 := by omega
        have hsub : (A.length : Int) - 1 = n := by omega
        clear hn
        have hne1 : w3.heap.size ≠ p := by have := s3.head.lt; omega
        have hne2 : w3.heap.size ≠ bl := by have := s3.rows.lt; omega
        go_wp2_with fail
        go_region_held3 (fun W => W.cell? ⟨p, 0, none⟩ = some (.slice (some ⟨bl, 0, none⟩) 8 8) ∧ W.cell? ⟨p, 1, none⟩ = some (I (A.length : Int)) ∧ W.cell? ⟨bl, n * 4, none⟩ = some (D64 (lvAt lv n).x) ∧ W.cell? ⟨bl, n * 4 + 1, none⟩ = some (D64 (lvAt lv n).s) ∧ W.cell? ⟨bl, n * 4 + 2, none⟩ = some (D64 (lvAt lv n).l) ∧ W.cell? ⟨bl, n * 4 + 3, none⟩ = some (D64 (lvAt lv n).h)) (go_keep) (fail)
        all_goals
          have T0 : Blk ((w3.alloc (.cells #[D64 (lvAt lv n).x, D64 (lvAt lv n).s, D64 (lvAt lv n).l, D64 (lvAt lv n).h] 100)).drewN (m4 + 1)) w3.heap.size #[D64 (lvAt lv n).x, D64 (lvAt lv n).s, D64 (lvAt lv n).l, D64 (lvAt lv n).h] 100 := Blk.drewN (Blk.new rfl) _
          have br4 : Below w.heap.size w ((w3.alloc (.cells #[D64 (lvAt lv n).x, D64 (lvAt lv n).s, D64 (lvAt lv n).l, D64 (lvAt lv n).h] 100)).drewN (m4 + 1)) := Below.drewN (br3.alloc br3.size _) _
          have hA2 : A.length - 1 = n := by have := Hn.out; omega
          have hnl : n < A.length := by have := Hn.out; omega
          obtain ⟨-, q1, q2, q3⟩ := fld (L.out n hnl)
          have HA : Hid _ := hA
          have HA2 : Hid _ := hA2
          clear c0 c1 f0 f1 r0 r1 r2 r3 hwr hlt8 hsub hne1 hne2 hA hA2 hnl

          have l1 := text_len mv
          have l2 := text_len (lvAt lv n).l
          have l3 := text_len (lvAt lv n).h
          rw [← str_size] at l1 l2 l3
          go_wp2_with fail
          refine (text_any _ _).mono ?_
          rintro e w5 ⟨rfl, b5⟩
          have T5 := T0.below b5 T0.lt
          have br5 := br4.trans (b5.mono br4.size)
          clear T0 br4 b5
          obtain ⟨t1, t2, t3⟩ := T5.facts
          go_wp2_with fail
          refine (text_any _ _).mono ?_
          rintro e w6 ⟨rfl, b6⟩
          have T6 := T5.below b6 T5.lt
          have br6 := br5.trans (b6.mono br5.size)
          clear T5 br5 b6 t1 t2 t3
          obtain ⟨t1, t2, t3⟩ := T6.facts
          go_wp2_with fail
          refine (text_any _ _).mono ?_
          rintro e w7 ⟨rfl, b7⟩
          have br7 := br6.trans (b7.mono br6.size)
          clear T6 br6 b7 t1 t2 t3
          go_wp2
          go_ret
          refine ⟨?_, br7⟩
          show Ending.returned (.string (str (showPre A A.length) ++ str [32, 115, 61] ++ str (text64 v) ++ str [32, 109, 61] ++ str (text64 mv) ++ str [32, 108, 61] ++ str (text64 (lvAt lv n).l) ++ str [32, 104, 61] ++ str (text64 (lvAt lv n).h))) = _
          simp only [str_append]
          unfold showF
          rw [if_neg HA.out, ← text_can v, ← text_can mv, ← text_can (lvAt lv n).l, ← text_can (lvAt lv n).h, show can .f64 v = sumF A from cv, show can .f64 mv = meanF A from cm, show can .f64 (lvAt lv n).l = _ from q2, show can .f64 (lvAt lv n).h = _ from q3]
          unfold minF maxF
          rw [if_neg HA.out, if_neg HA.out, HA2.out]
          simp only [List.append_assoc]
end Go.Proofs.Qxb6500472a
