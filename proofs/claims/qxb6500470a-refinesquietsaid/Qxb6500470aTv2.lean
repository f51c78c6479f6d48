import Derived.Test.Qxb6500470aTv1
namespace Go.Proofs.Qxb6500470a
open Go.RowKit
set_option maxHeartbeats 400000 in
theorem strShowL (s : List UInt8) (hs : s.length ≤ 1000) (w : World) : Calls Try.prog 150 #[S s] w fun e w' => e = .returned (S (itoa s.length ++ [58] ++ s)) ∧ Below w.heap.size w w' := by
  have hit := itoa_any (s.length : Nat) (by omega) (by omega) w
  have hl := itoa_len (s.length : Nat) (by omega) (by omega)
  rw [← str_size] at hl
  have hsz : (str s).size = s.length := str_size s
  have hs' : (str s).size ≤ 1000 := by rw [str_size]; exact hs
  go_enter Try.func150, Try.ntmps150
  go_wp2_with fail
  refine hit.mono ?_
  rintro e w1 ⟨rfl, b1⟩
  go_wp2
  go_ret
  refine ⟨?_, b1⟩
  show Ending.returned (.string (str (itoa (s.length : Nat)) ++ str [58] ++ str s)) = _
  rw [str_append, str_append]
set_option maxHeartbeats 2000000 in
theorem pairShow (a b : TV) (iha : ShowC a) (ihb : ShowC b) (K : Nat → Prop) (w : World) (q0 : Nat) (av bv : Value) (kq : K q0) (b0 : Blk w q0 #[av, bv] 91) (r1 : RV K w a av) (r2 : RV K w b bv) (ks : ∀ k, K k → k < w.heap.size) (hlen : (text (.pair a b)).length ≤ 1000) :
    Calls Try.prog 146 #[ptr q0] w fun e w' => e = .returned (S (text (.pair a b))) ∧ Below w.heap.size w w' := by
  have hl := congrArg List.length (text_pair a b)
  simp at hl
  have ha : (str (text a)).size ≤ 1000 := by rw [str_size]; omega
  have hb : (str (text b)).size ≤ 1000 := by rw [str_size]; omega
  have la : (text a).length ≤ 1000 := by omega
  have lb : (text b).length ≤ 1000 := by omega
  rw [text_pair]
  obtain ⟨t1, u1, f1, v1, rfl, hf1, hm1, hc1⟩ := iha K w av r1 ks la
  obtain ⟨c1, c2, c3⟩ := b0.facts
  clear hl hlen
  generalize hTa : text a = Ta at *
  generalize hTb : text b = Tb at *
  rcases hf1 with rfl | rfl | rfl | rfl
  · go_enter Try.func146, Try.ntmps146
    go_wp2_with fail
    refine hc1.mono ?_
    rintro e w1 ⟨rfl, d1⟩
    have kk := Kept.of_below (K := K) d1 ks
    have b1 := b0.kept kk kq
    have ks1 : ∀ k, K k → k < w1.heap.size := fun k hk => Nat.lt_of_lt_of_le (ks k hk) d1.size
    obtain ⟨t2, u2, f2, v2, rfl, hf2, hm2, hc2⟩ := ihb K w1 bv (r2.kept kk) ks1 (by rw [hTb]; exact lb)
    rw [hTb] at hc2
    clear c1 c2 c3 hc1 hm1
    obtain ⟨c1, c2, c3⟩ := b1.facts
    rcases hf2 with rfl | rfl | rfl | rfl
    · go_wp2_with fail
      refine hc2.mono ?_
      rintro e w2 ⟨rfl, d2⟩
      clear c1 c2 c3 hc2 hm2
      go_wp2
      go_ret
      refine ⟨?_, d1.trans (d2.mono d1.size)⟩
      show Ending.returned (.string (str [60] ++ str Ta ++ str [32] ++ str Tb ++ str [62])) = _
      simp only [str_append]
      rfl
    · go_wp2_with fail
      refine hc2.mono ?_
      rintro e w2 ⟨rfl, d2⟩
      clear c1 c2 c3 hc2 hm2
      go_wp2
      go_ret
      refine ⟨?_, d1.trans (d2.mono d1.size)⟩
      show Ending.returned (.string (str [60] ++ str Ta ++ str [32] ++ str Tb ++ str [62])) = _
      simp only [str_append]
      rfl
    · go_wp2_with fail
      refine hc2.mono ?_
      rintro e w2 ⟨rfl, d2⟩
      clear c1 c2 c3 hc2 hm2
      go_wp2
      go_ret
      refine ⟨?_, d1.trans (d2.mono d1.size)⟩
      show Ending.returned (.string (str [60] ++ str Ta ++ str [32] ++ str Tb ++ str [62])) = _
      simp only [str_append]
      rfl
    · go_wp2_with fail
      refine hc2.mono ?_
      rintro e w2 ⟨rfl, d2⟩
      clear c1 c2 c3 hc2 hm2
      go_wp2
      go_ret
      refine ⟨?_, d1.trans (d2.mono d1.size)⟩
      show Ending.returned (.string (str [60] ++ str Ta ++ str [32] ++ str Tb ++ str [62])) = _
      simp only [str_append]
      rfl
  · go_enter Try.func146, Try.ntmps146
    go_wp2_with fail
    refine hc1.mono ?_
    rintro e w1 ⟨rfl, d1⟩
    have kk := Kept.of_below (K := K) d1 ks
    have b1 := b0.kept kk kq
    have ks1 : ∀ k, K k → k < w1.heap.size := fun k hk => Nat.lt_of_lt_of_le (ks k hk) d1.size
    obtain ⟨t2, u2, f2, v2, rfl, hf2, hm2, hc2⟩ := ihb K w1 bv (r2.kept kk) ks1 (by rw [hTb]; exact lb)
    rw [hTb] at hc2
    clear c1 c2 c3 hc1 hm1
    obtain ⟨c1, c2, c3⟩ := b1.facts
    rcases hf2 with rfl | rfl | rfl | rfl
    · go_wp2_with fail
      refine hc2.mono ?_
      rintro e w2 ⟨rfl, d2⟩
      clear c1 c2 c3 hc2 hm2
      go_wp2
      go_ret
      refine ⟨?_, d1.trans (d2.mono d1.size)⟩
      show Ending.returned (.string (str [60] ++ str Ta ++ str [32] ++ str Tb ++ str [62])) = _
      simp only [str_append]
      rfl
    · go_wp2_with fail
      refine hc2.mono ?_
      rintro e w2 ⟨rfl, d2⟩
      clear c1 c2 c3 hc2 hm2
      go_wp2
      go_ret
      refine ⟨?_, d1.trans (d2.mono d1.size)⟩
      show Ending.returned (.string (str [60] ++ str Ta ++ str [32] ++ str Tb ++ str [62])) = _
      simp only [str_append]
      rfl
    · go_wp2_with fail
      refine hc2.mono ?_
      rintro e w2 ⟨rfl, d2⟩
      clear c1 c2 c3 hc2 hm2
      go_wp2
      go_ret
      refine ⟨?_, d1.trans (d2.mono d1.size)⟩
      show Ending.returned (.string (str [60] ++ str Ta ++ str [32] ++ str Tb ++ str [62])) = _
      simp only [str_append]
      rfl
    · go_wp2_with fail
      refine hc2.mono ?_
      rintro e w2 ⟨rfl, d2⟩
      clear c1 c2 c3 hc2 hm2
      go_wp2
      go_ret
      refine ⟨?_, d1.trans (d2.mono d1.size)⟩
      show Ending.returned (.string (str [60] ++ str Ta ++ str [32] ++ str Tb ++ str [62])) = _
      simp only [str_append]
      rfl
  · go_enter Try.func146, Try.ntmps146
    go_wp2_with fail
    refine hc1.mono ?_
    rintro e w1 ⟨rfl, d1⟩
    have kk := Kept.of_below (K := K) d1 ks
    have b1 := b0.kept kk kq
    have ks1 : ∀ k, K k → k < w1.heap.size := fun k hk => Nat.lt_of_lt_of_le (ks k hk) d1.size
    obtain ⟨t2, u2, f2, v2, rfl, hf2, hm2, hc2⟩ := ihb K w1 bv (r2.kept kk) ks1 (by rw [hTb]; exact lb)
    rw [hTb] at hc2
    clear c1 c2 c3 hc1 hm1
    obtain ⟨c1, c2, c3⟩ := b1.facts
    rcases hf2 with rfl | rfl | rfl | rfl
    · go_wp2_with fail
      refine hc2.mono ?_
      rintro e w2 ⟨rfl, d2⟩
      clear c1 c2 c3 hc2 hm2
      go_wp2
      go_ret
      refine ⟨?_, d1.trans (d2.mono d1.size)⟩
      show Ending.returned (.string (str [60] ++ str Ta ++ str [32] ++ str Tb ++ str [62])) = _
      simp only [str_append]
      rfl
    · go_wp2_with fail
      refine hc2.mono ?_
      rintro e w2 ⟨rfl, d2⟩
      clear c1 c2 c3 hc2 hm2
      go_wp2
      go_ret
      refine ⟨?_, d1.trans (d2.mono d1.size)⟩
      show Ending.returned (.string (str [60] ++ str Ta ++ str [32] ++ str Tb ++ str [62])) = _
      simp only [str_append]
      rfl
    · go_wp2_with fail
      refine hc2.mono ?_
      rintro e w2 ⟨rfl, d2⟩
      clear c1 c2 c3 hc2 hm2
      go_wp2
      go_ret
      refine ⟨?_, d1.trans (d2.mono d1.size)⟩
      show Ending.returned (.string (str [60] ++ str Ta ++ str [32] ++ str Tb ++ str [62])) = _
      simp only [str_append]
      rfl
    · go_wp2_with fail
      refine hc2.mono ?_
      rintro e w2 ⟨rfl, d2⟩
      clear c1 c2 c3 hc2 hm2
      go_wp2
      go_ret
      refine ⟨?_, d1.trans (d2.mono d1.size)⟩
      show Ending.returned (.string (str [60] ++ str Ta ++ str [32] ++ str Tb ++ str [62])) = _
      simp only [str_append]
      rfl
  · go_enter Try.func146, Try.ntmps146
    go_wp2_with fail
    refine hc1.mono ?_
    rintro e w1 ⟨rfl, d1⟩
    have kk := Kept.of_below (K := K) d1 ks
    have b1 := b0.kept kk kq
    have ks1 : ∀ k, K k → k < w1.heap.size := fun k hk => Nat.lt_of_lt_of_le (ks k hk) d1.size
    obtain ⟨t2, u2, f2, v2, rfl, hf2, hm2, hc2⟩ := ihb K w1 bv (r2.kept kk) ks1 (by rw [hTb]; exact lb)
    rw [hTb] at hc2
    clear c1 c2 c3 hc1 hm1
    obtain ⟨c1, c2, c3⟩ := b1.facts
    rcases hf2 with rfl | rfl | rfl | rfl
    · go_wp2_with fail
      refine hc2.mono ?_
      rintro e w2 ⟨rfl, d2⟩
      clear c1 c2 c3 hc2 hm2
      go_wp2
      go_ret
      refine ⟨?_, d1.trans (d2.mono d1.size)⟩
      show Ending.returned (.string (str [60] ++ str Ta ++ str [32] ++ str Tb ++ str [62])) = _
      simp only [str_append]
      rfl
    · go_wp2_with fail
      refine hc2.mono ?_
      rintro e w2 ⟨rfl, d2⟩
      clear c1 c2 c3 hc2 hm2
      go_wp2
      go_ret
      refine ⟨?_, d1.trans (d2.mono d1.size)⟩
      show Ending.returned (.string (str [60] ++ str Ta ++ str [32] ++ str Tb ++ str [62])) = _
      simp only [str_append]
      rfl
    · go_wp2_with fail
      refine hc2.mono ?_
      rintro e w2 ⟨rfl, d2⟩
      clear c1 c2 c3 hc2 hm2
      go_wp2
      go_ret
      refine ⟨?_, d1.trans (d2.mono d1.size)⟩
      show Ending.returned (.string (str [60] ++ str Ta ++ str [32] ++ str Tb ++ str [62])) = _
      simp only [str_append]
      rfl
    · go_wp2_with fail
      refine hc2.mono ?_
      rintro e w2 ⟨rfl, d2⟩
      clear c1 c2 c3 hc2 hm2
      go_wp2
      go_ret
      refine ⟨?_, d1.trans (d2.mono d1.size)⟩
      show Ending.returned (.string (str [60] ++ str Ta ++ str [32] ++ str Tb ++ str [62])) = _
      simp only [str_append]
      rfl
theorem showC_all : ∀ n x, sz x ≤ n → ShowC x := by
  intro n
  induction n with
  | zero => intro x hx; cases x <;> simp [sz] at hx
  | succ n ih =>
    intro x hx K w v h ks hlen
    cases x with
    | int m =>
      obtain ⟨rfl, h1, h2⟩ := h
      exact ⟨_, _, _, _, rfl, .inl rfl, mShowI m, intShow m h1 h2 w⟩
    | str s =>
      obtain rfl : v = VS s := h
      have : (text (.str s)).length = (itoa s.length ++ [58] ++ s).length := rfl
      simp at this
      exact ⟨_, _, _, _, rfl, .inr (.inl rfl), mShowS (str s), strShowL s (by omega) w⟩
    | nil =>
      obtain rfl : v = VL := h
      exact ⟨_, _, _, _, rfl, .inr (.inr (.inl rfl)), mShowL none, (nilShow w).mono (by rintro e w' ⟨rfl, rfl⟩; exact ⟨rfl, Below.refl _ _⟩)⟩
    | cons a b =>
      obtain ⟨q, hv, tp, rfl, k, bl, r1, r2⟩ := h
      exact ⟨_, _, _, _, rfl, .inr (.inr (.inl rfl)), mShowL _, listShow a b (fun y hy => ih y (by omega)) K w q hv tp k bl r1 r2 ks hlen⟩
    | pair a b =>
      obtain ⟨q, av, bv, rfl, k, bl, r1, r2⟩ := h
      simp [sz] at hx
      exact ⟨_, _, _, _, rfl, .inr (.inr (.inr rfl)), mShowP _, pairShow a b (ih a (by omega)) (ih b (by omega)) K w q av bv k bl r1 r2 ks hlen⟩
theorem showC (x : TV) : ShowC x := showC_all (sz x) x (Nat.le_refl _)
set_option maxHeartbeats 1000000 in
theorem fits_any (x : TV) (K : Nat → Prop) (w : World) (v : Value) (h : RV K w x v) (ks : ∀ k, K k → k < w.heap.size) (hlen : (text x).length ≤ 1000) :
    Calls Try.prog 57 #[v] w fun e w' => e = .returned (.bool (decide ((text x).length ≤ 30))) ∧ Below w.heap.size w w' := by
  obtain ⟨t1, u1, f1, v1, rfl, hf1, hm1, hc1⟩ := showC x K w v h ks hlen
  have hsz : (str (text x)).size = (text x).length := str_size _
  have key : (.bool (decide (((text x).length : Int) ≤ 30)) : Value) = .bool (decide ((text x).length ≤ 30)) := by congr 1; exact decide_eq_decide.2 (by omega)
  rcases hf1 with rfl | rfl | rfl | rfl
  · go_enter Try.func57, Try.ntmps57
    go_wp2_with fail
    refine hc1.mono ?_
    rintro e w1 ⟨rfl, b1⟩
    go_wp2
    go_ret
    exact ⟨rfl, b1⟩
  · go_enter Try.func57, Try.ntmps57
    go_wp2_with fail
    refine hc1.mono ?_
    rintro e w1 ⟨rfl, b1⟩
    go_wp2
    go_ret
    exact ⟨rfl, b1⟩
  · go_enter Try.func57, Try.ntmps57
    go_wp2_with fail
    refine hc1.mono ?_
    rintro e w1 ⟨rfl, b1⟩
    go_wp2
    go_ret
    exact ⟨rfl, b1⟩
  · go_enter Try.func57, Try.ntmps57
    go_wp2_with fail
    refine hc1.mono ?_
    rintro e w1 ⟨rfl, b1⟩
    go_wp2
    go_ret
    exact ⟨rfl, b1⟩
end Go.Proofs.Qxb6500470a
